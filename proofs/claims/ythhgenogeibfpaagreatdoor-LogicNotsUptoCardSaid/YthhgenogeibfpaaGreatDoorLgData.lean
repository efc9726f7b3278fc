/- Formulas as data. -/
import Derived.Test.YthhgenogeibfpaaGreatDoorDC
namespace Go.Proofs.YthhgenogeibfpaaGreatDoor.D
open Go.Det

inductive Fm where
  | mk (op n : Int) (s : List UInt8) (z : Option Bool) (l : List Fm)
mutual
def Fm.cells : Fm → List FV
  | .mk op n s z l => [.int .i64 op, .int .i64 n, .str s, slF z l.length (cellsL l)]
def cellsL : List Fm → List FV
  | [] => []
  | f :: r => f.cells ++ cellsL r
end
theorem cells_len : ∀ f : Fm, f.cells.length = 4
  | .mk .. => rfl
theorem cellsL_len : ∀ l : List Fm, (cellsL l).length = l.length * 4
  | [] => rfl
  | f :: r => by simp only [cellsL, List.length_append, cells_len, cellsL_len r, List.length_cons]; omega
theorem cellsL_append : ∀ l m : List Fm, cellsL (l ++ m) = cellsL l ++ cellsL m
  | [], _ => rfl
  | f :: r, m => by simp only [List.cons_append, cellsL, cellsL_append r m, List.append_assoc]
theorem cellsL_drop (l : List Fm) (i : Nat) : (cellsL l).drop (i * 4) = cellsL (l.drop i) := by
  induction i generalizing l with
  | zero => simp
  | succ i ih =>
    cases l with
    | nil => simp [cellsL]
    | cons f r =>
      rw [List.drop_succ_cons, ← ih r, cellsL, show (i + 1) * 4 = f.cells.length + i * 4 by rw [cells_len]; omega, List.drop_append]
      simp
theorem cellsL_take (f : Fm) (r : List Fm) : (cellsL (f :: r)).take 4 = f.cells := by
  rw [cellsL, ← cells_len f, List.take_left']; rfl
/-- Part i of a list of formulas, loaded. -/
theorem part_addr {z : Option Bool} {l r : List Fm} {f : Fm} {i : Nat} (h : l.drop i = f :: r) : iaddr (.sl 4) (.f (slF z l.length (cellsL l))) (.f (.int .i64 i)) = some (.f (.ptr (cellsL (f :: r)))) := by
  have hi : i < l.length := by
    rcases Nat.lt_or_ge i l.length with h1 | h1
    · exact h1
    · rw [List.drop_eq_nil_iff.2 h1] at h; cases h
  rw [iaddr_slF (by omega) (by omega)]
  simp only [Int.toNat_natCast]
  rw [cellsL_drop, h]
theorem part_load {h : List SObj} {f : Fm} {r : List Fm} : ldV h true 4 (.f (.ptr (cellsL (f :: r)))) = some (.f (.agg f.cells)) := by
  rw [ld_f_agg (by rw [cellsL_len]; simp only [List.length_cons]; omega), cellsL_take]
theorem drop_next {α : Type} {l r : List α} {f : α} {i : Nat} (h : l.drop i = f :: r) : l.drop (i + 1) = r := by
  rw [← List.drop_drop, h]; rfl
theorem drop_lt {α : Type} {l r : List α} {f : α} {i : Nat} (h : l.drop i = f :: r) : i < l.length := by
  rcases Nat.lt_or_ge i l.length with h1 | h1
  · exact h1
  · rw [List.drop_eq_nil_iff.2 h1] at h; cases h
theorem drop_nil' {α : Type} {l : List α} {i : Nat} (h : l.drop i = []) : l.length ≤ i := List.drop_eq_nil_iff.1 h
mutual
/-- How many values and letters a formula has. -/
def Fm.size : Fm → Nat
  | .mk _ _ s _ l => 4 + s.length + sizeL l
def sizeL : List Fm → Nat
  | [] => 0
  | f :: r => f.size + sizeL r
end
theorem sizeL_len : ∀ l : List Fm, l.length ≤ sizeL l
  | [] => Nat.le_refl _
  | .mk .. :: r => by have := sizeL_len r; simp only [List.length_cons, sizeL, Fm.size]; omega
theorem sizeL_mem {f : Fm} : ∀ {l : List Fm}, f ∈ l → f.size ≤ sizeL l
  | [], h => by cases h
  | g :: r, h => by
    simp only [sizeL]
    rcases List.mem_cons.1 h with rfl | h
    · omega
    · have := sizeL_mem h; omega
theorem drop_mem {α : Type} {l r : List α} {f : α} {i : Nat} (h : l.drop i = f :: r) : f ∈ l := List.mem_of_mem_drop (h ▸ List.mem_cons_self)
def Fm.op : Fm → Int | .mk o _ _ _ _ => o
def Fm.n : Fm → Int | .mk _ n _ _ _ => n
def Fm.s : Fm → List UInt8 | .mk _ _ s _ _ => s
def Fm.z : Fm → Option Bool | .mk _ _ _ z _ => z
def Fm.ls : Fm → List Fm | .mk _ _ _ _ l => l
def Fm.sl (f : Fm) : FV := slF f.z f.ls.length (cellsL f.ls)
section
variable {f : Fm} {r : List SObj} {x : SObj} {ty e : Nat}
@[simp] theorem ldA0 : ldV (.cells ty e (List.map SV.f f.cells) :: r) false 1 (.ptr 0 0 4) = some (.f (.int .i64 f.op)) := by cases f; exact ld_ptr rfl rfl rfl
@[simp] theorem ldA1 : ldV (.cells ty e (List.map SV.f f.cells) :: r) false 1 (.ptr 0 1 4) = some (.f (.int .i64 f.n)) := by cases f; exact ld_ptr rfl rfl rfl
@[simp] theorem ldA2 : ldV (.cells ty e (List.map SV.f f.cells) :: r) false 1 (.ptr 0 2 4) = some (.f (.str f.s)) := by cases f; exact ld_ptr rfl rfl rfl
@[simp] theorem ldA3 : ldV (.cells ty e (List.map SV.f f.cells) :: r) false 1 (.ptr 0 3 4) = some (.f f.sl) := by cases f; exact ld_ptr rfl rfl rfl
@[simp] theorem ldA : ldV (.cells ty e (List.map SV.f f.cells) :: r) true 4 (.ptr 0 0 4) = some (.f (.agg f.cells)) := by cases f; exact ld_ptr_agg rfl rfl (Nat.le_refl _) rfl
@[simp] theorem ldB0 : ldV (x :: .cells ty e (List.map SV.f f.cells) :: r) false 1 (.ptr 1 0 4) = some (.f (.int .i64 f.op)) := by cases f; exact ld_ptr rfl rfl rfl
@[simp] theorem ldB1 : ldV (x :: .cells ty e (List.map SV.f f.cells) :: r) false 1 (.ptr 1 1 4) = some (.f (.int .i64 f.n)) := by cases f; exact ld_ptr rfl rfl rfl
@[simp] theorem ldB2 : ldV (x :: .cells ty e (List.map SV.f f.cells) :: r) false 1 (.ptr 1 2 4) = some (.f (.str f.s)) := by cases f; exact ld_ptr rfl rfl rfl
@[simp] theorem ldB3 : ldV (x :: .cells ty e (List.map SV.f f.cells) :: r) false 1 (.ptr 1 3 4) = some (.f f.sl) := by cases f; exact ld_ptr rfl rfl rfl
@[simp] theorem ldB : ldV (x :: .cells ty e (List.map SV.f f.cells) :: r) true 4 (.ptr 1 0 4) = some (.f (.agg f.cells)) := by cases f; exact ld_ptr_agg rfl rfl (Nat.le_refl _) rfl
@[simp] theorem len_fsl {h : List SObj} : lenV h .sl (.f f.sl) = some (.f (.int .i64 f.ls.length)) := len_slF
@[simp] theorem cells_length : f.cells.length = 4 := cells_len f
end
theorem part_at {f g : Fm} {r : List Fm} {i : Nat} (h : f.ls.drop i = g :: r) : iaddr (.sl 4) (.f f.sl) (.f (.int .i64 i)) = some (.f (.ptr (cellsL (g :: r)))) := part_addr h
theorem size_eq (f : Fm) : f.size = 4 + f.s.length + sizeL f.ls := by cases f; rfl
theorem size_part {f g : Fm} {r : List Fm} {i : Nat} (h : f.ls.drop i = g :: r) : g.size < f.size := by
  have := sizeL_mem (drop_mem h); have := size_eq f; omega
theorem len_le (f : Fm) : f.ls.length ≤ f.size := by
  have := sizeL_len f.ls; have := size_eq f; omega
mutual
def nodesS (lim : Int) : Fm → Int
  | .mk _ _ _ _ l => nodesL lim 1 l
def nodesL (lim n : Int) : List Fm → Int
  | [] => n
  | f :: r => if n ≤ lim then nodesL lim (n + nodesS (lim - n) f) r else n
end
mutual
theorem nodesS_le : ∀ (lim : Int) (f : Fm), 1 ≤ nodesS lim f ∧ nodesS lim f ≤ f.size
  | lim, .mk _ _ s _ l => by
    have := nodesL_le lim 1 l
    simp only [nodesS, Fm.size]; omega
theorem nodesL_le : ∀ (lim n : Int) (l : List Fm), n ≤ nodesL lim n l ∧ nodesL lim n l ≤ n + sizeL l
  | lim, n, [] => by simp [nodesL, sizeL]
  | lim, n, f :: r => by
    simp only [nodesL, sizeL]
    split
    · have h1 := nodesS_le (lim - n) f
      have h2 := nodesL_le lim (n + nodesS (lim - n) f) r
      omega
    · omega
end
def partsS (op : Int) : Int :=
  if op = 1 ∨ op = 2 then 0
  else if op = 3 ∨ op = 6 ∨ op = 7 ∨ op = 10 ∨ op = 11 ∨ op = 12 ∨ op = 13 ∨ op = 14 then 1
  else if op = 4 ∨ op = 5 ∨ op = 8 ∨ op = 9 then 2
  else -1
def badS (f : Fm) : Bool := decide (partsS f.op ≠ f.ls.length) || (decide (f.op ≠ 2) && decide (f.n ≠ 0)) || (decide (f.s ≠ []) != decide (f.op = 14))
mutual
def formedS : Fm → Bool
  | .mk op n s z l => !badS (.mk op n s z l) && formedL l
def formedL : List Fm → Bool
  | [] => true
  | f :: r => formedS f && formedL r
end
theorem formed_eq (f : Fm) : formedS f = (!badS f && formedL f.ls) := by cases f; rw [formedS]; rfl
mutual
/-- Are two formulas one, whatever their slices are? -/
def eqS : Fm → Fm → Bool
  | .mk o n s _ l, .mk o' n' s' _ l' => decide (o = o') && decide (n = n') && decide (s = s') && eqSL l l'
def eqSL : List Fm → List Fm → Bool
  | [], [] => true
  | f :: r, g :: t => eqS f g && eqSL r t
  | _, _ => false
end
def dualS (op : Int) : Int :=
  if op = 4 then 5 else if op = 5 then 4 else if op = 6 then 7 else if op = 7 then 6 else if op = 10 then 13 else if op = 13 then 10 else if op = 11 then 12 else if op = 12 then 11 else 0
mutual
/-- The complement, as the reference makes it. -/
def notR : Fm → Fm
  | .mk op n s z l =>
    if op = 3 ∧ l.length = 1 then l.headD (.mk op n s z l)
    else if dualS op = 0 ∨ (l.length : Int) ≠ partsS op then .mk 3 0 [] (some true) [.mk op n s z l]
    else .mk (dualS op) 0 [] none (notRL l)
def notRL : List Fm → List Fm
  | [] => []
  | f :: r => notR f :: notRL r
end
theorem notRL_len : ∀ l : List Fm, (notRL l).length = l.length
  | [] => rfl
  | f :: r => by simp [notRL, notRL_len r]
def deepS : Nat → Fm → Bool
  | 0, _ => true
  | n + 1, .mk _ _ _ _ l => l.any (deepS n)
end Go.Proofs.YthhgenogeibfpaaGreatDoor.D
