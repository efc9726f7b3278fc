/- Formulas in the heap, and lists that are being made. -/
import Derived.Test.YthhgenogeibfpaaGreatDoorLgData
set_option linter.unusedVariables false
set_option linter.unusedSimpArgs false
namespace Go.Proofs.YthhgenogeibfpaaGreatDoor.D
open Go.Det

theorem cells_eq (f : Fm) : f.cells = [.int .i64 f.op, .int .i64 f.n, .str f.s, f.sl] := by cases f; rfl
abbrev Z4 : List FV := [.int .i64 0, .int .i64 0, .str [], .nilSl]
section
variable {a b c : SObj} {r h : List SObj} {ty e : Nat} {x0 x1 x2 x3 v : SV} {f g : Fm}
@[simp] theorem cellsOf_mkAgg {l : List SV} : cellsOf (mkAgg l) = some l := by
  unfold mkAgg
  split
  · rename_i l' hl
    have := allF_get hl
    simp [cellsOf, this]
  · rfl
theorem ldQ3 : ldV (a :: b :: .cells ty e [x0, x1, x2, x3] :: r) false 1 (.ptr 2 3 4) = some x3 := ld_ptr rfl rfl rfl
theorem ldQ : ldV (a :: b :: .cells ty e [x0, x1, x2, x3] :: r) true 4 (.ptr 2 0 4) = some (mkAgg [x0, x1, x2, x3]) := rfl
theorem ldP : ldV (a :: .cells ty e [x0, x1, x2, x3] :: r) true 4 (.ptr 1 0 4) = some (mkAgg [x0, x1, x2, x3]) := rfl
theorem stQ3 (hv : cellsOf v = some [v]) : stV (a :: b :: .cells ty e [x0, x1, x2, x3] :: r) 1 (.ptr 2 3 4) v = some (a :: b :: .cells ty e [x0, x1, x2, v] :: r) := by
  simp [stV, hv]
theorem stP {y : SV} (hv : cellsOf y = some [x0, x1, x2, x3]) {z0 z1 z2 z3 : SV} : stV (a :: .cells ty e [z0, z1, z2, z3] :: r) 4 (.ptr 1 0 4) y = some (a :: .cells ty e [x0, x1, x2, x3] :: r) := by
  simp [stV, hv]
theorem cellsOf_fm : cellsOf (.f (.agg f.cells)) = some [.f (.int .i64 f.op), .f (.int .i64 f.n), .f (.str f.s), .f f.sl] := by rw [cells_eq]; rfl
theorem stPf {z0 z1 z2 z3 : SV} : stV (a :: .cells ty e [z0, z1, z2, z3] :: r) 4 (.ptr 1 0 4) (.f (.agg f.cells)) = some (a :: .cells ty e (List.map SV.f f.cells) :: r) := by
  rw [stP cellsOf_fm, cells_eq]; rfl
theorem stQf {z0 z1 z2 z3 : SV} : stV (a :: b :: .cells ty e [z0, z1, z2, z3] :: r) 4 (.ptr 2 0 4) (.f (.agg f.cells)) = some (a :: b :: .cells ty e (List.map SV.f f.cells) :: r) := by
  simp [stV, cellsOf_fm]; simp [cells_eq]
theorem stQ {y : SV} (hv : cellsOf y = some [x0, x1, x2, x3]) {z0 z1 z2 z3 : SV} : stV (a :: b :: .cells ty e [z0, z1, z2, z3] :: r) 4 (.ptr 2 0 4) y = some (a :: b :: .cells ty e [x0, x1, x2, x3] :: r) := by
  simp [stV, hv]
theorem msF : msV 1 Z4 [(0, 4, .f (.agg f.cells))] = some (.f (.sl true 1 f.cells)) := by rw [cells_eq]; rfl
theorem mkF : mksliceO h 1 Z4 [(0, 4, .f (.agg f.cells))] 28 4 = some [(.f (.sl true 1 f.cells), h)] := by rw [cells_eq]; rfl
theorem bldF : bldV Z4 [(0, 1, .f (.int .i64 3)), (3, 1, .f (.sl true 1 f.cells))] = some (.f (.agg (Fm.mk 3 0 [] (some true) [f]).cells)) := by
  have : (Fm.mk 3 0 [] (some true) [f]).cells = [.int .i64 3, .int .i64 0, .str [], .sl true 1 f.cells] := by simp [Fm.cells, slF, cellsL]
  rw [this]; rfl
theorem bldOp {n : Int} : bldV Z4 [(0, 1, .f (.int .i64 n))] = some (.f (.agg (Fm.mk n 0 [] none []).cells)) := rfl
end
/-- A list that is being made: what it is, and the heap behind it. -/
def mkV (b : Nat) (l : List Fm) : SV := if l = [] then .f .nilSl else .row b 0 l.length (l.length * 4) false
def mkH (l : List Fm) : List SObj := if l = [] then [] else [.cells 28 4 ((cellsL l).map .f)]
theorem mkV_cells {b : Nat} {l : List Fm} : cellsOf (mkV b l) = some [mkV b l] := by
  unfold mkV; split <;> rfl
theorem mk_app {h : List SObj} {l : List Fm} {g : Fm} (hl : l.length ≤ 1048576) :
    appendOp (h ++ mkH l) 28 4 56 (mkV h.length l) (.f (.sl true 1 g.cells)) = some (mkV h.length (l ++ [g]), h ++ mkH (l ++ [g])) := by
  by_cases h0 : l = []
  · subst h0
    simp only [mkV, mkH, if_true, List.append_nil, List.nil_append]
    rw [app_nil (by omega) (by simp) (by omega) (by omega)]
    simp [cellsL]
  · have h1 : l ++ [g] ≠ [] := by simp
    simp only [mkV, mkH, if_neg h0, if_neg h1]
    have hb : (h ++ [SObj.cells 28 4 ((cellsL l).map SV.f)])[h.length]? = some (.cells 28 4 ((cellsL l).map SV.f)) := by simp
    rw [app_row hb (by simp [cellsL_len]) (by omega) (by simp) (by omega) (by omega)]
    simp [cellsL_append, cellsL]
    omega
theorem trim_mk {a b : SObj} {ty e : Nat} {x0 x1 x2 : SV} {vs : List SV} {l : List Fm} : trim 3 vs (a :: b :: .cells ty e [x0, x1, x2, mkV 3 l] :: mkH l) = a :: b :: .cells ty e [x0, x1, x2, mkV 3 l] :: mkH l := by
  by_cases h0 : l = []
  · subst h0; exact trim_same rfl
  · unfold trim
    simp only [mkH, if_neg h0, List.length_cons, List.length_nil]
    rw [if_neg (by omega), if_neg]
    simp [belowO, belows, mkV, h0, Go.Det.below]
theorem frz_mk {a b c : SObj} {x0 x1 x2 : FV} {l : List Fm} : frz (a :: b :: c :: mkH l) 100 (mkAgg [.f x0, .f x1, .f x2, mkV 3 l]) = some (.agg [x0, x1, x2, slF none l.length (cellsL l)]) := by
  by_cases h0 : l = []
  · subst h0; rfl
  · have hne : l.length ≠ 0 := by intro h; exact h0 (List.eq_nil_of_length_eq_zero h)
    have e1 : mkAgg [.f x0, .f x1, .f x2, mkV 3 l] = .agg [.f x0, .f x1, .f x2, mkV 3 l] := by simp [mkAgg, allF, mkV, h0]
    rw [e1, frz_agg]
    have e2 : frz (a :: b :: c :: mkH l) 99 (mkV 3 l) = some (.sl false l.length (cellsL l)) := by
      simp only [mkV, mkH, if_neg h0]
      exact frz_row rfl (by rw [cellsL_len]) rfl
    simp only [frzL, frz_f', e2, slF, if_neg hne]
    rfl
end Go.Proofs.YthhgenogeibfpaaGreatDoor.D
