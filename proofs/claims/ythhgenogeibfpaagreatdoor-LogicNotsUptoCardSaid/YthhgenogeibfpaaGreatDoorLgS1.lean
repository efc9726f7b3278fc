/- What the functions on formulas come to, 1. -/
import Derived.Test.YthhgenogeibfpaaGreatDoorLgF1
import Derived.Test.YthhgenogeibfpaaGreatDoorLgData
set_option linter.unusedVariables false
set_option linter.unusedSimpArgs false
namespace Go.Proofs.YthhgenogeibfpaaGreatDoor.D
open Go.Det

theorem deep_eq (n : Nat) (f : Fm) : deepS (n + 1) f = f.ls.any (deepS n) := by cases f; rfl
theorem deep_run : ∀ (n : Nat) (f : Fm), n ≤ 1000 → f.size ≤ 1048576 → pcall pr 21 [.agg f.cells, .int .i64 n] = some (.bool (deepS n f))
  | 0, f, _, _ => by
    apply p21
    unfold F21
    simp [deepS]
  | n + 1, f, hn, hs => by
    have hll := len_le f
    have loop : ∀ (r : List Fm) (i : Nat), f.ls.drop i = r → L21x1 1 (.f (.int .i64 (n + 1))) (.ptr 0 0 4) (.f (.int .i64 i)) [.cells 28 0 (f.cells.map .f)] (fun v h => frz h 100 v = some (.bool (r.any (deepS n)))) := by
      intro r
      induction r with
      | nil =>
        intro i hi
        have := drop_nil' hi
        apply l21x1
        unfold F21x1
        simp
        refine ⟨fun h => by omega, fun _ => ?_⟩
        apply l21x0
        simp [F21x0]
      | cons g r ih =>
        intro i hi
        have := drop_lt hi
        have hf := size_part hi
        have hc : ∀ h, lcall pr 21 [.f (.agg g.cells), .f (.int .i64 n)] h = some [(.f (.bool (deepS n g)), h)] := fun h => c21 _ _ (deep_run n g (by omega) (by omega))
        have ih' := ih (i + 1) (drop_next hi)
        apply l21x1
        unfold F21x1
        simp (disch := omega) [part_at hi, part_load, hc, w64]
        refine ⟨fun _ => ⟨fun h => by simp [h], fun h => ?_⟩, fun h => by omega⟩
        simpa [h] using ih'
    apply p21
    unfold F21
    simp
    refine ⟨fun h => by omega, fun _ => ?_⟩
    rw [deep_eq]
    exact loop f.ls 0 rfl
theorem nodes_eq (lim : Int) (f : Fm) : nodesS lim f = nodesL lim 1 f.ls := by cases f; rw [nodesS]; rfl
theorem nodes_run : ∀ (N : Nat) (f : Fm) (lim : Int), f.size ≤ N → f.size ≤ 1048576 → 0 ≤ lim → lim ≤ 1000 → pcall pr 22 [.agg f.cells, .int .i64 lim] = some (.int .i64 (nodesS lim f))
  | 0, f, lim, h, _, _, _ => by have := size_eq f; omega
  | N + 1, f, lim, h, hs, h0, h1 => by
    have hll := len_le f
    have loop : ∀ (r : List Fm) (i : Nat) (n : Int), f.ls.drop i = r → 1 ≤ n → n + sizeL r ≤ 1048577 → L22x1 1 (.f (.int .i64 lim)) (.ptr 0 0 4) (.f (.int .i64 n)) (.f (.int .i64 i)) [.cells 28 0 (f.cells.map .f)] (fun v h => frz h 100 v = some (.int .i64 (nodesL lim n r))) := by
      intro r
      induction r with
      | nil =>
        intro i n hi hn hb
        have := drop_nil' hi
        apply l22x1
        unfold F22x1
        have hlt : ¬ (i : Int) < f.ls.length := by omega
        simp [hlt]
        apply l22x0
        simp [F22x0, nodesL]
      | cons g r ih =>
        intro i n hi hn hb
        have hlt : (i : Int) < f.ls.length := by have := drop_lt hi; omega
        have hf := size_part hi
        simp only [sizeL] at hb
        apply l22x1
        unfold F22x1
        by_cases hnl : n ≤ lim
        · have hc : ∀ h, lcall pr 22 [.f (.agg g.cells), .f (.int .i64 (lim - n))] h = some [(.f (.int .i64 (nodesS (lim - n) g)), h)] := fun h => c22 _ _ (nodes_run N g (lim - n) (by omega) (by omega) (by omega) (by omega))
          have hle := nodesS_le (lim - n) g
          have ih' := ih (i + 1) (n + nodesS (lim - n) g) (drop_next hi) (by omega) (by omega)
          simp (disch := omega) [hlt, hnl, part_at hi, part_load, hc, w64, nodesL]
          simpa using ih'
        · simp [hlt, hnl, nodesL]
          apply l22x0
          simp [F22x0]
    apply p22
    unfold F22
    simp
    rw [nodes_eq]
    exact loop f.ls 0 1 rfl (by omega) (by have := size_eq f; omega)
theorem parts_run (op : Int) : pcall pr 64 [.int .i64 op] = some (.int .i64 (partsS op)) := by
  have h2 : ∀ (b : Bool) (h : List SObj) (k : SV → List SObj → Prop), k (.f (.int .i64 (if b then 2 else -1))) h → L64x2 (.f (.bool b)) h k := by
    intro b h k w
    apply l64x2
    unfold F64x2
    cases b <;> simpa using w
  have h1 : ∀ (b : Bool) (h : List SObj) (k : SV → List SObj → Prop), k (.f (.int .i64 (if b then 1 else if op = 4 ∨ op = 5 ∨ op = 8 ∨ op = 9 then 2 else -1))) h → L64x1 (.f (.int .i64 op)) (.f (.bool b)) h k := by
    intro b h k w
    apply l64x1
    unfold F64x1
    cases b
    · simp
      by_cases a4 : op = 4
      · simp [a4] at w ⊢; apply h2; simpa using w
      by_cases a5 : op = 5
      · simp [a5] at w ⊢; apply h2; simpa using w
      by_cases a8 : op = 8
      · simp [a8] at w ⊢; apply h2; simpa using w
      · simp [a4, a5, a8] at w ⊢; apply h2; simpa using w
    · simpa using w
  have h0 : ∀ (b : Bool) (h : List SObj) (k : SV → List SObj → Prop), k (.f (.int .i64 (if b then 0 else if op = 3 ∨ op = 6 ∨ op = 7 ∨ op = 10 ∨ op = 11 ∨ op = 12 ∨ op = 13 ∨ op = 14 then 1 else if op = 4 ∨ op = 5 ∨ op = 8 ∨ op = 9 then 2 else -1))) h → L64x0 (.f (.int .i64 op)) (.f (.bool b)) h k := by
    intro b h k w
    apply l64x0
    unfold F64x0
    cases b
    · simp
      by_cases a3 : op = 3
      · simp [a3] at w ⊢; rw [← a3]; apply h1; simpa using w
      by_cases a6 : op = 6
      · simp [a6] at w ⊢; rw [← a6]; apply h1; simpa using w
      by_cases a7 : op = 7
      · simp [a7] at w ⊢; rw [← a7]; apply h1; simpa using w
      by_cases a10 : op = 10
      · simp [a10] at w ⊢; rw [← a10]; apply h1; simpa using w
      by_cases a11 : op = 11
      · simp [a11] at w ⊢; rw [← a11]; apply h1; simpa using w
      by_cases a12 : op = 12
      · simp [a12] at w ⊢; rw [← a12]; apply h1; simpa using w
      by_cases a13 : op = 13
      · simp [a13] at w ⊢; rw [← a13]; apply h1; simpa using w
      · simp [a3, a6, a7, a10, a11, a12, a13] at w ⊢; apply h1; simpa using w
    · simpa using w
  apply p64
  unfold F64 partsS
  simp
  refine ⟨fun a => ?_, fun a => ?_⟩
  · apply h0; simp [a]
  · apply h0; simp [a]
theorem formed_run : ∀ (N : Nat) (f : Fm), f.size ≤ N → f.size ≤ 1048576 → pcall pr 61 [.agg f.cells] = some (.bool (formedS f))
  | 0, f, h, _ => by have := size_eq f; omega
  | N + 1, f, h, hs => by
    have hll := len_le f
    have loop : ∀ (r : List Fm) (i : Nat), f.ls.drop i = r → L61x1 1 (.ptr 0 0 4) (.f (.int .i64 i)) [.cells 28 0 (f.cells.map .f)] (fun v h => frz h 100 v = some (.bool (formedL r))) := by
      intro r
      induction r with
      | nil =>
        intro i hi
        have := drop_nil' hi
        apply l61x1
        unfold F61x1
        simp
        refine ⟨fun h => by omega, fun _ => ?_⟩
        apply l61x0
        simp [F61x0, formedL]
      | cons g r ih =>
        intro i hi
        have := drop_lt hi
        have hf := size_part hi
        have hc : ∀ h, lcall pr 61 [.f (.agg g.cells)] h = some [(.f (.bool (formedS g)), h)] := fun h => c61 _ (formed_run N g (by omega) (by omega))
        have ih' := ih (i + 1) (drop_next hi)
        apply l61x1
        unfold F61x1
        simp (disch := omega) [part_at hi, part_load, hc, w64, formedL]
        refine ⟨fun _ => ⟨fun h => by simp [h], fun h => ?_⟩, fun h => by omega⟩
        simpa [h] using ih'
    have hp : ∀ h, lcall pr 64 [.f (.int .i64 f.op)] h = some [(.f (.int .i64 (partsS f.op)), h)] := fun h => c64 _ (parts_run f.op)
    apply p61
    unfold F61
    rw [formed_eq]
    have hl := loop f.ls 0 rfl
    by_cases a1 : partsS f.op = f.ls.length
    · by_cases a2 : f.op = 2
      · have a2' := eq_true a2
        have a5' : (f.op = 14) = False := eq_false (by omega)
        by_cases a3 : f.s = []
        · simp [hp, a1, a2', a5', a3, badS]
          simpa using hl
        · simp [hp, a1, a2', a5', a3, badS]
      · have a2' := eq_false a2
        by_cases a4 : f.n = 0
        · by_cases a3 : f.s = []
          · by_cases a5 : f.op = 14
            · have a5' := eq_true a5
              simp [hp, a1, a2', a3, a4, a5', badS]
            · have a5' := eq_false a5
              simp [hp, a1, a2', a3, a4, a5', badS]
              simpa using hl
          · by_cases a5 : f.op = 14
            · have a5' := eq_true a5
              simp [hp, a1, a2', a3, a4, a5', badS]
              simpa using hl
            · have a5' := eq_false a5
              simp [hp, a1, a2', a3, a4, a5', badS]
        · simp [hp, a1, a2', a4, badS]
    · simp [hp, a1, badS]
theorem Formed_run (f : Fm) (hs : f.size ≤ 1048576) : pcall pr 23 [.agg f.cells] = some (.bool (formedS f)) := by
  have hc : ∀ h, lcall pr 61 [.f (.agg f.cells)] h = some [(.f (.bool (formedS f)), h)] := fun h => c61 _ (formed_run _ f (Nat.le_refl _) hs)
  apply p23
  unfold F23
  simp [hc]
theorem eqS_eq (f g : Fm) : eqS f g = (decide (f.op = g.op) && decide (f.n = g.n) && decide (f.s = g.s) && eqSL f.ls g.ls) := by cases f; cases g; rw [eqS]; rfl
theorem eqSL_len : ∀ {l m : List Fm}, eqSL l m = true → l.length = m.length
  | [], [], _ => rfl
  | [], _ :: _, h => by simp [eqSL] at h
  | _ :: _, [], h => by simp [eqSL] at h
  | _ :: l, _ :: m, h => by simp only [eqSL, Bool.and_eq_true] at h; simp [eqSL_len h.2]
theorem eqF_run : ∀ (N : Nat) (f g : Fm), f.size ≤ N → f.size ≤ 4194304 → g.size ≤ 4194304 → pcall pr 24 [.agg f.cells, .agg g.cells] = some (.bool (eqS f g))
  | 0, f, _, h, _, _ => by have := size_eq f; omega
  | N + 1, f, g, h, hs, hs' => by
    have hll := len_le f
    have loop : ∀ (r t : List Fm) (i : Nat), f.ls.drop i = r → g.ls.drop i = t → f.ls.length = g.ls.length → L24x1 2 (.ptr 0 0 4) (.ptr 1 0 4) (.f (.int .i64 i)) [.cells 28 0 (f.cells.map .f), .cells 28 0 (g.cells.map .f)] (fun v h => frz h 100 v = some (.bool (eqSL r t))) := by
      intro r
      induction r with
      | nil =>
        intro t i hi hj hlen
        have := drop_nil' hi
        have ht : t = [] := by rw [← hj]; exact List.drop_eq_nil_iff.2 (by omega)
        subst ht
        apply l24x1
        unfold F24x1
        simp
        refine ⟨fun h => by omega, fun _ => ?_⟩
        apply l24x0
        simp [F24x0, eqSL]
      | cons a r ih =>
        intro t i hi hj hlen
        have := drop_lt hi
        cases t with
        | nil => have := drop_nil' hj; omega
        | cons b t =>
        have hf := size_part hi
        have hg := size_part hj
        have hc : ∀ h, lcall pr 24 [.f (.agg a.cells), .f (.agg b.cells)] h = some [(.f (.bool (eqS a b)), h)] := fun h => c24 _ _ (eqF_run N a b (by omega) (by omega) (by omega))
        have ih' := ih t (i + 1) (drop_next hi) (drop_next hj) hlen
        apply l24x1
        unfold F24x1
        simp (disch := omega) [part_at hi, part_at hj, part_load, hc, w64, eqSL]
        refine ⟨fun _ => ⟨fun h => by simp [h], fun h => ?_⟩, fun h => by omega⟩
        simpa [h] using ih'
    apply p24
    unfold F24
    rw [eqS_eq]
    by_cases a1 : f.op = g.op
    · by_cases a2 : f.n = g.n
      · by_cases a3 : f.s = g.s
        · by_cases a4 : f.ls.length = g.ls.length
          · have := loop f.ls g.ls 0 rfl rfl a4
            simp [a1, a2, a3, a4]
            simpa using this
          · have a5 : eqSL f.ls g.ls = false := by
              cases hq : eqSL f.ls g.ls with
              | false => rfl
              | true => exact absurd (eqSL_len hq) a4
            simp [a1, a2, a3, a4, a5]
            intro h; omega
        · simp [a1, a2, a3]
      · simp [a1, a2]
    · simp [a1]
end Go.Proofs.YthhgenogeibfpaaGreatDoor.D
