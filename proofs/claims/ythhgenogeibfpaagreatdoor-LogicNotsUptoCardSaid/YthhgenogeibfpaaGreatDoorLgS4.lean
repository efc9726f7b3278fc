/- What the functions on formulas come to, 4: clone. -/
import Derived.Test.YthhgenogeibfpaaGreatDoorLgS3
set_option linter.unusedVariables false
set_option linter.unusedSimpArgs false
namespace Go.Proofs.YthhgenogeibfpaaGreatDoor.D
open Go.Det

/-- A cloned list: what it is behind the cloning, over the heap. -/
def clV (b : Nat) (z : Option Bool) (l : List Fm) : SV := if l = [] then .f (slF (z.map fun _ => true) 0 []) else .row b 0 l.length (l.length * 4) false
theorem clV_cells {b : Nat} {z : Option Bool} {l : List Fm} : cellsOf (clV b z l) = some [clV b z l] := by
  unfold clV; split
  · cases z <;> rfl
  · rfl
theorem trim_cl {h : List SObj} {z : Option Bool} {l : List Fm} : trim h.length [clV h.length z l] (h ++ mkH l) = h ++ mkH l := by
  by_cases h0 : l = []
  · subst h0; exact trim_same (by simp [mkH])
  · unfold trim
    simp only [mkH, clV, if_neg h0, List.length_append, List.length_cons, List.length_nil]
    rw [if_neg (by omega), if_neg]
    simp [belows, Go.Det.below]
theorem len_cl {h : List SObj} {b : Nat} {z : Option Bool} {l : List Fm} : lenV h .sl (clV b z l) = some (.f (.int .i64 l.length)) := by
  unfold clV; split
  · rename_i h0; subst h0; rw [len_slF]; rfl
  · rfl
theorem clone_list {f : Fm} {h : List SObj} {k : SV → List SObj → Prop} (hs : f.ls.length ≤ 1048576) (H : k (clV h.length f.z f.ls) (h ++ mkH f.ls)) : bhp (lcall pr 120 [.f f.sl] h) k := by
  apply q120
  unfold F120
  by_cases h0 : f.ls = []
  · have ht := trim_cl (h := h) (z := f.z) (l := f.ls)
    simp only [h0] at H ht
    simp only [Fm.sl, h0, cellsL, List.length_nil]
    cases hz : f.z with
    | none =>
      simp only [hz] at H ht
      simp only [slF, if_true, isNilSl, bhp_one]
      simp only [wcond_bool]
      refine ⟨fun _ => ?_, fun h => by simp at h⟩
      have e : (.f .nilSl : SV) = clV h.length none [] := rfl
      rw [e]
      have e2 : h = h ++ mkH [] := by simp [mkH]
      rw [← e2] at ht H
      rw [ht]; exact H
    | some x =>
      simp only [hz] at H ht
      simp only [slF, isNilSl, bhp_one]
      simp only [wcond_bool]
      refine ⟨fun h => by simp at h, fun _ => ?_⟩
      have e : (.f (.sl true 0 []) : SV) = clV h.length (some x) [] := rfl
      have e2 : h = h ++ mkH [] := by simp [mkH]
      rw [← e2] at ht H
      have e3 : mksliceO h 0 [.int .i64 0, .int .i64 0, .str [], .nilSl] [] 28 4 = some [(.f (.sl true 0 []), h)] := rfl
      have e4 : appendOp h 28 4 56 (.f (.sl true 0 [])) (.f (.sl x 0 [])) = some (.f (.sl true 0 []), h) := by simp [appendOp, srcCells, sliceCells]
      rw [e3]
      simp only [bhp_one, e4, outB_some']
      rw [e, ht]
      exact H
  · have hn : f.ls.length ≠ 0 := by intro h; exact h0 (List.eq_nil_of_length_eq_zero h)
    obtain ⟨x, hx⟩ : ∃ x, f.sl = .sl x f.ls.length (cellsL f.ls) := by
      unfold Fm.sl slF
      split
      · exact ⟨_, rfl⟩
      · rw [if_neg hn]; exact ⟨_, rfl⟩
    rw [hx]
    simp only [isNilSl, bhp_one]
    simp only [wcond_bool]
    refine ⟨fun h => by simp at h, fun _ => ?_⟩
    have e3 : mksliceO h 0 [.int .i64 0, .int .i64 0, .str [], .nilSl] [] 28 4 = some [(.f (.sl true 0 []), h)] := rfl
    have hc := cellsL_len f.ls
    have hne : cellsL f.ls ≠ [] := by intro h; rw [h] at hc; simp at hc; omega
    have e4 : appendOp h 28 4 56 (.f (.sl true 0 [])) (.f (.sl x f.ls.length (cellsL f.ls))) = some (clV h.length f.z f.ls, h ++ mkH f.ls) := by
      simp only [clV, mkH, if_neg h0]
      have : (0 + f.ls.length) * 56 ≤ 140737488355328 := by omega
      simp [appendOp, src_sl hc, hn, hne, hc]
      omega
    rw [e3]
    simp only [bhp_one, e4, outB_some', trim_cl]
    exact H
mutual
def cloneR : Fm → Fm
  | .mk o n s z l => .mk o n s (if l = [] then z.map (fun _ => true) else none) (cloneRL l)
def cloneRL : List Fm → List Fm
  | [] => []
  | f :: r => cloneR f :: cloneRL r
end
theorem cloneRL_len : ∀ l : List Fm, (cloneRL l).length = l.length
  | [] => rfl
  | f :: r => by simp [cloneRL, cloneRL_len r]
theorem cloneR_eq (f : Fm) : cloneR f = .mk f.op f.n f.s (if f.ls = [] then f.z.map (fun _ => true) else none) (cloneRL f.ls) := by cases f; rw [cloneR]; rfl
theorem frz_cl {b c : SObj} {a0 a1 a2 : FV} {z : Option Bool} {l m : List Fm} (hl : m.length = l.length) : frz (b :: c :: mkH m) 100 (mkAgg [.f a0, .f a1, .f a2, clV 2 z l]) = some (.agg [a0, a1, a2, slF (if l = [] then z.map (fun _ => true) else none) m.length (cellsL m)]) := by
  by_cases h0 : l = []
  · subst h0
    have : m = [] := List.eq_nil_of_length_eq_zero hl
    subst this
    cases z <;> rfl
  · have hn : l.length ≠ 0 := by intro h; exact h0 (List.eq_nil_of_length_eq_zero h)
    have hm : m ≠ [] := by intro h; rw [h] at hl; exact hn hl.symm
    have e1 : mkAgg [.f a0, .f a1, .f a2, clV 2 z l] = .agg [.f a0, .f a1, .f a2, clV 2 z l] := by simp [mkAgg, allF, clV, h0]
    rw [e1, frz_agg]
    have e2 : frz (b :: c :: mkH m) 99 (clV 2 z l) = some (.sl false m.length (cellsL m)) := by
      simp only [clV, mkH, if_neg h0, if_neg hm]
      rw [← hl]
      exact frz_row rfl (by rw [cellsL_len]) rfl
    simp only [frzL, frz_f', e2, if_neg h0, slF, hl, if_neg hn]
    rfl

theorem clone_run : ∀ (N : Nat) (f : Fm), f.size ≤ N → f.size ≤ 1048576 → pcall pr 62 [.agg f.cells] = some (.agg (cloneR f).cells)
  | 0, f, h, _ => by have := size_eq f; omega
  | N + 1, f, h, hs => by
    have hll := len_le f
    have loop : ∀ (r done : List Fm) (i : Nat), f.ls.drop i = r → done.length = i → done ++ cloneRL r = cloneRL f.ls →
        L62x1 (2 + (mkH f.ls).length) (.ptr 0 0 4) (.ptr 1 0 4) (.f (.int .i64 f.ls.length)) (.f (.int .i64 i))
          (.cells 28 0 [.f (.int .i64 f.op), .f (.int .i64 f.n), .f (.str f.s), clV 2 f.z f.ls] :: .cells 28 0 [.f (.int .i64 0), .f (.int .i64 0), .f (.str []), .f .nilSl] :: mkH (done ++ r))
          (fun v h => frz h 100 v = some (.agg (cloneR f).cells)) := by
      intro r
      induction r with
      | nil =>
        intro done i hi hlen hdone
        have := drop_nil' hi
        simp only [cloneRL, List.append_nil] at hdone
        subst hdone
        simp only [List.append_nil]
        apply l62x1
        unfold F62x1
        simp
        refine ⟨fun h => by omega, fun _ => ?_⟩
        apply l62x0
        unfold F62x0
        have e1 : ∀ r : List SObj, ldV (.cells 28 0 [.f (.int .i64 f.op), .f (.int .i64 f.n), .f (.str f.s), clV 2 f.z f.ls] :: r) true 4 (.ptr 0 0 4) = some (mkAgg [.f (.int .i64 f.op), .f (.int .i64 f.n), .f (.str f.s), clV 2 f.z f.ls]) := fun _ => rfl
        simp only [e1, bop_some, stP cellsOf_mkAgg, outH_some', bhp_one, ldP, frz_cl (cloneRL_len f.ls)]
        rw [cloneR_eq]; rfl
      | cons g r ih =>
        intro done i hi hlen hdone
        have hlt := drop_lt hi
        have hf := size_part hi
        have h0 : f.ls ≠ [] := by intro h; rw [h] at hlt; simp at hlt
        have h1 : done ++ g :: r ≠ [] := by simp
        have h2 : done ++ cloneR g :: r ≠ [] := by simp
        have hc : ∀ h, lcall pr 62 [.f (.agg g.cells)] h = some [(.f (.agg (cloneR g).cells), h)] := fun h => c62 _ (clone_run N g (by omega) (by omega))
        have ih' := ih (done ++ [cloneR g]) (i + 1) (drop_next hi) (by simp [hlen]) (by rw [← hdone]; simp [cloneRL])
        simp only [List.append_assoc, List.cons_append, List.nil_append] at ih'
        have hlr : r.length + (i + 1) = f.ls.length := by
          have := congrArg List.length hi
          simp only [List.length_drop, List.length_cons] at this
          omega
        have ha : iaddr (.sl 4) (clV 2 f.z f.ls) (.f (.int .i64 i)) = some (.ptr 2 (i * 4) (f.ls.length * 4)) := by
          simp only [clV, if_neg h0]
          have : (0 : Int) ≤ i ∧ (i : Int) < f.ls.length := by omega
          simp [iaddr, this.2]
        have hcd : (cellsL done).length = i * 4 := by rw [cellsL_len, hlen]
        have hcr := cellsL_len r
        have hg4 := cells_len g
        have hl4 : ∀ b c : SObj, ldV (b :: c :: mkH (done ++ g :: r)) true 4 (.ptr 2 (i * 4) (f.ls.length * 4)) = some (.f (.agg g.cells)) := by
          intro b c
          have hq : (b :: c :: mkH (done ++ g :: r))[2]? = some (.cells 28 4 ((cellsL (done ++ g :: r)).map .f)) := by simp [mkH, h1]
          apply ld_ptr_agg hq
          · simp [cellsL_len]; omega
          · omega
          · rw [← List.map_drop, ← List.map_take, cellsL_append, ← hcd, List.drop_left, cellsL_take]
        have hs4 : ∀ b c : SObj, stV (b :: c :: mkH (done ++ g :: r)) 4 (.ptr 2 (i * 4) (f.ls.length * 4)) (.f (.agg (cloneR g).cells)) = some (b :: c :: mkH (done ++ cloneR g :: r)) := by
          intro b c
          have hq : (b :: c :: mkH (done ++ g :: r))[2]? = some (.cells 28 4 ((cellsL (done ++ g :: r)).map .f)) := by simp [mkH, h1]
          rw [st_ptr hq (by simp [cellsL_len]; omega) (new := (cloneR g).cells.map .f) (by simp [cellsOf]) (by simp) (by omega)]
          have e1 : (cellsL (done ++ g :: r)).take (i * 4) = cellsL done := by rw [cellsL_append, ← hcd, List.take_left]
          have e2 : (cellsL (done ++ g :: r)).drop (i * 4 + 4) = cellsL r := by
            rw [cellsL_append, ← hcd, ← hg4, ← List.drop_drop, List.drop_left, cellsL, List.drop_left]
          rw [← List.map_take, ← List.map_drop, e1, e2]
          simp only [mkH, if_neg h1, if_neg h2]
          simp [cellsL_append, cellsL]
        have e3 : ∀ r : List SObj, ldV (.cells 28 0 [.f (.int .i64 f.op), .f (.int .i64 f.n), .f (.str f.s), clV 2 f.z f.ls] :: r) false 1 (.ptr 0 3 4) = some (clV 2 f.z f.ls) := fun _ => ld_ptr rfl rfl rfl
        apply l62x1
        unfold F62x1
        simp (disch := omega) [e3, ha, hl4, hc, hs4, w64]
        refine ⟨fun _ => ?_, fun h => by omega⟩
        rw [trim_same (by simp [mkH, h0])]
        exact ih'
    have fin := loop f.ls [] 0 rfl rfl rfl
    apply p62
    unfold F62
    simp
    apply clone_list (by omega)
    have est : ∀ (b : SObj) (r : List SObj), stV (.cells 28 0 (f.cells.map .f) :: b :: r) 1 (.ptr 0 3 4) (clV 2 f.z f.ls) = some (.cells 28 0 [.f (.int .i64 f.op), .f (.int .i64 f.n), .f (.str f.s), clV 2 f.z f.ls] :: b :: r) := by
      intro b r
      rw [cells_eq]
      simp [stV, clV_cells]
    have e3 : ∀ r : List SObj, ldV (.cells 28 0 [.f (.int .i64 f.op), .f (.int .i64 f.n), .f (.str f.s), clV 2 f.z f.ls] :: r) false 1 (.ptr 0 3 4) = some (clV 2 f.z f.ls) := fun _ => ld_ptr rfl rfl rfl
    simp only [List.cons_append, List.nil_append, List.length_cons, List.length_nil, Nat.zero_add, Nat.reduceAdd, est, outH_some', bhp_one, e3, bop_some, len_cl]
    have e4 : (mkH f.ls).length + 1 + 1 = 2 + (mkH f.ls).length := by omega
    rw [e4]
    exact fin
end Go.Proofs.YthhgenogeibfpaaGreatDoor.D
