/- What the functions on formulas come to, 6: logic.Equal. -/
import Derived.Test.YthhgenogeibfpaaGreatDoorLgS5
set_option linter.unusedVariables false
set_option linter.unusedSimpArgs false
namespace Go.Proofs.YthhgenogeibfpaaGreatDoor.D
open Go.Det

theorem trim_none {vs : List SV} {h : List SObj} (hv : belows 0 vs = true) : trim 0 vs h = [] := by
  unfold trim
  split
  · rename_i h0; exact List.eq_nil_of_length_eq_zero h0
  · simp [hv]
theorem eqSL_ne {l m : List Fm} (h : l.length ≠ m.length) : eqSL l m = false := by
  cases hq : eqSL l m with
  | false => rfl
  | true => exact absurd (eqSL_len hq) h
theorem equal_run : ∀ (N : Nat) (f g : Fm), f.size ≤ N → f.size ≤ 1048576 → g.size ≤ 1048576 → pcall pr 27 [.agg f.cells, .agg g.cells] = some (.bool (eqS f g))
  | 0, f, _, h, _, _ => by have := size_eq f; omega
  | N + 1, f, g, h, hs, hs2 => by
    have hll := len_le f
    have hlg := len_le g
    have loop : ∀ (r t : List Fm) (i : Nat), f.ls.drop i = r → g.ls.drop i = t → f.ls.length = g.ls.length →
        L65x1 0 (.f g.sl) (.f (.func (.func 27) [])) (.f f.sl) (.f (.int .i64 f.ls.length)) (.f (.int .i64 i)) [] (fun v h => frz h 100 v = some (.bool (eqSL r t))) := by
      intro r
      induction r with
      | nil =>
        intro t i hi hj hl
        have := drop_nil' hi
        have ht : t = [] := by rw [← hj]; exact List.drop_eq_nil_iff.2 (by omega)
        subst ht
        apply l65x1
        unfold F65x1
        simp
        refine ⟨fun h => by omega, fun _ => ?_⟩
        apply l65x0
        unfold F65x0
        simp [eqSL]
      | cons x r ih =>
        intro t i hi hj hl
        have hlt := drop_lt hi
        have hf := size_part hi
        obtain ⟨y, t', ht⟩ : ∃ y t', t = y :: t' := by
          match t, hj with
          | [], hj => have := drop_nil' hj; omega
          | y :: t', _ => exact ⟨y, t', rfl⟩
        subst ht
        have hg := size_part hj
        have hc : ∀ h, lcall pr 27 [.f (.agg x.cells), .f (.agg y.cells)] h = some [(.f (.bool (eqS x y)), h)] := fun h => c27 _ _ (equal_run N x y (by omega) (by omega) (by omega))
        have ih' := ih t' (i + 1) (drop_next hi) (drop_next hj) hl
        have s1 := st_end (h := []) (x0 := .f (.int .i64 0)) (x1 := .f (.int .i64 0)) (x2 := .f (.str [])) (x3 := .f .nilSl) (ty := 28) (e := 0) (f := x)
        have s2 : ∀ a : SObj, _ := fun a => st_end (h := [a]) (x0 := .f (.int .i64 0)) (x1 := .f (.int .i64 0)) (x2 := .f (.str [])) (x3 := .f .nilSl) (ty := 28) (e := 0) (f := y)
        simp only [List.length_cons, List.length_nil, List.nil_append, List.cons_append, Nat.zero_add] at s1 s2
        apply l65x1
        unfold F65x1
        simp (disch := omega) [part_at hi, part_at hj, part_load, s1, s2, hc, w64]
        refine ⟨fun _ => ⟨fun h => ?_, fun h => ?_⟩, fun h => by omega⟩
        · simp [eqSL, h]
        · rw [trim_none rfl]
          simp only [eqSL, h, Bool.true_and]
          exact ih'
    have h65 : pcall pr 65 [f.sl, g.sl, .func (.func 27) []] = some (.bool (eqSL f.ls g.ls)) := by
      apply p65
      unfold F65
      simp
      refine ⟨fun h => ?_, fun h => ?_⟩
      · rw [eqSL_ne (by omega)]
      · exact loop f.ls g.ls 0 rfl rfl (by omega)
    have hc : ∀ h, lcall pr 65 [.f f.sl, .f g.sl, .f (.func (.func 27) [])] h = some [(.f (.bool (eqSL f.ls g.ls)), h)] := fun h => c65 _ _ _ h65
    apply p27
    unfold F27
    rw [eqS_eq]
    by_cases a1 : f.op = g.op
    · by_cases a2 : f.n = g.n
      · by_cases a3 : f.s = g.s
        · simp [a1, a2, a3, hc]
        · simp [a1, a2, a3]
      · simp [a1, a2]
    · simp [a1]
mutual
theorem eqS_refl : ∀ f : Fm, eqS f f = true
  | .mk _ _ _ _ l => by simp [eqS, eqSL_refl l]
theorem eqSL_refl : ∀ l : List Fm, eqSL l l = true
  | [] => rfl
  | f :: r => by simp [eqSL, eqS_refl f, eqSL_refl r]
end
mutual
theorem eqS_clone : ∀ f : Fm, eqS (cloneR f) f = true
  | .mk _ _ _ _ l => by simp [eqS, cloneR, eqSL_clone l]
theorem eqSL_clone : ∀ l : List Fm, eqSL (cloneRL l) l = true
  | [] => rfl
  | f :: r => by simp [eqSL, cloneRL, eqS_clone f, eqSL_clone r]
end
theorem badS_p {f : Fm} (h : badS f = false) : (f.ls.length : Int) = partsS f.op := by
  refine Classical.byContradiction fun hh => ?_
  have : badS f = true := by simp [badS, Ne.symm hh]
  rw [this] at h; cases h
theorem badS_n {f : Fm} (h : badS f = false) (h2 : f.op ≠ 2) : f.n = 0 := by
  refine Classical.byContradiction fun hh => ?_
  have : badS f = true := by simp [badS, h2, hh]
  rw [this] at h; cases h
theorem badS_s {f : Fm} (h : badS f = false) (h2 : f.op ≠ 14) : f.s = [] := by
  refine Classical.byContradiction fun hh => ?_
  have : badS f = true := by simp [badS, h2, hh]
  rw [this] at h; cases h
mutual
/-- The two complements of a formed formula are one. -/
theorem not_same : ∀ f : Fm, formedS f = true → eqS (notP f) (notR f) = true
  | .mk op n s z l, h => by
    rw [formed_eq] at h
    simp only [Bool.and_eq_true, Bool.not_eq_true'] at h
    obtain ⟨h1, h2⟩ := h
    rw [notP, notR]
    by_cases a1 : op = 3 ∧ l.length = 1
    · rw [if_pos a1, if_pos a1]
      obtain ⟨g, hg⟩ : ∃ g, l = [g] := by
        match l, a1 with
        | [g], _ => exact ⟨g, rfl⟩
        | [], a1 => simp at a1
        | _ :: _ :: _, a1 => simp at a1
      subst hg
      exact eqS_clone g
    · rw [if_neg a1, if_neg a1]
      by_cases a2 : dualS op = 0
      · rw [if_pos a2, if_pos (.inl a2)]
        simp [eqS, eqSL, cloneR, eqSL_clone]
      · have a3 : ¬ (dualS op = 0 ∨ (l.length : Int) ≠ partsS op) := by
          rintro (h | h)
          · exact a2 h
          · exact h (badS_p h1)
        rw [if_neg a2, if_neg a3]
        have hop : op ≠ 2 ∧ op ≠ 14 := by
          refine ⟨?_, ?_⟩ <;> (intro h; subst h; exact a2 rfl)
        have hn : n = 0 := badS_n h1 hop.1
        have hs : s = [] := badS_s h1 hop.2
        have := notL_same l h2
        simp [eqS, hn, hs, this]
theorem notL_same : ∀ l : List Fm, formedL l = true → eqSL (notPL l) (notRL l) = true
  | [], _ => rfl
  | f :: r, h => by
    simp only [formedL, Bool.and_eq_true] at h
    simp [notPL, notRL, eqSL, not_same f h.1, notL_same r h.2]
end
mutual
theorem cloneR_size : ∀ f : Fm, (cloneR f).size = f.size
  | .mk _ _ _ _ l => by simp [Fm.size, cloneR, cloneRL_size l]
theorem cloneRL_size : ∀ l : List Fm, sizeL (cloneRL l) = sizeL l
  | [] => rfl
  | f :: r => by simp [sizeL, cloneRL, cloneR_size f, cloneRL_size r]
end
mutual
theorem notP_size : ∀ f : Fm, (notP f).size ≤ 2 * f.size
  | .mk op n s z l => by
    rw [notP]
    split
    · rename_i h
      match l, h with
      | [g], _ => simp only [List.headD_cons, cloneR_size, Fm.size, sizeL]; omega
      | [], h => simp at h
      | _ :: _ :: _, h => simp at h
    · split
      · simp only [Fm.size, sizeL, cloneR_size, List.length_nil]; omega
      · have := notPL_size l
        simp only [Fm.size]; omega
theorem notPL_size : ∀ l : List Fm, sizeL (notPL l) ≤ 2 * sizeL l
  | [] => by simp [notPL, sizeL]
  | f :: r => by
    have h1 := notP_size f
    have h2 := notPL_size r
    simp only [notPL, sizeL]; omega
end
mutual
theorem notR_size : ∀ f : Fm, (notR f).size ≤ 2 * f.size
  | .mk op n s z l => by
    rw [notR]
    split
    · rename_i h
      match l, h with
      | [g], _ => simp only [List.headD_cons, Fm.size, sizeL]; omega
      | [], h => simp at h
      | _ :: _ :: _, h => simp at h
    · split
      · simp only [Fm.size, sizeL, List.length_nil]; omega
      · have := notRL_size l
        simp only [Fm.size, List.length_nil]; omega
theorem notRL_size : ∀ l : List Fm, sizeL (notRL l) ≤ 2 * sizeL l
  | [] => by simp [notRL, sizeL]
  | f :: r => by
    have h1 := notR_size f
    have h2 := notRL_size r
    simp only [notRL, sizeL]; omega
end
/-- The law, over any formula that is not too big; awake is a premise here. -/
theorem nots_run (hw' : ∀ h, lcall pr 14 [] h = some [(.f (.bool true), h)]) (f : Fm) (hs : f.size ≤ 1048576) : pcall pr 5 [.agg f.cells] = some (.bool true) := by
  have hn := nodesS_le 1000 f
  have h21 : ∀ h, lcall pr 21 [.f (.agg f.cells), .f (.int .i64 100)] h = some [(.f (.bool (deepS 100 f)), h)] := fun h => c21 _ _ (deep_run 100 f (by omega) hs)
  have h22 : ∀ h, lcall pr 22 [.f (.agg f.cells), .f (.int .i64 1000)] h = some [(.f (.int .i64 (nodesS 1000 f)), h)] := fun h => c22 _ _ (nodes_run _ f 1000 (Nat.le_refl _) hs (by omega) (by omega))
  have h23 : ∀ h, lcall pr 23 [.f (.agg f.cells)] h = some [(.f (.bool (formedS f)), h)] := fun h => c23 _ (Formed_run f hs)
  have h25 : ∀ h, lcall pr 25 [.f (.agg f.cells)] h = some [(.f (.agg (notP f).cells), h)] := fun h => c25 _ (not_run _ f (Nat.le_refl _) hs)
  have h26 : ∀ h, lcall pr 26 [.f (.agg f.cells)] h = some [(.f (.agg (notR f).cells), h)] := fun h => c26 _ (refNot_run _ f (Nat.le_refl _) hs)
  have hp := notP_size f
  have hr := notR_size f
  have h24 : ∀ h, lcall pr 24 [.f (.agg (notP f).cells), .f (.agg (notR f).cells)] h = some [(.f (.bool (eqS (notP f) (notR f))), h)] := fun h => c24 _ _ (eqF_run _ _ _ (Nat.le_refl _) (by omega) (by omega))
  have h27 : ∀ h, lcall pr 27 [.f (.agg f.cells), .f (.agg f.cells)] h = some [(.f (.bool true), h)] := fun h => c27 _ _ (by rw [equal_run _ f f (Nat.le_refl _) hs hs, eqS_refl])
  apply p5
  unfold F5
  by_cases b1 : deepS 100 f = true
  · simp [h21, b1, hw']
  · by_cases b2 : (1000 : Int) < nodesS 1000 f
    · simp [h21, b1, h22, b2, hw']
    · by_cases b3 : formedS f = true
      · have := not_same f b3
        simp [h21, b1, h22, b2, h23, b3, h25, h26, h24, this, h27, hw']
      · simp [h21, b1, h22, b2, h23, b3, hw']
end Go.Proofs.YthhgenogeibfpaaGreatDoor.D
