/- What the functions on formulas come to, 5: logic.Not. -/
import Derived.Test.YthhgenogeibfpaaGreatDoorLgS4
set_option linter.unusedVariables false
set_option linter.unusedSimpArgs false
namespace Go.Proofs.YthhgenogeibfpaaGreatDoor.D
open Go.Det

abbrev i6 (n : Int) : FV := .int .i64 n
def dualEs : List (FV × SV × Nat) := [(i6 4, .f (i6 5), 0), (i6 5, .f (i6 4), 1), (i6 6, .f (i6 7), 2), (i6 7, .f (i6 6), 3), (i6 10, .f (i6 13), 4), (i6 13, .f (i6 10), 5), (i6 11, .f (i6 12), 6), (i6 12, .f (i6 11), 7)]
theorem dual_set {a b : SObj} {k : SV → List SObj → Prop} (H : k U [a, b, .map dualEs 8]) :
    bhp (outH (mapset [a, b, .map [] 0] .int (.map 2) (.f (.int .i64 4)) (.f (.int .i64 5)))) fun _ h4 =>
    bhp (outH (mapset h4 .int (.map 2) (.f (.int .i64 5)) (.f (.int .i64 4)))) fun _ h5 =>
    bhp (outH (mapset h5 .int (.map 2) (.f (.int .i64 6)) (.f (.int .i64 7)))) fun _ h6 =>
    bhp (outH (mapset h6 .int (.map 2) (.f (.int .i64 7)) (.f (.int .i64 6)))) fun _ h7 =>
    bhp (outH (mapset h7 .int (.map 2) (.f (.int .i64 10)) (.f (.int .i64 13)))) fun _ h8 =>
    bhp (outH (mapset h8 .int (.map 2) (.f (.int .i64 13)) (.f (.int .i64 10)))) fun _ h9 =>
    bhp (outH (mapset h9 .int (.map 2) (.f (.int .i64 11)) (.f (.int .i64 12)))) fun _ h10 =>
    bhp (outH (mapset h10 .int (.map 2) (.f (.int .i64 12)) (.f (.int .i64 11)))) k := by
  have s1 : mapset [a, b, .map [] 0] .int (.map 2) (.f (.int .i64 4)) (.f (.int .i64 5)) = some [a, b, .map (dualEs.take 1) 1] := rfl
  have s2 : mapset [a, b, .map (dualEs.take 1) 1] .int (.map 2) (.f (.int .i64 5)) (.f (.int .i64 4)) = some [a, b, .map (dualEs.take 2) 2] := rfl
  have s3 : mapset [a, b, .map (dualEs.take 2) 2] .int (.map 2) (.f (.int .i64 6)) (.f (.int .i64 7)) = some [a, b, .map (dualEs.take 3) 3] := rfl
  have s4 : mapset [a, b, .map (dualEs.take 3) 3] .int (.map 2) (.f (.int .i64 7)) (.f (.int .i64 6)) = some [a, b, .map (dualEs.take 4) 4] := rfl
  have s5 : mapset [a, b, .map (dualEs.take 4) 4] .int (.map 2) (.f (.int .i64 10)) (.f (.int .i64 13)) = some [a, b, .map (dualEs.take 5) 5] := rfl
  have s6 : mapset [a, b, .map (dualEs.take 5) 5] .int (.map 2) (.f (.int .i64 13)) (.f (.int .i64 10)) = some [a, b, .map (dualEs.take 6) 6] := rfl
  have s7 : mapset [a, b, .map (dualEs.take 6) 6] .int (.map 2) (.f (.int .i64 11)) (.f (.int .i64 12)) = some [a, b, .map (dualEs.take 7) 7] := rfl
  have s8 : mapset [a, b, .map (dualEs.take 7) 7] .int (.map 2) (.f (.int .i64 12)) (.f (.int .i64 11)) = some [a, b, .map dualEs 8] := rfl
  simp only [s1, s2, s3, s4, s5, s6, s7, s8, outH_some', bhp_one]
  exact H
theorem dual_lookup {a b : SObj} {r : List SObj} {op : Int} : lookup (a :: b :: .map dualEs 8 :: r) .int (.int .i64 0) true (.map 2) (.f (.int .i64 op)) = some (.f (.tup [.int .i64 (dualS op), .bool (decide (dualS op ≠ 0))])) := by
  by_cases h4 : op = 4; · subst h4; rfl
  by_cases h5 : op = 5; · subst h5; rfl
  by_cases h6 : op = 6; · subst h6; rfl
  by_cases h7 : op = 7; · subst h7; rfl
  by_cases h10 : op = 10; · subst h10; rfl
  by_cases h13 : op = 13; · subst h13; rfl
  by_cases h11 : op = 11; · subst h11; rfl
  by_cases h12 : op = 12; · subst h12; rfl
  have hd : dualS op = 0 := by simp [dualS, h4, h5, h6, h7, h10, h11, h12, h13]
  have q : ∀ k : Int, op ≠ k → (op == k) = false := fun k h => by simp [h]
  have q2 : ∀ k : Int, op ≠ k → (k == op) = false := fun k h => by simp [Ne.symm h]
  rw [hd]
  simp [lookup, dualEs, findIx, keyEq, q, q2, h4, h5, h6, h7, h10, h11, h12, h13, Ne.symm, eq_comm]
mutual
/-- The complement, as the program makes it. -/
def notP : Fm → Fm
  | .mk op n s z l =>
    if op = 3 ∧ l.length = 1 then cloneR (l.headD (.mk op n s z l))
    else if dualS op = 0 then .mk 3 0 [] (some true) [cloneR (.mk op n s z l)]
    else .mk (dualS op) n s none (notPL l)
def notPL : List Fm → List Fm
  | [] => []
  | f :: r => notP f :: notPL r
end
theorem notP_eq (f : Fm) : notP f = if f.op = 3 ∧ f.ls.length = 1 then cloneR (f.ls.headD f) else if dualS f.op = 0 then .mk 3 0 [] (some true) [cloneR f] else .mk (dualS f.op) f.n f.s none (notPL f.ls) := by cases f; rw [notP]; rfl
theorem notPL_len : ∀ l : List Fm, (notPL l).length = l.length
  | [] => rfl
  | f :: r => by simp [notPL, notPL_len r]
/-- Is the row at b the list that is being made? -/
def MkAt (h : List SObj) (b : Nat) (l : List Fm) : Prop := l = [] ∨ h[b]? = some (.cells 28 4 ((cellsL l).map .f))
theorem frz_mk' {h : List SObj} {b : Nat} {x0 x1 x2 : FV} {l : List Fm} (hb : MkAt h b l) : frz h 100 (mkAgg [.f x0, .f x1, .f x2, mkV b l]) = some (.agg [x0, x1, x2, slF none l.length (cellsL l)]) := by
  by_cases h0 : l = []
  · subst h0; rfl
  · rcases hb with hb | hb
    · exact absurd hb h0
    have hne : l.length ≠ 0 := by intro h; exact h0 (List.eq_nil_of_length_eq_zero h)
    have e1 : mkAgg [.f x0, .f x1, .f x2, mkV b l] = .agg [.f x0, .f x1, .f x2, mkV b l] := by simp [mkAgg, allF, mkV, h0]
    rw [e1, frz_agg]
    have e2 : frz h 99 (mkV b l) = some (.sl false l.length (cellsL l)) := by
      simp only [mkV, if_neg h0]
      exact frz_row hb (by rw [cellsL_len]) rfl
    simp only [frzL, frz_f', e2, slF, if_neg hne]
    rfl
section
variable {h : List SObj} {x0 x1 x2 x3 : SV} {ty e : Nat} {f : Fm} {a b c d : SObj} {v : SV} {r : List SObj}
theorem st_end : stV (h ++ [.cells ty e [x0, x1, x2, x3]]) 4 (.ptr h.length 0 4) (.f (.agg f.cells)) = some (h ++ [.cells ty e (f.cells.map .f)]) := by
  simp [stV, cellsOf]
theorem ld_end : ldV (h ++ [.cells ty e (f.cells.map .f)]) true 4 (.ptr h.length 0 4) = some (.f (.agg f.cells)) := by
  apply ld_ptr_agg (cs := f.cells.map .f) (ty := ty) (e := e)
  · simp
  · simp
  · omega
  · exact List.take_of_length_le (by simp)
theorem ldG3 : ldV (a :: b :: c :: .cells ty e [x0, x1, x2, x3] :: r) false 1 (.ptr 3 3 4) = some x3 := ld_ptr rfl rfl rfl
theorem ldG : ldV (a :: b :: c :: .cells ty e [x0, x1, x2, x3] :: r) true 4 (.ptr 3 0 4) = some (mkAgg [x0, x1, x2, x3]) := rfl
theorem stG3 (hv : cellsOf v = some [v]) : stV (a :: b :: c :: .cells ty e [x0, x1, x2, x3] :: r) 1 (.ptr 3 3 4) v = some (a :: b :: c :: .cells ty e [x0, x1, x2, v] :: r) := by
  simp [stV, hv]
theorem stGf : stV (a :: b :: c :: .cells ty e [x0, x1, x2, x3] :: r) 4 (.ptr 3 0 4) (.f (.agg f.cells)) = some (a :: b :: c :: .cells ty e (f.cells.map .f) :: r) := by
  simp [stV, cellsOf_fm]; simp [cells_eq]
theorem bldG {n m : Int} {s : List UInt8} : bldV Z4 [(0, 1, .f (.int .i64 n)), (1, 1, .f (.int .i64 m)), (2, 1, .f (.str s))] = some (.f (.agg (Fm.mk n m s none []).cells)) := rfl
end
/-- A formula goes onto the list that is being made, over any heap. -/
theorem mk_app' {h : List SObj} {b : Nat} {l : List Fm} {g : Fm} (hb : MkAt h b l) (h0 : l = [] → b = h.length) (hl : l.length ≤ 1048576) :
    ∃ h', appendOp h 28 4 56 (mkV b l) (.f (.sl true 1 g.cells)) = some (mkV b (l ++ [g]), h') ∧ MkAt h' b (l ++ [g]) ∧ (∀ i, i < h.length → i ≠ b → h'[i]? = h[i]?) ∧ h.length ≤ h'.length := by
  have h1 : l ++ [g] ≠ [] := by simp
  by_cases h2 : l = []
  · subst h2
    have := h0 rfl
    subst this
    simp only [mkV, if_true, if_neg h1]
    rw [app_nil (by omega) (by simp) (by omega) (by omega)]
    refine ⟨h ++ [.cells 28 4 (g.cells.map .f)], by simp, .inr ?_, ?_, ?_⟩
    · simp [cellsL]
    · intro i hi _; rw [List.getElem?_append_left hi]
    · simp
  · rcases hb with hb | hb
    · exact absurd hb h2
    simp only [mkV, if_neg h2, if_neg h1]
    rw [app_row hb (by simp [cellsL_len]) (by omega) (by simp) (by omega) (by omega)]
    have hbl : b < h.length := (List.getElem?_eq_some_iff.1 hb).1
    refine ⟨h.set b (.cells 28 4 ((cellsL l).map .f ++ g.cells.map .f)), ?_, .inr ?_, ?_, ?_⟩
    · simp; omega
    · simp [hbl, cellsL_append, cellsL]
    · intro i hi hne; rw [List.getElem?_set_ne (Ne.symm hne)]
    · simp
theorem four {h : List SObj} {a b c d : SObj} (h0 : h[0]? = some a) (h1 : h[1]? = some b) (h2 : h[2]? = some c) (h3 : h[3]? = some d) : ∃ t, h = a :: b :: c :: d :: t := by
  match h, h0, h1, h2, h3 with
  | x :: y :: z :: w :: t, h0, h1, h2, h3 =>
    simp at h0 h1 h2 h3
    exact ⟨t, by rw [h0, h1, h2, h3]⟩
theorem trimG {a b c : SObj} {x0 x1 x2 : SV} {vs : List SV} {ty e : Nat} {l : List Fm} {t : List SObj} (hl : l ≠ []) : trim 4 vs (a :: b :: c :: .cells ty e [x0, x1, x2, mkV 5 l] :: t) = a :: b :: c :: .cells ty e [x0, x1, x2, mkV 5 l] :: t := by
  unfold trim
  split
  · rfl
  · rw [if_neg]
    simp [belowO, belows, mkV, hl, Go.Det.below]
theorem not_run : ∀ (N : Nat) (f : Fm), f.size ≤ N → f.size ≤ 1048576 → pcall pr 25 [.agg f.cells] = some (.agg (notP f).cells)
  | 0, f, h, _ => by have := size_eq f; omega
  | N + 1, f, h, hs => by
    have hll := len_le f
    have loop : ∀ (r done : List Fm) (i : Nat) (a c : SObj) (T : List SObj), f.ls.drop i = r → done.length = i → done ++ notPL r = notPL f.ls →
        (done = [] → T = []) →
        MkAt (a :: .cells 28 0 [.f (.int .i64 0), .f (.int .i64 0), .f (.str []), .f .nilSl] :: c :: .cells 28 0 [.f (.int .i64 (dualS f.op)), .f (.int .i64 f.n), .f (.str f.s), mkV 5 done] :: T) 5 done →
        L25x1 4 (.ptr 1 0 4) (.ptr 3 0 4) (.f f.sl) (.f (.int .i64 f.ls.length)) (.f (.int .i64 i))
          (a :: .cells 28 0 [.f (.int .i64 0), .f (.int .i64 0), .f (.str []), .f .nilSl] :: c :: .cells 28 0 [.f (.int .i64 (dualS f.op)), .f (.int .i64 f.n), .f (.str f.s), mkV 5 done] :: T)
          (fun v h => frz h 100 v = some (.agg (Fm.mk (dualS f.op) f.n f.s none (notPL f.ls)).cells)) := by
      intro r
      induction r with
      | nil =>
        intro done i a c T hi hlen hdone hT hM
        have := drop_nil' hi
        simp only [notPL, List.append_nil] at hdone
        subst hdone
        apply l25x1
        unfold F25x1
        simp
        refine ⟨fun h => by omega, fun _ => ?_⟩
        apply l25x0
        unfold F25x0
        have hM' : MkAt (a :: .cells 28 0 [.f (.int .i64 (dualS f.op)), .f (.int .i64 f.n), .f (.str f.s), mkV 5 (notPL f.ls)] :: c :: .cells 28 0 [.f (.int .i64 (dualS f.op)), .f (.int .i64 f.n), .f (.str f.s), mkV 5 (notPL f.ls)] :: T) 5 (notPL f.ls) := hM
        simp only [ldG, bop_some, stP cellsOf_mkAgg, outH_some', bhp_one, ldP, frz_mk' hM']
        rfl
      | cons g r ih =>
        intro done i a c T hi hlen hdone hT hM
        have hlt := drop_lt hi
        have hf := size_part hi
        have hc : ∀ h, lcall pr 25 [.f (.agg g.cells)] h = some [(.f (.agg (notP g).cells), h)] := fun h => c25 _ (not_run N g (by omega) (by omega))
        generalize hH : a :: .cells 28 0 [.f (.int .i64 0), .f (.int .i64 0), .f (.str []), .f .nilSl] :: c :: .cells 28 0 [.f (.int .i64 (dualS f.op)), .f (.int .i64 f.n), .f (.str f.s), mkV 5 done] :: T = H at hM ⊢
        have hHl : H.length = 4 + T.length := by rw [← hH]; simp; omega
        have hM2 : MkAt (H ++ [.cells 28 0 (g.cells.map .f)]) 5 done := by
          rcases hM with h | h
          · exact .inl h
          · right; rw [List.getElem?_append_left (List.getElem?_eq_some_iff.1 h).1]; exact h
        obtain ⟨h', e1, e2, e3, e4⟩ := mk_app' (g := notP g) hM2 (by intro h; have := hT h; subst this; simp [hHl]) (by omega)
        have e3' : ∀ i, i < 4 → h'[i]? = H[i]? := fun i hi => by
          rw [e3 i (by simp; omega) (by omega), List.getElem?_append_left (by omega)]
        obtain ⟨T', hT'⟩ := four (h := h') (by rw [e3' 0 (by omega), ← hH]; rfl) (by rw [e3' 1 (by omega), ← hH]; rfl) (by rw [e3' 2 (by omega), ← hH]; rfl) (by rw [e3' 3 (by omega), ← hH]; rfl)
        have hd0 : done ++ [notP g] ≠ [] := by simp
        have ih' := ih (done ++ [notP g]) (i + 1) a c T' (drop_next hi) (by simp [hlen]) (by rw [← hdone]; simp [notPL]) (fun h => absurd h hd0) (by
          rcases e2 with h | h
          · exact absurd h hd0
          · right; rw [hT'] at h; exact h)
        have g3 : ldV (H ++ [.cells 28 0 (g.cells.map .f)]) false 1 (.ptr 3 3 4) = some (mkV 5 done) := by rw [← hH]; exact ldG3
        apply l25x1
        unfold F25x1
        simp (disch := omega) [part_at hi, part_load, w64]
        refine ⟨fun _ => ?_, fun h => by omega⟩
        have est := st_end (h := H) (x0 := .f (.int .i64 0)) (x1 := .f (.int .i64 0)) (x2 := .f (.str [])) (x3 := .f .nilSl) (ty := 28) (e := 0) (f := g)
        simp only [est, outH_some', bhp_one, bop_some, g3, ld_end, hc, bone_one, msF, e1, outB_some']
        rw [hT', stG3 mkV_cells]
        simp only [outH_some', bhp_one]
        rw [trimG hd0]
        exact ih'
    have fin := loop f.ls [] 0 (.cells 28 0 (f.cells.map .f)) (.map dualEs 8) [] rfl rfl rfl (fun _ => rfl) (.inl rfl)
    have hcl : ∀ h, lcall pr 62 [.f (.agg f.cells)] h = some [(.f (.agg (cloneR f).cells), h)] := fun h => c62 _ (clone_run _ f (Nat.le_refl _) hs)
    apply p25
    unfold F25
    simp only [box_agg, bhp_one, alloc_one, List.map_cons, List.map_nil, mkmapO, List.cons_append, List.nil_append, List.length_cons, List.length_nil, Nat.zero_add, Nat.reduceAdd]
    apply dual_set
    rw [notP_eq]
    by_cases a1 : f.op = 3 ∧ f.ls.length = 1
    · rw [if_pos a1]
      obtain ⟨g, hg⟩ : ∃ g, f.ls = [g] := by
        match hq : f.ls with
        | [g] => exact ⟨g, rfl⟩
        | [] => rw [hq] at a1; simp at a1
        | _ :: _ :: _ => rw [hq] at a1; simp at a1
      have hpa : iaddr (.sl 4) (.f f.sl) (.f (.int .i64 0)) = some (.f (.ptr (cellsL [g]))) := part_at (i := 0) (by rw [hg]; rfl)
      have hf := size_part (f := f) (g := g) (r := []) (i := 0) (by rw [hg]; rfl)
      have hcg : ∀ h, lcall pr 62 [.f (.agg g.cells)] h = some [(.f (.agg (cloneR g).cells), h)] := fun h => c62 _ (clone_run _ g (Nat.le_refl _) (by omega))
      simp [a1.1, a1.2, hpa, part_load, stPf, hg, hcg]
    · rw [if_neg a1]
      by_cases a2 : dualS f.op = 0
      · rw [if_pos a2]
        by_cases a3 : f.op = 3
        · have a4 : ¬ ((f.ls.length : Int) = 1) := fun h => a1 ⟨a3, by omega⟩
          have hlk := dual_lookup (a := .cells 28 0 (f.cells.map .f)) (b := .cells 28 0 [.f (.int .i64 0), .f (.int .i64 0), .f (.str []), .f .nilSl]) (r := []) (op := 3)
          rw [show dualS 3 = 0 from rfl] at hlk
          simp [a3, a4, a2, hlk, hcl, mkF, bldF, stPf]
        · simp [a3, a2, dual_lookup, hcl, mkF, bldF, stPf]
      · rw [if_neg a2]
        have a3 : f.op ≠ 3 := by intro h; rw [h] at a2; exact a2 rfl
        simp [a3, a2, dual_lookup, bldG]
        rw [stGf]
        simp
        exact fin
end Go.Proofs.YthhgenogeibfpaaGreatDoor.D
