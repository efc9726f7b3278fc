/- What the functions on formulas come to, 3. -/
import Derived.Test.YthhgenogeibfpaaGreatDoorLgS2
import Derived.Test.YthhgenogeibfpaaGreatDoorLgMem
set_option linter.unusedVariables false
set_option linter.unusedSimpArgs false
namespace Go.Proofs.YthhgenogeibfpaaGreatDoor.D
open Go.Det

theorem notR_eq (f : Fm) : notR f = if f.op = 3 ∧ f.ls.length = 1 then f.ls.headD f else if dualS f.op = 0 ∨ (f.ls.length : Int) ≠ partsS f.op then .mk 3 0 [] (some true) [f] else .mk (dualS f.op) 0 [] none (notRL f.ls) := by cases f; rw [notR]; rfl
theorem refNot_run : ∀ (N : Nat) (f : Fm), f.size ≤ N → f.size ≤ 1048576 → pcall pr 26 [.agg f.cells] = some (.agg (notR f).cells)
  | 0, f, h, _ => by have := size_eq f; omega
  | N + 1, f, h, hs => by
    have hll := len_le f
    have hd : ∀ h, lcall pr 63 [.f (.int .i64 f.op)] h = some [(.f (.int .i64 (dualS f.op)), h)] := fun h => c63 _ (dual_run f.op)
    have hp : ∀ h, lcall pr 64 [.f (.int .i64 f.op)] h = some [(.f (.int .i64 (partsS f.op)), h)] := fun h => c64 _ (parts_run f.op)
    have loop : ∀ (r done : List Fm) (i : Nat), f.ls.drop i = r → done.length = i → done ++ notRL r = notRL f.ls →
        L26x1 3 (.ptr 0 0 4) (.ptr 1 0 4) (.ptr 2 0 4) (.f (.int .i64 i)) (.cells 28 0 (f.cells.map .f) :: .cells 28 0 [.f (.int .i64 0), .f (.int .i64 0), .f (.str []), .f .nilSl] :: .cells 28 0 [.f (.int .i64 (dualS f.op)), .f (.int .i64 0), .f (.str []), mkV 3 done] :: mkH done)
          (fun v h => frz h 100 v = some (.agg (Fm.mk (dualS f.op) 0 [] none (notRL f.ls)).cells)) := by
      intro r
      induction r with
      | nil =>
        intro done i hi hlen hdone
        have := drop_nil' hi
        simp only [notRL, List.append_nil] at hdone
        apply l26x1
        unfold F26x1
        simp
        refine ⟨fun h => by omega, fun _ => ?_⟩
        apply l26x0
        unfold F26x0
        simp only [ldQ, bop_some, stP cellsOf_mkAgg, outH_some', bhp_one, ldP, frz_mk, hdone]
        rfl
      | cons g r ih =>
        intro done i hi hlen hdone
        have := drop_lt hi
        have hf := size_part hi
        have hc : ∀ h, lcall pr 26 [.f (.agg g.cells)] h = some [(.f (.agg (notR g).cells), h)] := fun h => c26 _ (refNot_run N g (by omega) (by omega))
        have ih' := ih (done ++ [notR g]) (i + 1) (drop_next hi) (by simp [hlen]) (by rw [← hdone]; simp [notRL])
        have happ := mk_app (h := [.cells 28 0 (f.cells.map .f), .cells 28 0 [.f (.int .i64 0), .f (.int .i64 0), .f (.str []), .f .nilSl], .cells 28 0 [.f (.int .i64 (dualS f.op)), .f (.int .i64 0), .f (.str []), mkV 3 done]]) (l := done) (g := notR g) (by omega)
        simp only [List.cons_append, List.nil_append, List.length_cons, List.length_nil, Nat.zero_add, Nat.reduceAdd] at happ
        apply l26x1
        unfold F26x1
        simp (disch := omega) [part_at hi, part_load, hc, w64]
        refine ⟨fun _ => ?_, fun h => by omega⟩
        simp only [ldQ3, bop_some, msF, happ, outB_some', bhp_one, stQ3 mkV_cells, outH_some', trim_mk]
        exact ih'
    have fin := loop f.ls [] 0 rfl rfl rfl
    apply p26
    unfold F26
    rw [notR_eq]
    by_cases a1 : f.op = 3 ∧ f.ls.length = 1
    · rw [if_pos a1]
      obtain ⟨g, hg⟩ : ∃ g, f.ls = [g] := by
        match hq : f.ls with
        | [g] => exact ⟨g, rfl⟩
        | [] => rw [hq] at a1; simp at a1
        | _ :: _ :: _ => rw [hq] at a1; simp at a1
      have hpa : iaddr (.sl 4) (.f f.sl) (.f (.int .i64 0)) = some (.f (.ptr (cellsL [g]))) := part_at (i := 0) (by rw [hg]; rfl)
      simp [a1.1, a1.2, hpa, part_load, stPf, hg]
    · rw [if_neg a1]
      by_cases a3 : f.op = 3
      · have a4 : ¬ ((f.ls.length : Int) = 1) := fun h => a1 ⟨a3, by omega⟩
        have a2 : dualS f.op = 0 := by rw [a3]; rfl
        rw [if_pos (.inl a2)]
        have hd3 := fun h => hd h
        rw [a3, show dualS 3 = 0 from rfl] at hd3
        simp [a3, a4, hd3, mkF, bldF, stPf]
      · by_cases a2 : dualS f.op = 0
        · rw [if_pos (.inl a2)]
          simp [a3, a2, hd, mkF, bldF, stPf]
        · by_cases a5 : (f.ls.length : Int) = partsS f.op
          · rw [if_neg (by simp [a2, a5])]
            simp [a3, a2, a5, hd, hp, bldOp, stQf]
            exact fin
          · rw [if_pos (.inr a5)]
            simp [a3, a2, a5, hd, hp, mkF, bldF, stPf]
end Go.Proofs.YthhgenogeibfpaaGreatDoor.D
