/- What the functions on formulas come to, 2. -/
import Derived.Test.YthhgenogeibfpaaGreatDoorLgS1
set_option linter.unusedVariables false
set_option linter.unusedSimpArgs false
namespace Go.Proofs.YthhgenogeibfpaaGreatDoor.D
open Go.Det

def duals : List FV := [.int .i64 4, .int .i64 5, .int .i64 6, .int .i64 7, .int .i64 10, .int .i64 13, .int .i64 11, .int .i64 12]
theorem dual_run (op : Int) : pcall pr 63 [.int .i64 op] = some (.int .i64 (dualS op)) := by
  have s4 : L63x1 0 (.f (.int .i64 op)) (.f (.sl true 4 duals)) (.f (.int .i64 4)) [] (fun v h => frz h 100 v = some (.int .i64 0)) := by
    apply l63x1
    unfold F63x1
    simp
    apply l63x0
    simp [F63x0]
  have step : ∀ (i : Nat) (p q d : Int), i < 4 → (duals.drop (i * 2)).take 2 = [.int .i64 p, .int .i64 q] →
      L63x1 0 (.f (.int .i64 op)) (.f (.sl true 4 duals)) (.f (.int .i64 (i + 1))) [] (fun v h => frz h 100 v = some (.int .i64 d)) →
      L63x1 0 (.f (.int .i64 op)) (.f (.sl true 4 duals)) (.f (.int .i64 i)) [] (fun v h => frz h 100 v = some (.int .i64 (if op = p then q else if op = q then p else d))) := by
    intro i p q d hi hd w
    have hi' : (i : Int) < 4 := by omega
    have hx : ∃ r, duals.drop (i * 2) = .int .i64 p :: .int .i64 q :: r := by
      refine ⟨(duals.drop (i * 2)).drop 2, ?_⟩
      have := (List.take_append_drop 2 (duals.drop (i * 2))).symm
      rw [hd] at this; exact this
    obtain ⟨r, hr⟩ := hx
    have ha : iaddr (.sl 2) (.f (.sl true 4 duals)) (.f (.int .i64 i)) = some (.f (.ptr (.int .i64 p :: .int .i64 q :: r))) := by
      simp [iaddr, hi', hr]
    apply l63x1
    unfold F63x1
    simp [hi', ha, iaddr_arr]
    by_cases h1 : p = op
    · simp [h1]
    · by_cases h2 : q = op
      · simp [h1, h2, Ne.symm h1]
      · simp (disch := omega) [h1, h2, Ne.symm h1, Ne.symm h2, w64]
        simpa using w
  apply p63
  unfold F63
  have e1 : ∀ a b : Int, bldV [.int .i64 0, .int .i64 0] [(0, 1, (.f (.int .i64 a))), (1, 1, (.f (.int .i64 b)))] = some (.f (.agg [.int .i64 a, .int .i64 b])) := fun a b => rfl
  have e2 : mksliceO [] 4 [.int .i64 0, .int .i64 0] [(0, 2, .f (.agg [.int .i64 4, .int .i64 5])), (2, 2, .f (.agg [.int .i64 6, .int .i64 7])), (4, 2, .f (.agg [.int .i64 10, .int .i64 13])), (6, 2, .f (.agg [.int .i64 11, .int .i64 12]))] 56 2 = some [(.f (.sl true 4 duals), [])] := rfl
  simp only [e1, e2, bop_some, bhp_one, List.length_nil]
  have := step 0 4 5 _ (by omega) rfl (step 1 6 7 _ (by omega) rfl (step 2 10 13 _ (by omega) rfl (step 3 11 12 _ (by omega) rfl s4)))
  exact this
end Go.Proofs.YthhgenogeibfpaaGreatDoor.D
