/- The second form of LogicNots is proved, and its card. Conditions: the second form's own bound. -/
import Derived.Test.YthhgenogeibfpaaGreatDoorLgNots
namespace Go.Proofs.YthhgenogeibfpaaGreatDoor
open Go.ChangeShapes Go.WideShapes Go.ChangeAt Go.RowKit
set_option linter.unusedVariables false
theorem laid_met (os : Os) : laidMet Tryz.prog Rows.logicNotsUptoRow.laid ((D.laidWorld os).forCall (fun _ _ => 0) ⟨#[], #[D.plainF], []⟩).memory :=
  laidMet_of_run' 8 (by kernel_rfl) (by kernel_rfl)
theorem nots_reads (os : Os) {H : Type} (enc : TypeId × Value → H) : ∃ places, DataW.whole enc Tryz.prog ((D.laidWorld os).forCall (fun _ _ => 0) ⟨#[], #[D.plainF], []⟩).memory Tryz.f5.params.toList Rows.logicNotsSpec.vars false #[D.plainF].toList 8 = some ([.agg [.lit (.int .i64 0), .lit (.int .i64 0), .lit (.string []), .nil]], [], places) :=
  ⟨[], by kernel_rfl⟩
set_option maxRecDepth 100000 in
theorem logicNots_liftedUpto (os : Os) (started : os.Started) (H : Type) (enc : TypeId × Value → H) (F : Stop.Interp) :
    ReturnsInHanded {} Tryz.checked os 5 .any ((Rows.OpenSpec.upto Rows.logicNotsSpec).preRow enc Tryz.prog Tryz.f5 Rows.logicNotsUptoRow.domain false Rows.logicNotsUptoRow.laid) (((Rows.OpenSpec.upto Rows.logicNotsSpec).at F).post enc Tryz.prog Tryz.f5 false true false false) := by
  obtain ⟨places, hx⟩ := nots_reads os enc
  refine returnsInHanded_of_row (C := Tryz.checked) (s := Rows.OpenSpec.upto Rows.logicNotsSpec) D.own started (by kernel_rfl) Tryz.func5
    (witness_row_at (enc := enc) (C := Tryz.checked) false (D.laidWorld os) #[D.plainF] rfl (by kernel_rfl) (by kernel_rfl) (by kernel_rfl)
      (OpenSpec.preRow_of_cond 8 hx (by kernel_rfl) (fun k hk => by cases hk; kernel_rfl) (by kernel_rfl) (laid_met os))) ?_
  intro W base args ds gs before hval hW _ hcond _ hL _ _
  exact D.nots_contract H enc W base args ds gs before hval hW (hcond _ rfl)
theorem logicNots_saidUpto : Rows.LogicNotsUptoSaid :=
  OpenClaim.holds_of_cond 5 Tryz.f5 rfl rfl rfl rfl rfl rfl rfl ⟨rfl, rfl, rfl, rfl, rfl⟩ rfl rfl rfl rfl rfl (by kernel_rfl) Tryz.func5 (by kernel_rfl)
    (of_decide_eq_true (by kernel_rfl)) (by unfold Func.isWrapper; first | (rw [if_pos (by decide +kernel)]; kernel_rfl) | (rw [if_neg (by decide +kernel)]; exact ⟨rfl, rfl⟩))
    (fun os started H enc _ F => by rw [OpenClaim.pre_eq_preRow]; exact logicNots_liftedUpto os started H enc F)
theorem logicNots_plain (f : FuncId) (fn : Func) (hf : Tryz.pinned.checked.prog.funcNamed "smocking/smockinglaw10.LogicNots" = some f) (hfn : Tryz.pinned.checked.prog.funcs[f]? = some fn) :
    true = Tryz.pinned.checked.prog.looks [] ∧ ∀ (j : Nat) t, fn.params[j]? = some t → Tryz.pinned.checked.prog.wantsStandIn t = false := by
  obtain rfl : f = 5 := Option.some.inj ((show Tryz.prog.funcNamed "smocking/smockinglaw10.LogicNots" = some 5 by kernel_rfl).symm.trans hf) |>.symm
  obtain rfl : fn = Tryz.f5 := (Option.some.inj (Tryz.func5.symm.trans hfn)).symm
  refine ⟨by kernel_rfl, fun j t ht => ?_⟩
  rw [Tryz.params5] at ht
  obtain rfl : t = 28 := by simpa using Array.mem_of_getElem? ht
  exact (show Tryz.prog.wantsStandIn 28 = false by kernel_rfl)
theorem logicNots_cardUpto : Rows.LogicNotsUptoCardSaid :=
  Claim7.holds_tied_plain_at .later [] _ _ _ _ logicNots_saidUpto (fun _ h => by cases h) (by kernel_rfl) (fun _ h => by cases h) logicNotsUpto_row_tie rfl ⟨rfl, rfl⟩ (by kernel_rfl) rfl logicNots_plain (by kernel_rfl)
end Go.Proofs.YthhgenogeibfpaaGreatDoor
