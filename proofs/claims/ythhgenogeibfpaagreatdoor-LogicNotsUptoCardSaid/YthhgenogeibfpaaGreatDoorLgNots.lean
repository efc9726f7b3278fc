/-
  The second form of LogicNots is proved, and its card: the two complements of a formula are one, whatever the formula.
  Conditions: what it reads is of bulk at most 1048576 (the second form's own bound); the row's laid tables are not read.
-/
import Derived.Test.YthhgenogeibfpaaGreatDoorLgS6
import Derived.Test.YthhgenogeibfpaaGreatDoorLgAw
import Derived.Test.YthhgenogeibfpaaGreatDoorLgBr
import Derived.Test.YthhgenogeibfpaaGreatDoorCards
import Derived.Test.YthhgenogeibfpaaGreatDoorTie
import Derived.ProofKit
import Derived.OpenShut
import Derived.WideKeyArgs
import Derived.Deep.DeepHandedRow
namespace Go.Proofs.YthhgenogeibfpaaGreatDoor.D
open Go.Det
open Go.ChangeShapes Go.WideShapes Go.ChangeAt Go.RowKit
set_option linter.unusedVariables false

theorem own : ownKnob Tryz.prog.godebug = none := by kernel_rfl
theorem laidOut : laidOutB Tryz.prog = true := by kernel_rfl
/-- An argument reads behind a call that has left all as it was, as it read before. -/
theorem stays {H : Type} {enc : TypeId × Value → H} {t : TypeId} (hr : Tryz.prog.readableRec t = true) (hrow : t < Tryz.prog.types.size) {W W' : World} {sp : Nat → Bool} {v : Value} {d : DataW H} {ps : List MemPlace}
    (h : DataW.Trod enc Tryz.prog W 0 (fun _ => true) true t v d ps) (hK : Kept W W') (hlt : ∀ p ∈ ps, p.block < W.heap.size) (hs : ∀ p ∈ ps, sp p.block = true) : DataW.Trod enc Tryz.prog W' 0 sp true t v d ps := by
  refine Go.WideElems.Trod_stays laidOut hr hrow h (fun p hp => ?_) hs
  cases p with
  | cell b o => exact World.cell?_of_block (w := W) (hK.heap b (hlt _ hp))
  | map b => exact hK.heap b (hlt _ hp)
/-- What a row's list of tables lays. -/
def valOf : DataW Unit → Value
  | .lit (.int k n) => .int k n
  | _ => .nilIface
def cellsIn : DataW Unit → Array Value
  | .agg l => (l.map valOf).toArray
  | _ => #[]
noncomputable def layOne (W : World) (x : String × DataW Unit) : World :=
  { W with heap := W.heap.modify ((Tryz.prog.globalNamed x.1).getD 0) fun
      | .cells _ t frozen => .cells (cellsIn x.2) t frozen
      | o => o }
noncomputable def laidWorld (os : Os) : World := Rows.logicNotsUptoRow.laid.foldl layOne (World.holding Tryz.prog os ⟨#[], #[], []⟩)
/-- The plainest formula. -/
def plainF : Value := .agg #[.int .i64 0, .int .i64 0, .string ⟨#[]⟩, .slice none 0 0]

set_option maxRecDepth 100000 in
theorem nots_contract (H : Type) (enc : TypeId × Value → H) (W : World) (base : Nat) (args : Array Value) (ds gs : List (DataW H)) (before : List MemPlace)
    (hval0 : ∀ (j : Nat) t v, Tryz.f5.params[j]? = some t → args[j]? = some v → Value.okWide Tryz.prog W .any base t v)
    (hW : DataW.Whole enc Tryz.prog Tryz.f5.params.toList Rows.logicNotsSpec.vars false W args.toList ds gs before) (hk : Rows.uptoSmall H (ds ++ gs) = true) :
    Calls Tryz.prog 5 args W fun e W' => ∃ v, e = .returned v ∧ Rows.logicNotsSpec.post enc Tryz.prog Tryz.f5 false true false false W args v W' := by
  have hval : ∀ (j : Nat) t v, Tryz.f5.params[j]? = some t → args[j]? = some v → Value.okWide Tryz.prog W .any base t v := hval0
  have hW' := hW
  obtain ⟨p, q, hA0, hV, rfl, hfz, hnd⟩ := hW
  have hA : DataW.TrodAll enc Tryz.prog W 0 (fun _ => true) true Tryz.f5.params.toList args.toList ds p := hA0
  rw [Tryz.params5] at hA hval
  obtain ⟨v0, d0, rfl, rfl, h0⟩ := trodAll_one hA
  obtain ⟨rfl, rfl⟩ := trodVars_none hV
  have hv0 := hval 0 28 v0 rfl rfl
  clear hA0 hval0
  simp only [List.append_nil] at hW' hk
  have hbulk : Rows.uptoBulk d0 ≤ 1048576 := by
    simp only [Rows.uptoSmall, Rows.uptoBulkAll, Nat.add_zero] at hk
    exact of_decide_eq_true hk
  obtain ⟨n0, h0n⟩ := id h0
  obtain ⟨arr, rfl⟩ : ∃ arr, v0 = .agg arr := by
    unfold Value.okWide at hv0
    rw [Tryz.underlying28] at hv0
    obtain ⟨cs, h, _⟩ := hv0
    exact ⟨cs, h⟩
  obtain ⟨f, f1, f2, f3, f4⟩ := fm_of n0 _ d0 p h0n
  have hp := nots_run awake f (by omega)
  obtain ⟨n, hn⟩ := pcall_fuel hp
  have walk := calls_of (X := fx) (vals := #[.agg arr]) ok pr5 x5 hn (w := W) (fun g cs h => nomatch h) rfl (fun i v hv => by
    match i with
    | 0 =>
      injection hv with hv; subst hv
      have hl : arr.toList.length = 4 := f2
      refine .agg _ arr ?_ (fun i hi => ?_) (fun i c hc => ?_)
      · rw [cells_len]; simpa using hl
      · rw [cells_len] at hi
        have := f3 i hi
        simpa [Value.cells, Array.getD_eq_getD_getElem?] using this
      · have := f4 i c hc
        simpa [Value.cells, Array.getD_eq_getD_getElem?] using this
    | i + 1 => simp at hv)
  refine walk.mono fun e W' ⟨y, M, he, hy, hK⟩ => ?_
  cases hy with
  | bool _ =>
  subst he
  have hlt : ∀ x ∈ p, x.block < W.heap.size := fun x hx => by simpa using hW'.lt x hx
  exact ⟨_, rfl, post_kept (pa := p) (pv := []) hW' hK (fun _ _ _ => trodAll_mk1 (shut_bool Tryz.underlying4 _)) (fun sp hs => trodAll_mk1 (stays (by kernel_rfl) (of_decide_eq_true (by kernel_rfl)) h0 hK hlt hs)) (fun _ _ => rfl) (by simp)
    (ok_one (by kernel_rfl) rfl (okWide_bool_mk Tryz.underlying4 _))⟩
end Go.Proofs.YthhgenogeibfpaaGreatDoor.D
