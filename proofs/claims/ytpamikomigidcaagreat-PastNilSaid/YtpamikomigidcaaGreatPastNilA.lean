/-
  What the code of PastNil comes to, for every number and every text: its code reads neither, and the kernel reckons it.
-/
import Derived.Test.YtpamikomigidcaaGreatDC
import Derived.Test.YtpamikomigidcaaGreatRows
namespace Go.Proofs.YtpamikomigidcaaGreat.nil
open Go.Det
open Go.ChangeShapes Go.WideShapes Go.ChangeAt Go.RowKit

/-- The functions that are walked on the caller's heap. -/
def lives : List Nat := [4,5,6,7,8,9,10,12,13,14,16,19,20,24,26,32,33,41,42,43,44,45,46,47,48,49,53,54,55,56,57,58,60,61,66,67,68,69,71,74,75,77,78,79,80,83,84,86,87,89,90,91,96,97,98,99,100,101,102,103,105,106,107,108,124]
noncomputable def cx : Cx := ⟨Tryz.prog, fun _ => Option.none⟩
noncomputable def fx : Fix := ⟨cx, fun _ _ => Option.none⟩
noncomputable def pr : FuncId → Option DFunc := compFunc cx (fun f => lives.contains f) fx.keep
theorem ok : ProgOk fx pr := prog_ok (X := fx) (by kernel_rfl)
noncomputable def d3 : DFunc := (pr 3).getD default
theorem pr3 : pr 3 = some d3 := by kernel_rfl
theorem x3 : d3.ext = Option.none := by kernel_rfl
set_option maxRecDepth 1000000 in
theorem runs (k : Int) (s : List UInt8) : pcallR pr (runD pr 5000) 3 [.int .i64 k, .str s] = some (.bool true) := by kernel_rfl
theorem walk (k : Int) (s : ByteArray) (w : World) : Calls Tryz.prog 3 #[.int .i64 k, .string s] w fun e w' => e = .returned (.bool true) ∧ Kept w w' := by
  have h := calls_of (X := fx) (vals := #[.int .i64 k, .string s]) ok pr3 x3 (runs k s.data.toList) (w := w) (fun g cs h => nomatch h) rfl (fun i v hv => by
    match i with
    | 0 => injection hv with hv; subst hv; exact .int _ _
    | 1 => injection hv with hv; subst hv; exact .str s
    | i + 2 => simp at hv)
  refine h.mono fun e w' ⟨y, M, he, hy, hk⟩ => ?_
  cases hy with
  | bool _ => exact ⟨he, hk⟩
end Go.Proofs.YtpamikomigidcaaGreat.nil
