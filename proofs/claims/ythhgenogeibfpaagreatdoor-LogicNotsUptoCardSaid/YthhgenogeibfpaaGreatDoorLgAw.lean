/- Every awake() comes to true: the kernel reckons it. -/
import Derived.Test.YthhgenogeibfpaaGreatDoorLgHead
set_option linter.unusedVariables false
namespace Go.Proofs.YthhgenogeibfpaaGreatDoor.D
open Go.Det
noncomputable def d14 : DFunc := (pr 14).getD default
theorem pr14 : pr 14 = some d14 := by kernel_rfl
theorem x14 : d14.ext = none := by kernel_rfl
theorem v14 : d14.live = false := by kernel_rfl
set_option maxRecDepth 1000000 in
theorem awake_runs : pcallR pr (runD pr 5000) 14 [] = some (.bool true) := by kernel_rfl
theorem awake : ∀ h, lcall pr 14 [] h = some [(.f (.bool true), h)] := fun h => lcall_f (fargs := []) pr14 x14 v14 (pcall_of awake_runs)
end Go.Proofs.YthhgenogeibfpaaGreatDoor.D
