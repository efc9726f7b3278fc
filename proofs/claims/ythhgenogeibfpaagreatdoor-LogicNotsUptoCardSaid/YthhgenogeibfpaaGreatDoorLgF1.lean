/- Formulas of functions, 1. -/
import Derived.Test.YthhgenogeibfpaaGreatDoorLgHead
namespace Go.Proofs.YthhgenogeibfpaaGreatDoor.D
open Go.Det
/-! ### 5: smocking/smockinglaw10.LogicNots -/
noncomputable def d5 : DFunc := (pr 5).getD default
theorem pr5 : pr 5 = some d5 := by kernel_rfl
theorem x5 : d5.ext = none := by kernel_rfl
theorem v5 : d5.live = false := by kernel_rfl
theorem n5 : d5.ntmps = 29 := by kernel_rfl
def lv5 : Nat → List Nat
  | _ => []
def F5 (a0 : SV) (h : List SObj) (k : SV → List SObj → Prop) : Prop :=
bhp (boxO h 28 a0) fun t1 h1 =>
bop (ldV h1 true 4 t1) fun t3 =>
bhp (lcall pr 21 [t3, (.f (.int .i64 100))] h1) fun t4 h2 =>
bop (gop t4 false (ldV h2 true 4 t1)) fun t6 =>
bhp (gout t4 false h2 (lcall pr 22 [t6, (.f (.int .i64 1000))] h2)) fun t7 h3 =>
bop (gop t4 false (bin .gtr t7 (.f (.int .i64 1000)))) fun t8 =>
bop (pickV t4 (.f (.bool true)) t8) fun t9 =>
bop (gop t9 false (ldV h3 true 4 t1)) fun t11 =>
bhp (gout t9 false h3 (lcall pr 23 [t11] h3)) fun t12 h4 =>
bop (gop t9 false (un .not t12)) fun t13 =>
bop (pickV t9 (.f (.bool true)) t13) fun t14 =>
wcond t14 (bhp (lcall pr 14 [] h4) fun t15 h5 =>
k t15 h5) (bop (ldV h4 true 4 t1) fun t16 =>
bone (lcall pr 25 [t16] h4) fun t17 h6 =>
bop (ldV h6 true 4 t1) fun t18 =>
bone (lcall pr 26 [t18] h6) fun t19 h7 =>
bone (lcall pr 24 [t17, t19] h7) fun t20 h8 =>
bop (gop t20 true (ldV h8 true 4 t1)) fun t22 =>
bop (gop t20 true (ldV h8 true 4 t1)) fun t23 =>
bhp (gout t20 true h8 (lcall pr 27 [t22, t23] h8)) fun t24 h9 =>
bop (pickV t20 t24 (.f (.bool false))) fun t25 =>
bhp (gout t25 true h9 (lcall pr 14 [] h9)) fun t27 h10 =>
bop (pickV t25 t27 (.f (.bool false))) fun t28 =>
k t28 h10)
theorem e5 (a0 : SV) (h : List SObj) (k : SV → List SObj → Prop) (H : F5 a0 h k) : Entry pr d5 [a0] h k := by
  have e : F5 a0 h k = wpF pr d5 lv5 k (ann d5.body 0).1 [] ([a0] ++ List.replicate (d5.ntmps - List.length [a0]) U) h := by kernel_rfl
  apply @ent_of pr d5 lv5 [a0] h k (by rw [n5]; exact of_decide_eq_true rfl)
  rw [← e]
  exact H
theorem p5 (a0 : FV) {r : FV} (H : F5 (.f a0) [] fun v h => frz h 100 v = some r) : pcall pr 5 [a0] = some r := pcall_of_ent pr5 x5 (e5 (.f a0) [] _ H)
theorem c5 (a0 : FV) {r : FV} {h : List SObj} (hp : pcall pr 5 [a0] = some r) : lcall pr 5 [.f a0] h = some [(.f r, h)] := lcall_f (fargs := [a0]) pr5 x5 v5 hp
/-! ### 21: smocking/smockinglaw10.deep -/
noncomputable def d21 : DFunc := (pr 21).getD default
theorem pr21 : pr 21 = some d21 := by kernel_rfl
theorem x21 : d21.ext = none := by kernel_rfl
theorem v21 : d21.live = false := by kernel_rfl
theorem n21 : d21.ntmps = 23 := by kernel_rfl
def lv21 : Nat → List Nat
  | 0 => []
  | 1 => [1, 2, 5]
  | _ => []
noncomputable def P21x0 (ls : List Nat) : ACode × List AFr := (findL 0 (ann d21.body 0).1 [] ls).getD (.skip, [])
def L21x0 (h : List SObj) (k : SV → List SObj → Prop) : Prop := Lab pr d21 [] (P21x0 []).1 (P21x0 []).2 [] h k
noncomputable def P21x1 (ls : List Nat) : ACode × List AFr := (findL 1 (ann d21.body 0).1 [] ls).getD (.skip, [])
def L21x1 (l0 : Nat) (t1 t2 t5 : SV) (h : List SObj) (k : SV → List SObj → Prop) : Prop := Lab pr d21 [1, 2, 5] (P21x1 [l0]).1 (P21x1 [l0]).2 [t1, t2, t5] h k
def F21x0 (h : List SObj) (k : SV → List SObj → Prop) : Prop :=
k (.f (.bool false)) h
theorem l21x0 (h : List SObj) (k : SV → List SObj → Prop) (H : F21x0 h k) : L21x0 h k := by
  have e : AllC 23 (F21x0 h k) = AllL 23 fun env => wpF pr d21 lv21 k (P21x0 []).1 (P21x0 []).2 (patch env [] []) h := by kernel_rfl
  apply @lab_of pr d21 23 lv21 [] (P21x0 []).1 (P21x0 []).2 [] h k n21
  rw [← e]
  exact allC H
def F21x1 (l0 : Nat) (t1 t2 t5 : SV) (h : List SObj) (k : SV → List SObj → Prop) : Prop :=
bop (faddr 3 t2) fun t9 =>
bop (ldV h false 1 t9) fun t10 =>
bop (lenV h .sl t10) fun t11 =>
bop (bin .lss t5 t11) fun t12 =>
wcond t12 (bop (faddr 3 t2) fun t15 =>
bop (ldV h false 1 t15) fun t16 =>
bop (iaddr (.sl 4) t16 t5) fun t18 =>
bop (ldV h true 4 t18) fun t19 =>
bop (bin .sub t1 (.f (.int .i64 1))) fun t21 =>
bhp (lcall pr 21 [t19, t21] h) fun t22 h1 =>
wcond t22 (k (.f (.bool true)) h1) (bop (bin .add t5 (.f (.int .i64 1))) fun t14 =>
L21x1 l0 t1 t2 t14 (trim l0 [t1, t2, t14] h1) k)) (L21x0 h k)
theorem l21x1 (l0 : Nat) (t1 t2 t5 : SV) (h : List SObj) (k : SV → List SObj → Prop) (H : F21x1 l0 t1 t2 t5 h k) : L21x1 l0 t1 t2 t5 h k := by
  have e : AllC 23 (F21x1 l0 t1 t2 t5 h k) = AllL 23 fun env => wpF pr d21 lv21 k (P21x1 [l0]).1 (P21x1 [l0]).2 (patch env [1, 2, 5] [t1, t2, t5]) h := by kernel_rfl
  apply @lab_of pr d21 23 lv21 [1, 2, 5] (P21x1 [l0]).1 (P21x1 [l0]).2 [t1, t2, t5] h k n21
  rw [← e]
  exact allC H
def F21 (a0 a1 : SV) (h : List SObj) (k : SV → List SObj → Prop) : Prop :=
bhp (boxO h 28 a0) fun t2 h1 =>
bop (bin .eql a1 (.f (.int .i64 0))) fun t7 =>
wcond t7 (k (.f (.bool true)) h1) (L21x1 (List.length h1) a1 t2 (.f (.int .i64 0)) h1 k)
theorem e21 (a0 a1 : SV) (h : List SObj) (k : SV → List SObj → Prop) (H : F21 a0 a1 h k) : Entry pr d21 [a0, a1] h k := by
  have e : F21 a0 a1 h k = wpF pr d21 lv21 k (ann d21.body 0).1 [] ([a0, a1] ++ List.replicate (d21.ntmps - List.length [a0, a1]) U) h := by kernel_rfl
  apply @ent_of pr d21 lv21 [a0, a1] h k (by rw [n21]; exact of_decide_eq_true rfl)
  rw [← e]
  exact H
theorem p21 (a0 a1 : FV) {r : FV} (H : F21 (.f a0) (.f a1) [] fun v h => frz h 100 v = some r) : pcall pr 21 [a0, a1] = some r := pcall_of_ent pr21 x21 (e21 (.f a0) (.f a1) [] _ H)
theorem c21 (a0 a1 : FV) {r : FV} {h : List SObj} (hp : pcall pr 21 [a0, a1] = some r) : lcall pr 21 [.f a0, .f a1] h = some [(.f r, h)] := lcall_f (fargs := [a0, a1]) pr21 x21 v21 hp
/-! ### 22: smocking/smockinglaw10.nodes -/
noncomputable def d22 : DFunc := (pr 22).getD default
theorem pr22 : pr 22 = some d22 := by kernel_rfl
theorem x22 : d22.ext = none := by kernel_rfl
theorem v22 : d22.live = false := by kernel_rfl
theorem n22 : d22.ntmps = 31 := by kernel_rfl
def lv22 : Nat → List Nat
  | 0 => [5]
  | 1 => [1, 2, 5, 6]
  | _ => []
noncomputable def P22x0 (ls : List Nat) : ACode × List AFr := (findL 0 (ann d22.body 0).1 [] ls).getD (.skip, [])
def L22x0 (t5 : SV) (h : List SObj) (k : SV → List SObj → Prop) : Prop := Lab pr d22 [5] (P22x0 []).1 (P22x0 []).2 [t5] h k
noncomputable def P22x1 (ls : List Nat) : ACode × List AFr := (findL 1 (ann d22.body 0).1 [] ls).getD (.skip, [])
def L22x1 (l0 : Nat) (t1 t2 t5 t6 : SV) (h : List SObj) (k : SV → List SObj → Prop) : Prop := Lab pr d22 [1, 2, 5, 6] (P22x1 [l0]).1 (P22x1 [l0]).2 [t1, t2, t5, t6] h k
def F22x0 (t5 : SV) (h : List SObj) (k : SV → List SObj → Prop) : Prop :=
k t5 h
theorem l22x0 (t5 : SV) (h : List SObj) (k : SV → List SObj → Prop) (H : F22x0 t5 h k) : L22x0 t5 h k := by
  have e : AllC 31 (F22x0 t5 h k) = AllL 31 fun env => wpF pr d22 lv22 k (P22x0 []).1 (P22x0 []).2 (patch env [5] [t5]) h := by kernel_rfl
  apply @lab_of pr d22 31 lv22 [5] (P22x0 []).1 (P22x0 []).2 [t5] h k n22
  rw [← e]
  exact allC H
def F22x1 (l0 : Nat) (t1 t2 t5 t6 : SV) (h : List SObj) (k : SV → List SObj → Prop) : Prop :=
bop (faddr 3 t2) fun t8 =>
bop (ldV h false 1 t8) fun t9 =>
bop (lenV h .sl t9) fun t10 =>
bop (bin .lss t6 t10) fun t11 =>
bop (gop t11 true (some t5)) fun t13 =>
bop (gop t11 true (some t1)) fun t14 =>
bop (gop t11 true (bin .leq t13 t14)) fun t15 =>
bop (pickV t11 t15 (.f (.bool false))) fun t16 =>
wcond t16 (bop (faddr 3 t2) fun t20 =>
bop (ldV h false 1 t20) fun t21 =>
bop (iaddr (.sl 4) t21 t6) fun t23 =>
bop (ldV h true 4 t23) fun t24 =>
bop (bin .sub t1 t5) fun t27 =>
bhp (lcall pr 22 [t24, t27] h) fun t28 h1 =>
bop (bin .add t5 t28) fun t29 =>
bop (bin .add t6 (.f (.int .i64 1))) fun t18 =>
L22x1 l0 t1 t2 t29 t18 (trim l0 [t1, t2, t29, t18] h1) k) (L22x0 t5 h k)
theorem l22x1 (l0 : Nat) (t1 t2 t5 t6 : SV) (h : List SObj) (k : SV → List SObj → Prop) (H : F22x1 l0 t1 t2 t5 t6 h k) : L22x1 l0 t1 t2 t5 t6 h k := by
  have e : AllC 31 (F22x1 l0 t1 t2 t5 t6 h k) = AllL 31 fun env => wpF pr d22 lv22 k (P22x1 [l0]).1 (P22x1 [l0]).2 (patch env [1, 2, 5, 6] [t1, t2, t5, t6]) h := by kernel_rfl
  apply @lab_of pr d22 31 lv22 [1, 2, 5, 6] (P22x1 [l0]).1 (P22x1 [l0]).2 [t1, t2, t5, t6] h k n22
  rw [← e]
  exact allC H
def F22 (a0 a1 : SV) (h : List SObj) (k : SV → List SObj → Prop) : Prop :=
bhp (boxO h 28 a0) fun t2 h1 =>
L22x1 (List.length h1) a1 t2 (.f (.int .i64 1)) (.f (.int .i64 0)) h1 k
theorem e22 (a0 a1 : SV) (h : List SObj) (k : SV → List SObj → Prop) (H : F22 a0 a1 h k) : Entry pr d22 [a0, a1] h k := by
  have e : F22 a0 a1 h k = wpF pr d22 lv22 k (ann d22.body 0).1 [] ([a0, a1] ++ List.replicate (d22.ntmps - List.length [a0, a1]) U) h := by kernel_rfl
  apply @ent_of pr d22 lv22 [a0, a1] h k (by rw [n22]; exact of_decide_eq_true rfl)
  rw [← e]
  exact H
theorem p22 (a0 a1 : FV) {r : FV} (H : F22 (.f a0) (.f a1) [] fun v h => frz h 100 v = some r) : pcall pr 22 [a0, a1] = some r := pcall_of_ent pr22 x22 (e22 (.f a0) (.f a1) [] _ H)
theorem c22 (a0 a1 : FV) {r : FV} {h : List SObj} (hp : pcall pr 22 [a0, a1] = some r) : lcall pr 22 [.f a0, .f a1] h = some [(.f r, h)] := lcall_f (fargs := [a0, a1]) pr22 x22 v22 hp
/-! ### 23: smocking/smockingref10.Formed -/
noncomputable def d23 : DFunc := (pr 23).getD default
theorem pr23 : pr 23 = some d23 := by kernel_rfl
theorem x23 : d23.ext = none := by kernel_rfl
theorem v23 : d23.live = false := by kernel_rfl
theorem n23 : d23.ntmps = 5 := by kernel_rfl
def lv23 : Nat → List Nat
  | _ => []
def F23 (a0 : SV) (h : List SObj) (k : SV → List SObj → Prop) : Prop :=
bhp (boxO h 28 a0) fun t1 h1 =>
bop (ldV h1 true 4 t1) fun t3 =>
bhp (lcall pr 61 [t3] h1) fun t4 h2 =>
k t4 h2
theorem e23 (a0 : SV) (h : List SObj) (k : SV → List SObj → Prop) (H : F23 a0 h k) : Entry pr d23 [a0] h k := by
  have e : F23 a0 h k = wpF pr d23 lv23 k (ann d23.body 0).1 [] ([a0] ++ List.replicate (d23.ntmps - List.length [a0]) U) h := by kernel_rfl
  apply @ent_of pr d23 lv23 [a0] h k (by rw [n23]; exact of_decide_eq_true rfl)
  rw [← e]
  exact H
theorem p23 (a0 : FV) {r : FV} (H : F23 (.f a0) [] fun v h => frz h 100 v = some r) : pcall pr 23 [a0] = some r := pcall_of_ent pr23 x23 (e23 (.f a0) [] _ H)
theorem c23 (a0 : FV) {r : FV} {h : List SObj} (hp : pcall pr 23 [a0] = some r) : lcall pr 23 [.f a0] h = some [(.f r, h)] := lcall_f (fargs := [a0]) pr23 x23 v23 hp
/-! ### 24: smocking/smockingref00.EqFormula -/
noncomputable def d24 : DFunc := (pr 24).getD default
theorem pr24 : pr 24 = some d24 := by kernel_rfl
theorem x24 : d24.ext = none := by kernel_rfl
theorem v24 : d24.live = false := by kernel_rfl
theorem n24 : d24.ntmps = 53 := by kernel_rfl
def lv24 : Nat → List Nat
  | 0 => []
  | 1 => [2, 3, 5]
  | _ => []
noncomputable def P24x0 (ls : List Nat) : ACode × List AFr := (findL 0 (ann d24.body 0).1 [] ls).getD (.skip, [])
def L24x0 (h : List SObj) (k : SV → List SObj → Prop) : Prop := Lab pr d24 [] (P24x0 []).1 (P24x0 []).2 [] h k
noncomputable def P24x1 (ls : List Nat) : ACode × List AFr := (findL 1 (ann d24.body 0).1 [] ls).getD (.skip, [])
def L24x1 (l0 : Nat) (t2 t3 t5 : SV) (h : List SObj) (k : SV → List SObj → Prop) : Prop := Lab pr d24 [2, 3, 5] (P24x1 [l0]).1 (P24x1 [l0]).2 [t2, t3, t5] h k
def F24x0 (h : List SObj) (k : SV → List SObj → Prop) : Prop :=
k (.f (.bool true)) h
theorem l24x0 (h : List SObj) (k : SV → List SObj → Prop) (H : F24x0 h k) : L24x0 h k := by
  have e : AllC 53 (F24x0 h k) = AllL 53 fun env => wpF pr d24 lv24 k (P24x0 []).1 (P24x0 []).2 (patch env [] []) h := by kernel_rfl
  apply @lab_of pr d24 53 lv24 [] (P24x0 []).1 (P24x0 []).2 [] h k n24
  rw [← e]
  exact allC H
def F24x1 (l0 : Nat) (t2 t3 t5 : SV) (h : List SObj) (k : SV → List SObj → Prop) : Prop :=
bop (faddr 3 t2) fun t35 =>
bop (ldV h false 1 t35) fun t36 =>
bop (lenV h .sl t36) fun t37 =>
bop (bin .lss t5 t37) fun t38 =>
wcond t38 (bop (faddr 3 t2) fun t41 =>
bop (ldV h false 1 t41) fun t42 =>
bop (iaddr (.sl 4) t42 t5) fun t44 =>
bop (ldV h true 4 t44) fun t45 =>
bop (faddr 3 t3) fun t46 =>
bop (ldV h false 1 t46) fun t47 =>
bop (iaddr (.sl 4) t47 t5) fun t49 =>
bop (ldV h true 4 t49) fun t50 =>
bhp (lcall pr 24 [t45, t50] h) fun t51 h1 =>
bop (un .not t51) fun t52 =>
wcond t52 (k (.f (.bool false)) h1) (bop (bin .add t5 (.f (.int .i64 1))) fun t40 =>
L24x1 l0 t2 t3 t40 (trim l0 [t2, t3, t40] h1) k)) (L24x0 h k)
theorem l24x1 (l0 : Nat) (t2 t3 t5 : SV) (h : List SObj) (k : SV → List SObj → Prop) (H : F24x1 l0 t2 t3 t5 h k) : L24x1 l0 t2 t3 t5 h k := by
  have e : AllC 53 (F24x1 l0 t2 t3 t5 h k) = AllL 53 fun env => wpF pr d24 lv24 k (P24x1 [l0]).1 (P24x1 [l0]).2 (patch env [2, 3, 5] [t2, t3, t5]) h := by kernel_rfl
  apply @lab_of pr d24 53 lv24 [2, 3, 5] (P24x1 [l0]).1 (P24x1 [l0]).2 [t2, t3, t5] h k n24
  rw [← e]
  exact allC H
def F24 (a0 a1 : SV) (h : List SObj) (k : SV → List SObj → Prop) : Prop :=
bhp (boxO h 28 a0) fun t2 h1 =>
bhp (boxO h1 28 a1) fun t3 h2 =>
bop (faddr 0 t2) fun t6 =>
bop (ldV h2 false 1 t6) fun t7 =>
bop (faddr 0 t3) fun t8 =>
bop (ldV h2 false 1 t8) fun t9 =>
bop (bin .neq t7 t9) fun t10 =>
bop (gop t10 false (faddr 1 t2)) fun t12 =>
bop (gop t10 false (ldV h2 false 1 t12)) fun t13 =>
bop (gop t10 false (faddr 1 t3)) fun t14 =>
bop (gop t10 false (ldV h2 false 1 t14)) fun t15 =>
bop (gop t10 false (bin .neq t13 t15)) fun t16 =>
bop (pickV t10 (.f (.bool true)) t16) fun t17 =>
bop (gop t17 false (faddr 2 t2)) fun t19 =>
bop (gop t17 false (ldV h2 false 1 t19)) fun t20 =>
bop (gop t17 false (faddr 2 t3)) fun t21 =>
bop (gop t17 false (ldV h2 false 1 t21)) fun t22 =>
bop (gop t17 false (bin .neq t20 t22)) fun t23 =>
bop (pickV t17 (.f (.bool true)) t23) fun t24 =>
bop (gop t24 false (faddr 3 t2)) fun t26 =>
bop (gop t24 false (ldV h2 false 1 t26)) fun t27 =>
bop (gop t24 false (lenV h2 .sl t27)) fun t28 =>
bop (gop t24 false (faddr 3 t3)) fun t29 =>
bop (gop t24 false (ldV h2 false 1 t29)) fun t30 =>
bop (gop t24 false (lenV h2 .sl t30)) fun t31 =>
bop (gop t24 false (bin .neq t28 t31)) fun t32 =>
bop (pickV t24 (.f (.bool true)) t32) fun t33 =>
wcond t33 (k (.f (.bool false)) h2) (L24x1 (List.length h2) t2 t3 (.f (.int .i64 0)) h2 k)
theorem e24 (a0 a1 : SV) (h : List SObj) (k : SV → List SObj → Prop) (H : F24 a0 a1 h k) : Entry pr d24 [a0, a1] h k := by
  have e : F24 a0 a1 h k = wpF pr d24 lv24 k (ann d24.body 0).1 [] ([a0, a1] ++ List.replicate (d24.ntmps - List.length [a0, a1]) U) h := by kernel_rfl
  apply @ent_of pr d24 lv24 [a0, a1] h k (by rw [n24]; exact of_decide_eq_true rfl)
  rw [← e]
  exact H
theorem p24 (a0 a1 : FV) {r : FV} (H : F24 (.f a0) (.f a1) [] fun v h => frz h 100 v = some r) : pcall pr 24 [a0, a1] = some r := pcall_of_ent pr24 x24 (e24 (.f a0) (.f a1) [] _ H)
theorem c24 (a0 a1 : FV) {r : FV} {h : List SObj} (hp : pcall pr 24 [a0, a1] = some r) : lcall pr 24 [.f a0, .f a1] h = some [(.f r, h)] := lcall_f (fargs := [a0, a1]) pr24 x24 v24 hp
/-! ### 25: smocking/logic.Not -/
noncomputable def d25 : DFunc := (pr 25).getD default
theorem pr25 : pr 25 = some d25 := by kernel_rfl
theorem x25 : d25.ext = none := by kernel_rfl
theorem v25 : d25.live = false := by kernel_rfl
theorem n25 : d25.ntmps = 60 := by kernel_rfl
def lv25 : Nat → List Nat
  | 0 => [2, 6]
  | 1 => [2, 6, 45, 46, 47]
  | _ => []
noncomputable def P25x0 (ls : List Nat) : ACode × List AFr := (findL 0 (ann d25.body 0).1 [] ls).getD (.skip, [])
def L25x0 (t2 t6 : SV) (h : List SObj) (k : SV → List SObj → Prop) : Prop := Lab pr d25 [2, 6] (P25x0 []).1 (P25x0 []).2 [t2, t6] h k
noncomputable def P25x1 (ls : List Nat) : ACode × List AFr := (findL 1 (ann d25.body 0).1 [] ls).getD (.skip, [])
def L25x1 (l0 : Nat) (t2 t6 t45 t46 t47 : SV) (h : List SObj) (k : SV → List SObj → Prop) : Prop := Lab pr d25 [2, 6, 45, 46, 47] (P25x1 [l0]).1 (P25x1 [l0]).2 [t2, t6, t45, t46, t47] h k
def F25x0 (t2 t6 : SV) (h : List SObj) (k : SV → List SObj → Prop) : Prop :=
bop (ldV h true 4 t6) fun t59 =>
bhp (outH (stV h 4 t2 t59)) fun _ h1 =>
bop (ldV h1 true 4 t2) fun r2 =>
k r2 h1
theorem l25x0 (t2 t6 : SV) (h : List SObj) (k : SV → List SObj → Prop) (H : F25x0 t2 t6 h k) : L25x0 t2 t6 h k := by
  have e : AllC 60 (F25x0 t2 t6 h k) = AllL 60 fun env => wpF pr d25 lv25 k (P25x0 []).1 (P25x0 []).2 (patch env [2, 6] [t2, t6]) h := by kernel_rfl
  apply @lab_of pr d25 60 lv25 [2, 6] (P25x0 []).1 (P25x0 []).2 [t2, t6] h k n25
  rw [← e]
  exact allC H
def F25x1 (l0 : Nat) (t2 t6 t45 t46 t47 : SV) (h : List SObj) (k : SV → List SObj → Prop) : Prop :=
bop (bin .lss t47 t46) fun t48 =>
wcond t48 (bop (iaddr (.sl 4) t45 t47) fun t49 =>
bop (ldV h true 4 t49) fun t50 =>
bhp (allocO h 28 [.int .i64 0, .int .i64 0, .str [], .nilSl]) fun t8 h1 =>
bhp (outH (stV h1 4 t8 t50)) fun _ h2 =>
bop (faddr 3 t6) fun t51 =>
bop (ldV h2 false 1 t51) fun t52 =>
bop (ldV h2 true 4 t8) fun t53 =>
bone (lcall pr 25 [t53] h2) fun t54 h3 =>
bop (msV 1 [.int .i64 0, .int .i64 0, .str [], .nilSl] [(0, 4, t54)]) fun t55 =>
bhp (outB (appendOp h3 28 4 56 t52 t55)) fun t56 h4 =>
bop (faddr 3 t6) fun t57 =>
bhp (outH (stV h4 1 t57 t56)) fun _ h5 =>
bop (bin .add t47 (.f (.int .i64 1))) fun t58 =>
L25x1 l0 t2 t6 t45 t46 t58 (trim l0 [t2, t6, t45, t46, t58] h5) k) (L25x0 t2 t6 h k)
theorem l25x1 (l0 : Nat) (t2 t6 t45 t46 t47 : SV) (h : List SObj) (k : SV → List SObj → Prop) (H : F25x1 l0 t2 t6 t45 t46 t47 h k) : L25x1 l0 t2 t6 t45 t46 t47 h k := by
  have e : AllC 60 (F25x1 l0 t2 t6 t45 t46 t47 h k) = AllL 60 fun env => wpF pr d25 lv25 k (P25x1 [l0]).1 (P25x1 [l0]).2 (patch env [2, 6, 45, 46, 47] [t2, t6, t45, t46, t47]) h := by kernel_rfl
  apply @lab_of pr d25 60 lv25 [2, 6, 45, 46, 47] (P25x1 [l0]).1 (P25x1 [l0]).2 [t2, t6, t45, t46, t47] h k n25
  rw [← e]
  exact allC H
def F25 (a0 : SV) (h : List SObj) (k : SV → List SObj → Prop) : Prop :=
bhp (boxO h 28 a0) fun t1 h1 =>
bhp (allocO h1 28 [.int .i64 0, .int .i64 0, .str [], .nilSl]) fun t2 h2 =>
bhp (mkmapO h2) fun t9 h3 =>
bhp (outH (mapset h3 .int t9 (.f (.int .i64 4)) (.f (.int .i64 5)))) fun _ h4 =>
bhp (outH (mapset h4 .int t9 (.f (.int .i64 5)) (.f (.int .i64 4)))) fun _ h5 =>
bhp (outH (mapset h5 .int t9 (.f (.int .i64 6)) (.f (.int .i64 7)))) fun _ h6 =>
bhp (outH (mapset h6 .int t9 (.f (.int .i64 7)) (.f (.int .i64 6)))) fun _ h7 =>
bhp (outH (mapset h7 .int t9 (.f (.int .i64 10)) (.f (.int .i64 13)))) fun _ h8 =>
bhp (outH (mapset h8 .int t9 (.f (.int .i64 13)) (.f (.int .i64 10)))) fun _ h9 =>
bhp (outH (mapset h9 .int t9 (.f (.int .i64 11)) (.f (.int .i64 12)))) fun _ h10 =>
bhp (outH (mapset h10 .int t9 (.f (.int .i64 12)) (.f (.int .i64 11)))) fun _ h11 =>
bop (faddr 0 t1) fun t11 =>
bop (ldV h11 false 1 t11) fun t12 =>
bop (bin .eql t12 (.f (.int .i64 3))) fun t13 =>
bop (gop t13 true (faddr 3 t1)) fun t15 =>
bop (gop t13 true (ldV h11 false 1 t15)) fun t16 =>
bop (gop t13 true (lenV h11 .sl t16)) fun t17 =>
bop (gop t13 true (bin .eql t17 (.f (.int .i64 1)))) fun t18 =>
bop (pickV t13 t18 (.f (.bool false))) fun t19 =>
wcond t19 (bop (faddr 3 t1) fun t20 =>
bop (ldV h11 false 1 t20) fun t21 =>
bop (iaddr (.sl 4) t21 (.f (.int .i64 0))) fun t22 =>
bop (ldV h11 true 4 t22) fun t23 =>
bhp (lcall pr 62 [t23] h11) fun t24 h12 =>
bhp (outH (stV h12 4 t2 t24)) fun _ h13 =>
bop (ldV h13 true 4 t2) fun r2 =>
k r2 h13) (bop (faddr 0 t1) fun t27 =>
bop (ldV h11 false 1 t27) fun t28 =>
bop (lookup h11 .int (.int .i64 0) true t9 t28) fun t29 =>
bop (extractV t29 0) fun t30 =>
bop (extractV t29 1) fun t31 =>
bop (un .not t31) fun t33 =>
wcond t33 (bop (ldV h11 true 4 t1) fun t34 =>
bhp (lcall pr 62 [t34] h11) fun t35 h14 =>
bhp (mksliceO h14 1 [.int .i64 0, .int .i64 0, .str [], .nilSl] [(0, 4, t35)] 28 4) fun t36 h15 =>
bop (bldV [.int .i64 0, .int .i64 0, .str [], .nilSl] [(0, 1, (.f (.int .i64 3))), (3, 1, t36)]) fun t37 =>
bhp (outH (stV h15 4 t2 t37)) fun _ h16 =>
bop (ldV h16 true 4 t2) fun r2 =>
k r2 h16) (bop (faddr 1 t1) fun t39 =>
bop (ldV h11 false 1 t39) fun t40 =>
bop (faddr 2 t1) fun t41 =>
bop (ldV h11 false 1 t41) fun t42 =>
bop (bldV [.int .i64 0, .int .i64 0, .str [], .nilSl] [(0, 1, t30), (1, 1, t40), (2, 1, t42)]) fun t43 =>
bhp (allocO h11 28 [.int .i64 0, .int .i64 0, .str [], .nilSl]) fun t6 h17 =>
bhp (outH (stV h17 4 t6 t43)) fun _ h18 =>
bop (faddr 3 t1) fun t44 =>
bop (ldV h18 false 1 t44) fun t45 =>
bop (lenV h18 .sl t45) fun t46 =>
L25x1 (List.length h18) t2 t6 t45 t46 (.f (.int .i64 0)) h18 k))
theorem e25 (a0 : SV) (h : List SObj) (k : SV → List SObj → Prop) (H : F25 a0 h k) : Entry pr d25 [a0] h k := by
  have e : F25 a0 h k = wpF pr d25 lv25 k (ann d25.body 0).1 [] ([a0] ++ List.replicate (d25.ntmps - List.length [a0]) U) h := by kernel_rfl
  apply @ent_of pr d25 lv25 [a0] h k (by rw [n25]; exact of_decide_eq_true rfl)
  rw [← e]
  exact H
theorem p25 (a0 : FV) {r : FV} (H : F25 (.f a0) [] fun v h => frz h 100 v = some r) : pcall pr 25 [a0] = some r := pcall_of_ent pr25 x25 (e25 (.f a0) [] _ H)
theorem c25 (a0 : FV) {r : FV} {h : List SObj} (hp : pcall pr 25 [a0] = some r) : lcall pr 25 [.f a0] h = some [(.f r, h)] := lcall_f (fargs := [a0]) pr25 x25 v25 hp
/-! ### 26: smocking/smockingref10.Not -/
noncomputable def d26 : DFunc := (pr 26).getD default
theorem pr26 : pr 26 = some d26 := by kernel_rfl
theorem x26 : d26.ext = none := by kernel_rfl
theorem v26 : d26.live = false := by kernel_rfl
theorem n26 : d26.ntmps = 57 := by kernel_rfl
def lv26 : Nat → List Nat
  | 0 => [2, 4]
  | 1 => [1, 2, 4, 5]
  | _ => []
noncomputable def P26x0 (ls : List Nat) : ACode × List AFr := (findL 0 (ann d26.body 0).1 [] ls).getD (.skip, [])
def L26x0 (t2 t4 : SV) (h : List SObj) (k : SV → List SObj → Prop) : Prop := Lab pr d26 [2, 4] (P26x0 []).1 (P26x0 []).2 [t2, t4] h k
noncomputable def P26x1 (ls : List Nat) : ACode × List AFr := (findL 1 (ann d26.body 0).1 [] ls).getD (.skip, [])
def L26x1 (l0 : Nat) (t1 t2 t4 t5 : SV) (h : List SObj) (k : SV → List SObj → Prop) : Prop := Lab pr d26 [1, 2, 4, 5] (P26x1 [l0]).1 (P26x1 [l0]).2 [t1, t2, t4, t5] h k
def F26x0 (t2 t4 : SV) (h : List SObj) (k : SV → List SObj → Prop) : Prop :=
bop (ldV h true 4 t4) fun t56 =>
bhp (outH (stV h 4 t2 t56)) fun _ h1 =>
bop (ldV h1 true 4 t2) fun r2 =>
k r2 h1
theorem l26x0 (t2 t4 : SV) (h : List SObj) (k : SV → List SObj → Prop) (H : F26x0 t2 t4 h k) : L26x0 t2 t4 h k := by
  have e : AllC 57 (F26x0 t2 t4 h k) = AllL 57 fun env => wpF pr d26 lv26 k (P26x0 []).1 (P26x0 []).2 (patch env [2, 4] [t2, t4]) h := by kernel_rfl
  apply @lab_of pr d26 57 lv26 [2, 4] (P26x0 []).1 (P26x0 []).2 [t2, t4] h k n26
  rw [← e]
  exact allC H
def F26x1 (l0 : Nat) (t1 t2 t4 t5 : SV) (h : List SObj) (k : SV → List SObj → Prop) : Prop :=
bop (faddr 3 t1) fun t39 =>
bop (ldV h false 1 t39) fun t40 =>
bop (lenV h .sl t40) fun t41 =>
bop (bin .lss t5 t41) fun t42 =>
wcond t42 (bop (faddr 3 t4) fun t45 =>
bop (ldV h false 1 t45) fun t46 =>
bop (faddr 3 t1) fun t47 =>
bop (ldV h false 1 t47) fun t48 =>
bop (iaddr (.sl 4) t48 t5) fun t50 =>
bop (ldV h true 4 t50) fun t51 =>
bone (lcall pr 26 [t51] h) fun t52 h1 =>
bop (msV 1 [.int .i64 0, .int .i64 0, .str [], .nilSl] [(0, 4, t52)]) fun t53 =>
bhp (outB (appendOp h1 28 4 56 t46 t53)) fun t54 h2 =>
bop (faddr 3 t4) fun t55 =>
bhp (outH (stV h2 1 t55 t54)) fun _ h3 =>
bop (bin .add t5 (.f (.int .i64 1))) fun t44 =>
L26x1 l0 t1 t2 t4 t44 (trim l0 [t1, t2, t4, t44] h3) k) (L26x0 t2 t4 h k)
theorem l26x1 (l0 : Nat) (t1 t2 t4 t5 : SV) (h : List SObj) (k : SV → List SObj → Prop) (H : F26x1 l0 t1 t2 t4 t5 h k) : L26x1 l0 t1 t2 t4 t5 h k := by
  have e : AllC 57 (F26x1 l0 t1 t2 t4 t5 h k) = AllL 57 fun env => wpF pr d26 lv26 k (P26x1 [l0]).1 (P26x1 [l0]).2 (patch env [1, 2, 4, 5] [t1, t2, t4, t5]) h := by kernel_rfl
  apply @lab_of pr d26 57 lv26 [1, 2, 4, 5] (P26x1 [l0]).1 (P26x1 [l0]).2 [t1, t2, t4, t5] h k n26
  rw [← e]
  exact allC H
def F26 (a0 : SV) (h : List SObj) (k : SV → List SObj → Prop) : Prop :=
bhp (boxO h 28 a0) fun t1 h1 =>
bhp (allocO h1 28 [.int .i64 0, .int .i64 0, .str [], .nilSl]) fun t2 h2 =>
bop (faddr 0 t1) fun t6 =>
bop (ldV h2 false 1 t6) fun t7 =>
bop (bin .eql t7 (.f (.int .i64 3))) fun t8 =>
bop (gop t8 true (faddr 3 t1)) fun t10 =>
bop (gop t8 true (ldV h2 false 1 t10)) fun t11 =>
bop (gop t8 true (lenV h2 .sl t11)) fun t12 =>
bop (gop t8 true (bin .eql t12 (.f (.int .i64 1)))) fun t13 =>
bop (pickV t8 t13 (.f (.bool false))) fun t14 =>
wcond t14 (bop (faddr 3 t1) fun t15 =>
bop (ldV h2 false 1 t15) fun t16 =>
bop (iaddr (.sl 4) t16 (.f (.int .i64 0))) fun t17 =>
bop (ldV h2 true 4 t17) fun t18 =>
bhp (outH (stV h2 4 t2 t18)) fun _ h3 =>
bop (ldV h3 true 4 t2) fun r2 =>
k r2 h3) (bop (faddr 0 t1) fun t19 =>
bop (ldV h2 false 1 t19) fun t20 =>
bhp (lcall pr 63 [t20] h2) fun t21 h4 =>
bop (bin .eql t21 (.f (.int .i64 0))) fun t23 =>
bop (gop t23 false (faddr 3 t1)) fun t25 =>
bop (gop t23 false (ldV h4 false 1 t25)) fun t26 =>
bop (gop t23 false (lenV h4 .sl t26)) fun t27 =>
bop (gop t23 false (faddr 0 t1)) fun t28 =>
bop (gop t23 false (ldV h4 false 1 t28)) fun t29 =>
bone (gout t23 false h4 (lcall pr 64 [t29] h4)) fun t30 h5 =>
bop (gop t23 false (bin .neq t27 t30)) fun t31 =>
bop (pickV t23 (.f (.bool true)) t31) fun t32 =>
wcond t32 (bop (ldV h5 true 4 t1) fun t33 =>
bhp (mksliceO h5 1 [.int .i64 0, .int .i64 0, .str [], .nilSl] [(0, 4, t33)] 28 4) fun t34 h6 =>
bop (bldV [.int .i64 0, .int .i64 0, .str [], .nilSl] [(0, 1, (.f (.int .i64 3))), (3, 1, t34)]) fun t35 =>
bhp (outH (stV h6 4 t2 t35)) fun _ h7 =>
bop (ldV h7 true 4 t2) fun r2 =>
k r2 h7) (bop (bldV [.int .i64 0, .int .i64 0, .str [], .nilSl] [(0, 1, t21)]) fun t37 =>
bhp (allocO h5 28 [.int .i64 0, .int .i64 0, .str [], .nilSl]) fun t4 h8 =>
bhp (outH (stV h8 4 t4 t37)) fun _ h9 =>
L26x1 (List.length h9) t1 t2 t4 (.f (.int .i64 0)) h9 k))
theorem e26 (a0 : SV) (h : List SObj) (k : SV → List SObj → Prop) (H : F26 a0 h k) : Entry pr d26 [a0] h k := by
  have e : F26 a0 h k = wpF pr d26 lv26 k (ann d26.body 0).1 [] ([a0] ++ List.replicate (d26.ntmps - List.length [a0]) U) h := by kernel_rfl
  apply @ent_of pr d26 lv26 [a0] h k (by rw [n26]; exact of_decide_eq_true rfl)
  rw [← e]
  exact H
theorem p26 (a0 : FV) {r : FV} (H : F26 (.f a0) [] fun v h => frz h 100 v = some r) : pcall pr 26 [a0] = some r := pcall_of_ent pr26 x26 (e26 (.f a0) [] _ H)
theorem c26 (a0 : FV) {r : FV} {h : List SObj} (hp : pcall pr 26 [a0] = some r) : lcall pr 26 [.f a0] h = some [(.f r, h)] := lcall_f (fargs := [a0]) pr26 x26 v26 hp
/-! ### 27: smocking/logic.Equal -/
noncomputable def d27 : DFunc := (pr 27).getD default
theorem pr27 : pr 27 = some d27 := by kernel_rfl
theorem x27 : d27.ext = none := by kernel_rfl
theorem v27 : d27.live = false := by kernel_rfl
theorem n27 : d27.ntmps = 31 := by kernel_rfl
def lv27 : Nat → List Nat
  | _ => []
def F27 (a0 a1 : SV) (h : List SObj) (k : SV → List SObj → Prop) : Prop :=
bhp (boxO h 28 a0) fun t2 h1 =>
bhp (boxO h1 28 a1) fun t3 h2 =>
bop (faddr 0 t2) fun t5 =>
bop (ldV h2 false 1 t5) fun t6 =>
bop (faddr 0 t3) fun t7 =>
bop (ldV h2 false 1 t7) fun t8 =>
bop (bin .eql t6 t8) fun t9 =>
bop (gop t9 true (faddr 1 t2)) fun t11 =>
bop (gop t9 true (ldV h2 false 1 t11)) fun t12 =>
bop (gop t9 true (faddr 1 t3)) fun t13 =>
bop (gop t9 true (ldV h2 false 1 t13)) fun t14 =>
bop (gop t9 true (bin .eql t12 t14)) fun t15 =>
bop (pickV t9 t15 (.f (.bool false))) fun t16 =>
bop (gop t16 true (faddr 2 t2)) fun t18 =>
bop (gop t16 true (ldV h2 false 1 t18)) fun t19 =>
bop (gop t16 true (faddr 2 t3)) fun t20 =>
bop (gop t16 true (ldV h2 false 1 t20)) fun t21 =>
bop (gop t16 true (bin .eql t19 t21)) fun t22 =>
bop (pickV t16 t22 (.f (.bool false))) fun t23 =>
bop (gop t23 true (faddr 3 t2)) fun t25 =>
bop (gop t23 true (ldV h2 false 1 t25)) fun t26 =>
bop (gop t23 true (faddr 3 t3)) fun t27 =>
bop (gop t23 true (ldV h2 false 1 t27)) fun t28 =>
bhp (gout t23 true h2 (lcall pr 65 [t26, t28, (.f (.func (.func 27) []))] h2)) fun t29 h3 =>
bop (pickV t23 t29 (.f (.bool false))) fun t30 =>
k t30 h3
theorem e27 (a0 a1 : SV) (h : List SObj) (k : SV → List SObj → Prop) (H : F27 a0 a1 h k) : Entry pr d27 [a0, a1] h k := by
  have e : F27 a0 a1 h k = wpF pr d27 lv27 k (ann d27.body 0).1 [] ([a0, a1] ++ List.replicate (d27.ntmps - List.length [a0, a1]) U) h := by kernel_rfl
  apply @ent_of pr d27 lv27 [a0, a1] h k (by rw [n27]; exact of_decide_eq_true rfl)
  rw [← e]
  exact H
theorem p27 (a0 a1 : FV) {r : FV} (H : F27 (.f a0) (.f a1) [] fun v h => frz h 100 v = some r) : pcall pr 27 [a0, a1] = some r := pcall_of_ent pr27 x27 (e27 (.f a0) (.f a1) [] _ H)
theorem c27 (a0 a1 : FV) {r : FV} {h : List SObj} (hp : pcall pr 27 [a0, a1] = some r) : lcall pr 27 [.f a0, .f a1] h = some [(.f r, h)] := lcall_f (fargs := [a0, a1]) pr27 x27 v27 hp
/-! ### 61: smocking/smockingref10.formed -/
noncomputable def d61 : DFunc := (pr 61).getD default
theorem pr61 : pr 61 = some d61 := by kernel_rfl
theorem x61 : d61.ext = none := by kernel_rfl
theorem v61 : d61.live = false := by kernel_rfl
theorem n61 : d61.ntmps = 44 := by kernel_rfl
def lv61 : Nat → List Nat
  | 0 => []
  | 1 => [1, 3]
  | _ => []
noncomputable def P61x0 (ls : List Nat) : ACode × List AFr := (findL 0 (ann d61.body 0).1 [] ls).getD (.skip, [])
def L61x0 (h : List SObj) (k : SV → List SObj → Prop) : Prop := Lab pr d61 [] (P61x0 []).1 (P61x0 []).2 [] h k
noncomputable def P61x1 (ls : List Nat) : ACode × List AFr := (findL 1 (ann d61.body 0).1 [] ls).getD (.skip, [])
def L61x1 (l0 : Nat) (t1 t3 : SV) (h : List SObj) (k : SV → List SObj → Prop) : Prop := Lab pr d61 [1, 3] (P61x1 [l0]).1 (P61x1 [l0]).2 [t1, t3] h k
def F61x0 (h : List SObj) (k : SV → List SObj → Prop) : Prop :=
k (.f (.bool true)) h
theorem l61x0 (h : List SObj) (k : SV → List SObj → Prop) (H : F61x0 h k) : L61x0 h k := by
  have e : AllC 44 (F61x0 h k) = AllL 44 fun env => wpF pr d61 lv61 k (P61x0 []).1 (P61x0 []).2 (patch env [] []) h := by kernel_rfl
  apply @lab_of pr d61 44 lv61 [] (P61x0 []).1 (P61x0 []).2 [] h k n61
  rw [← e]
  exact allC H
def F61x1 (l0 : Nat) (t1 t3 : SV) (h : List SObj) (k : SV → List SObj → Prop) : Prop :=
bop (faddr 3 t1) fun t31 =>
bop (ldV h false 1 t31) fun t32 =>
bop (lenV h .sl t32) fun t33 =>
bop (bin .lss t3 t33) fun t34 =>
wcond t34 (bop (faddr 3 t1) fun t37 =>
bop (ldV h false 1 t37) fun t38 =>
bop (iaddr (.sl 4) t38 t3) fun t40 =>
bop (ldV h true 4 t40) fun t41 =>
bhp (lcall pr 61 [t41] h) fun t42 h1 =>
bop (un .not t42) fun t43 =>
wcond t43 (k (.f (.bool false)) h1) (bop (bin .add t3 (.f (.int .i64 1))) fun t36 =>
L61x1 l0 t1 t36 (trim l0 [t1, t36] h1) k)) (L61x0 h k)
theorem l61x1 (l0 : Nat) (t1 t3 : SV) (h : List SObj) (k : SV → List SObj → Prop) (H : F61x1 l0 t1 t3 h k) : L61x1 l0 t1 t3 h k := by
  have e : AllC 44 (F61x1 l0 t1 t3 h k) = AllL 44 fun env => wpF pr d61 lv61 k (P61x1 [l0]).1 (P61x1 [l0]).2 (patch env [1, 3] [t1, t3]) h := by kernel_rfl
  apply @lab_of pr d61 44 lv61 [1, 3] (P61x1 [l0]).1 (P61x1 [l0]).2 [t1, t3] h k n61
  rw [← e]
  exact allC H
def F61 (a0 : SV) (h : List SObj) (k : SV → List SObj → Prop) : Prop :=
bhp (boxO h 28 a0) fun t1 h1 =>
bop (faddr 0 t1) fun t4 =>
bop (ldV h1 false 1 t4) fun t5 =>
bone (lcall pr 64 [t5] h1) fun t6 h2 =>
bop (faddr 3 t1) fun t7 =>
bop (ldV h2 false 1 t7) fun t8 =>
bop (lenV h2 .sl t8) fun t9 =>
bop (bin .neq t6 t9) fun t10 =>
bop (gop t10 false (faddr 0 t1)) fun t12 =>
bop (gop t10 false (ldV h2 false 1 t12)) fun t13 =>
bop (gop t10 false (bin .neq t13 (.f (.int .i64 2)))) fun t14 =>
bop (gop t10 false (some t14)) fun t15 =>
bop (gop t15 true (faddr 1 t1)) fun t16 =>
bop (gop t15 true (ldV h2 false 1 t16)) fun t17 =>
bop (gop t15 true (bin .neq t17 (.f (.int .i64 0)))) fun t18 =>
bop (gop t10 false (pickV t15 t18 (.f (.bool false)))) fun t19 =>
bop (pickV t10 (.f (.bool true)) t19) fun t20 =>
bop (gop t20 false (faddr 2 t1)) fun t22 =>
bop (gop t20 false (ldV h2 false 1 t22)) fun t23 =>
bop (gop t20 false (bin .neq t23 (.f (.str [])))) fun t24 =>
bop (gop t20 false (faddr 0 t1)) fun t25 =>
bop (gop t20 false (ldV h2 false 1 t25)) fun t26 =>
bop (gop t20 false (bin .eql t26 (.f (.int .i64 14)))) fun t27 =>
bop (gop t20 false (eqB true t24 t27)) fun t28 =>
bop (pickV t20 (.f (.bool true)) t28) fun t29 =>
wcond t29 (k (.f (.bool false)) h2) (L61x1 (List.length h2) t1 (.f (.int .i64 0)) h2 k)
theorem e61 (a0 : SV) (h : List SObj) (k : SV → List SObj → Prop) (H : F61 a0 h k) : Entry pr d61 [a0] h k := by
  have e : F61 a0 h k = wpF pr d61 lv61 k (ann d61.body 0).1 [] ([a0] ++ List.replicate (d61.ntmps - List.length [a0]) U) h := by kernel_rfl
  apply @ent_of pr d61 lv61 [a0] h k (by rw [n61]; exact of_decide_eq_true rfl)
  rw [← e]
  exact H
theorem p61 (a0 : FV) {r : FV} (H : F61 (.f a0) [] fun v h => frz h 100 v = some r) : pcall pr 61 [a0] = some r := pcall_of_ent pr61 x61 (e61 (.f a0) [] _ H)
theorem c61 (a0 : FV) {r : FV} {h : List SObj} (hp : pcall pr 61 [a0] = some r) : lcall pr 61 [.f a0] h = some [(.f r, h)] := lcall_f (fargs := [a0]) pr61 x61 v61 hp
/-! ### 62: smocking/logic.clone -/
noncomputable def d62 : DFunc := (pr 62).getD default
theorem pr62 : pr 62 = some d62 := by kernel_rfl
theorem x62 : d62.ext = none := by kernel_rfl
theorem v62 : d62.live = false := by kernel_rfl
theorem n62 : d62.ntmps = 26 := by kernel_rfl
def lv62 : Nat → List Nat
  | 0 => [1, 2]
  | 1 => [1, 2, 10, 11]
  | _ => []
noncomputable def P62x0 (ls : List Nat) : ACode × List AFr := (findL 0 (ann d62.body 0).1 [] ls).getD (.skip, [])
def L62x0 (t1 t2 : SV) (h : List SObj) (k : SV → List SObj → Prop) : Prop := Lab pr d62 [1, 2] (P62x0 []).1 (P62x0 []).2 [t1, t2] h k
noncomputable def P62x1 (ls : List Nat) : ACode × List AFr := (findL 1 (ann d62.body 0).1 [] ls).getD (.skip, [])
def L62x1 (l0 : Nat) (t1 t2 t10 t11 : SV) (h : List SObj) (k : SV → List SObj → Prop) : Prop := Lab pr d62 [1, 2, 10, 11] (P62x1 [l0]).1 (P62x1 [l0]).2 [t1, t2, t10, t11] h k
def F62x0 (t1 t2 : SV) (h : List SObj) (k : SV → List SObj → Prop) : Prop :=
bop (ldV h true 4 t1) fun t25 =>
bhp (outH (stV h 4 t2 t25)) fun _ h1 =>
bop (ldV h1 true 4 t2) fun r2 =>
k r2 h1
theorem l62x0 (t1 t2 : SV) (h : List SObj) (k : SV → List SObj → Prop) (H : F62x0 t1 t2 h k) : L62x0 t1 t2 h k := by
  have e : AllC 26 (F62x0 t1 t2 h k) = AllL 26 fun env => wpF pr d62 lv62 k (P62x0 []).1 (P62x0 []).2 (patch env [1, 2] [t1, t2]) h := by kernel_rfl
  apply @lab_of pr d62 26 lv62 [1, 2] (P62x0 []).1 (P62x0 []).2 [t1, t2] h k n62
  rw [← e]
  exact allC H
def F62x1 (l0 : Nat) (t1 t2 t10 t11 : SV) (h : List SObj) (k : SV → List SObj → Prop) : Prop :=
bop (bin .lss t11 t10) fun t12 =>
wcond t12 (bop (faddr 3 t1) fun t14 =>
bop (ldV h false 1 t14) fun t15 =>
bop (faddr 3 t1) fun t17 =>
bop (ldV h false 1 t17) fun t18 =>
bop (iaddr (.sl 4) t18 t11) fun t20 =>
bop (ldV h true 4 t20) fun t21 =>
bone (lcall pr 62 [t21] h) fun t22 h1 =>
bop (iaddr (.sl 4) t15 t11) fun t23 =>
bhp (outH (stV h1 4 t23 t22)) fun _ h2 =>
bop (bin .add t11 (.f (.int .i64 1))) fun t24 =>
L62x1 l0 t1 t2 t10 t24 (trim l0 [t1, t2, t10, t24] h2) k) (L62x0 t1 t2 h k)
theorem l62x1 (l0 : Nat) (t1 t2 t10 t11 : SV) (h : List SObj) (k : SV → List SObj → Prop) (H : F62x1 l0 t1 t2 t10 t11 h k) : L62x1 l0 t1 t2 t10 t11 h k := by
  have e : AllC 26 (F62x1 l0 t1 t2 t10 t11 h k) = AllL 26 fun env => wpF pr d62 lv62 k (P62x1 [l0]).1 (P62x1 [l0]).2 (patch env [1, 2, 10, 11] [t1, t2, t10, t11]) h := by kernel_rfl
  apply @lab_of pr d62 26 lv62 [1, 2, 10, 11] (P62x1 [l0]).1 (P62x1 [l0]).2 [t1, t2, t10, t11] h k n62
  rw [← e]
  exact allC H
def F62 (a0 : SV) (h : List SObj) (k : SV → List SObj → Prop) : Prop :=
bhp (boxO h 28 a0) fun t1 h1 =>
bhp (allocO h1 28 [.int .i64 0, .int .i64 0, .str [], .nilSl]) fun t2 h2 =>
bop (faddr 3 t1) fun t4 =>
bop (ldV h2 false 1 t4) fun t5 =>
bhp (lcall pr 120 [t5] h2) fun t6 h3 =>
bop (faddr 3 t1) fun t7 =>
bhp (outH (stV h3 1 t7 t6)) fun _ h4 =>
bop (faddr 3 t1) fun t8 =>
bop (ldV h4 false 1 t8) fun t9 =>
bop (lenV h4 .sl t9) fun t10 =>
L62x1 (List.length h4) t1 t2 t10 (.f (.int .i64 0)) h4 k
theorem e62 (a0 : SV) (h : List SObj) (k : SV → List SObj → Prop) (H : F62 a0 h k) : Entry pr d62 [a0] h k := by
  have e : F62 a0 h k = wpF pr d62 lv62 k (ann d62.body 0).1 [] ([a0] ++ List.replicate (d62.ntmps - List.length [a0]) U) h := by kernel_rfl
  apply @ent_of pr d62 lv62 [a0] h k (by rw [n62]; exact of_decide_eq_true rfl)
  rw [← e]
  exact H
theorem p62 (a0 : FV) {r : FV} (H : F62 (.f a0) [] fun v h => frz h 100 v = some r) : pcall pr 62 [a0] = some r := pcall_of_ent pr62 x62 (e62 (.f a0) [] _ H)
theorem c62 (a0 : FV) {r : FV} {h : List SObj} (hp : pcall pr 62 [a0] = some r) : lcall pr 62 [.f a0] h = some [(.f r, h)] := lcall_f (fargs := [a0]) pr62 x62 v62 hp
/-! ### 63: smocking/smockingref10.dual -/
noncomputable def d63 : DFunc := (pr 63).getD default
theorem pr63 : pr 63 = some d63 := by kernel_rfl
theorem x63 : d63.ext = none := by kernel_rfl
theorem v63 : d63.live = false := by kernel_rfl
theorem n63 : d63.ntmps = 40 := by kernel_rfl
def lv63 : Nat → List Nat
  | 0 => []
  | 1 => [0, 3, 4]
  | _ => []
noncomputable def P63x0 (ls : List Nat) : ACode × List AFr := (findL 0 (ann d63.body 0).1 [] ls).getD (.skip, [])
def L63x0 (h : List SObj) (k : SV → List SObj → Prop) : Prop := Lab pr d63 [] (P63x0 []).1 (P63x0 []).2 [] h k
noncomputable def P63x1 (ls : List Nat) : ACode × List AFr := (findL 1 (ann d63.body 0).1 [] ls).getD (.skip, [])
def L63x1 (l0 : Nat) (t0 t3 t4 : SV) (h : List SObj) (k : SV → List SObj → Prop) : Prop := Lab pr d63 [0, 3, 4] (P63x1 [l0]).1 (P63x1 [l0]).2 [t0, t3, t4] h k
def F63x0 (h : List SObj) (k : SV → List SObj → Prop) : Prop :=
k (.f (.int .i64 0)) h
theorem l63x0 (h : List SObj) (k : SV → List SObj → Prop) (H : F63x0 h k) : L63x0 h k := by
  have e : AllC 40 (F63x0 h k) = AllL 40 fun env => wpF pr d63 lv63 k (P63x0 []).1 (P63x0 []).2 (patch env [] []) h := by kernel_rfl
  apply @lab_of pr d63 40 lv63 [] (P63x0 []).1 (P63x0 []).2 [] h k n63
  rw [← e]
  exact allC H
def F63x1 (l0 : Nat) (t0 t3 t4 : SV) (h : List SObj) (k : SV → List SObj → Prop) : Prop :=
bop (lenV h .sl t3) fun t12 =>
bop (bin .lss t4 t12) fun t13 =>
wcond t13 (bop (iaddr (.sl 2) t3 t4) fun t18 =>
bop (iaddr (.arr 2 1) t18 (.f (.int .i64 0))) fun t19 =>
bop (ldV h false 1 t19) fun t20 =>
bop (bin .eql t20 t0) fun t22 =>
wcond t22 (bop (iaddr (.sl 2) t3 t4) fun t25 =>
bop (iaddr (.arr 2 1) t25 (.f (.int .i64 1))) fun t26 =>
bop (ldV h false 1 t26) fun t27 =>
k t27 h) (bop (iaddr (.sl 2) t3 t4) fun t30 =>
bop (iaddr (.arr 2 1) t30 (.f (.int .i64 1))) fun t31 =>
bop (ldV h false 1 t31) fun t32 =>
bop (bin .eql t32 t0) fun t34 =>
wcond t34 (bop (iaddr (.sl 2) t3 t4) fun t37 =>
bop (iaddr (.arr 2 1) t37 (.f (.int .i64 0))) fun t38 =>
bop (ldV h false 1 t38) fun t39 =>
k t39 h) (bop (bin .add t4 (.f (.int .i64 1))) fun t15 =>
L63x1 l0 t0 t3 t15 (trim l0 [t0, t3, t15] h) k))) (L63x0 h k)
theorem l63x1 (l0 : Nat) (t0 t3 t4 : SV) (h : List SObj) (k : SV → List SObj → Prop) (H : F63x1 l0 t0 t3 t4 h k) : L63x1 l0 t0 t3 t4 h k := by
  have e : AllC 40 (F63x1 l0 t0 t3 t4 h k) = AllL 40 fun env => wpF pr d63 lv63 k (P63x1 [l0]).1 (P63x1 [l0]).2 (patch env [0, 3, 4] [t0, t3, t4]) h := by kernel_rfl
  apply @lab_of pr d63 40 lv63 [0, 3, 4] (P63x1 [l0]).1 (P63x1 [l0]).2 [t0, t3, t4] h k n63
  rw [← e]
  exact allC H
def F63 (a0 : SV) (h : List SObj) (k : SV → List SObj → Prop) : Prop :=
bop (bldV [.int .i64 0, .int .i64 0] [(0, 1, (.f (.int .i64 4))), (1, 1, (.f (.int .i64 5)))]) fun t5 =>
bop (bldV [.int .i64 0, .int .i64 0] [(0, 1, (.f (.int .i64 6))), (1, 1, (.f (.int .i64 7)))]) fun t6 =>
bop (bldV [.int .i64 0, .int .i64 0] [(0, 1, (.f (.int .i64 10))), (1, 1, (.f (.int .i64 13)))]) fun t7 =>
bop (bldV [.int .i64 0, .int .i64 0] [(0, 1, (.f (.int .i64 11))), (1, 1, (.f (.int .i64 12)))]) fun t8 =>
bhp (mksliceO h 4 [.int .i64 0, .int .i64 0] [(0, 2, t5), (2, 2, t6), (4, 2, t7), (6, 2, t8)] 56 2) fun t9 h1 =>
L63x1 (List.length h1) a0 t9 (.f (.int .i64 0)) h1 k
theorem e63 (a0 : SV) (h : List SObj) (k : SV → List SObj → Prop) (H : F63 a0 h k) : Entry pr d63 [a0] h k := by
  have e : F63 a0 h k = wpF pr d63 lv63 k (ann d63.body 0).1 [] ([a0] ++ List.replicate (d63.ntmps - List.length [a0]) U) h := by kernel_rfl
  apply @ent_of pr d63 lv63 [a0] h k (by rw [n63]; exact of_decide_eq_true rfl)
  rw [← e]
  exact H
theorem p63 (a0 : FV) {r : FV} (H : F63 (.f a0) [] fun v h => frz h 100 v = some r) : pcall pr 63 [a0] = some r := pcall_of_ent pr63 x63 (e63 (.f a0) [] _ H)
theorem c63 (a0 : FV) {r : FV} {h : List SObj} (hp : pcall pr 63 [a0] = some r) : lcall pr 63 [.f a0] h = some [(.f r, h)] := lcall_f (fargs := [a0]) pr63 x63 v63 hp
/-! ### 64: smocking/smockingref10.parts -/
noncomputable def d64 : DFunc := (pr 64).getD default
theorem pr64 : pr 64 = some d64 := by kernel_rfl
theorem x64 : d64.ext = none := by kernel_rfl
theorem v64 : d64.live = false := by kernel_rfl
theorem n64 : d64.ntmps = 21 := by kernel_rfl
def lv64 : Nat → List Nat
  | 0 => [3, 4]
  | 1 => [3, 7]
  | 2 => [16]
  | _ => []
noncomputable def P64x0 (ls : List Nat) : ACode × List AFr := (findL 0 (ann d64.body 0).1 [] ls).getD (.skip, [])
def L64x0 (t3 t4 : SV) (h : List SObj) (k : SV → List SObj → Prop) : Prop := Lab pr d64 [3, 4] (P64x0 []).1 (P64x0 []).2 [t3, t4] h k
noncomputable def P64x1 (ls : List Nat) : ACode × List AFr := (findL 1 (ann d64.body 0).1 [] ls).getD (.skip, [])
def L64x1 (t3 t7 : SV) (h : List SObj) (k : SV → List SObj → Prop) : Prop := Lab pr d64 [3, 7] (P64x1 []).1 (P64x1 []).2 [t3, t7] h k
noncomputable def P64x2 (ls : List Nat) : ACode × List AFr := (findL 2 (ann d64.body 0).1 [] ls).getD (.skip, [])
def L64x2 (t16 : SV) (h : List SObj) (k : SV → List SObj → Prop) : Prop := Lab pr d64 [16] (P64x2 []).1 (P64x2 []).2 [t16] h k
def F64x0 (t3 t4 : SV) (h : List SObj) (k : SV → List SObj → Prop) : Prop :=
wcond t4 (k (.f (.int .i64 0)) h) (bop (bin .eql t3 (.f (.int .i64 3))) fun t8 =>
wcond t8 (L64x1 t3 t8 h k) (bop (bin .eql t3 (.f (.int .i64 6))) fun t9 =>
wcond t9 (L64x1 t3 t9 h k) (bop (bin .eql t3 (.f (.int .i64 7))) fun t10 =>
wcond t10 (L64x1 t3 t10 h k) (bop (bin .eql t3 (.f (.int .i64 10))) fun t11 =>
wcond t11 (L64x1 t3 t11 h k) (bop (bin .eql t3 (.f (.int .i64 11))) fun t12 =>
wcond t12 (L64x1 t3 t12 h k) (bop (bin .eql t3 (.f (.int .i64 12))) fun t13 =>
wcond t13 (L64x1 t3 t13 h k) (bop (bin .eql t3 (.f (.int .i64 13))) fun t14 =>
wcond t14 (L64x1 t3 t14 h k) (bop (bin .eql t3 (.f (.int .i64 14))) fun t15 =>
L64x1 t3 t15 h k))))))))
theorem l64x0 (t3 t4 : SV) (h : List SObj) (k : SV → List SObj → Prop) (H : F64x0 t3 t4 h k) : L64x0 t3 t4 h k := by
  have e : AllC 21 (F64x0 t3 t4 h k) = AllL 21 fun env => wpF pr d64 lv64 k (P64x0 []).1 (P64x0 []).2 (patch env [3, 4] [t3, t4]) h := by kernel_rfl
  apply @lab_of pr d64 21 lv64 [3, 4] (P64x0 []).1 (P64x0 []).2 [t3, t4] h k n64
  rw [← e]
  exact allC H
def F64x1 (t3 t7 : SV) (h : List SObj) (k : SV → List SObj → Prop) : Prop :=
wcond t7 (k (.f (.int .i64 1)) h) (bop (bin .eql t3 (.f (.int .i64 4))) fun t17 =>
wcond t17 (L64x2 t17 h k) (bop (bin .eql t3 (.f (.int .i64 5))) fun t18 =>
wcond t18 (L64x2 t18 h k) (bop (bin .eql t3 (.f (.int .i64 8))) fun t19 =>
wcond t19 (L64x2 t19 h k) (bop (bin .eql t3 (.f (.int .i64 9))) fun t20 =>
L64x2 t20 h k))))
theorem l64x1 (t3 t7 : SV) (h : List SObj) (k : SV → List SObj → Prop) (H : F64x1 t3 t7 h k) : L64x1 t3 t7 h k := by
  have e : AllC 21 (F64x1 t3 t7 h k) = AllL 21 fun env => wpF pr d64 lv64 k (P64x1 []).1 (P64x1 []).2 (patch env [3, 7] [t3, t7]) h := by kernel_rfl
  apply @lab_of pr d64 21 lv64 [3, 7] (P64x1 []).1 (P64x1 []).2 [t3, t7] h k n64
  rw [← e]
  exact allC H
def F64x2 (t16 : SV) (h : List SObj) (k : SV → List SObj → Prop) : Prop :=
wcond t16 (k (.f (.int .i64 2)) h) (k (.f (.int .i64 (-1))) h)
theorem l64x2 (t16 : SV) (h : List SObj) (k : SV → List SObj → Prop) (H : F64x2 t16 h k) : L64x2 t16 h k := by
  have e : AllC 21 (F64x2 t16 h k) = AllL 21 fun env => wpF pr d64 lv64 k (P64x2 []).1 (P64x2 []).2 (patch env [16] [t16]) h := by kernel_rfl
  apply @lab_of pr d64 21 lv64 [16] (P64x2 []).1 (P64x2 []).2 [t16] h k n64
  rw [← e]
  exact allC H
def F64 (a0 : SV) (h : List SObj) (k : SV → List SObj → Prop) : Prop :=
bop (bin .eql a0 (.f (.int .i64 1))) fun t5 =>
wcond t5 (L64x0 a0 t5 h k) (bop (bin .eql a0 (.f (.int .i64 2))) fun t6 =>
L64x0 a0 t6 h k)
theorem e64 (a0 : SV) (h : List SObj) (k : SV → List SObj → Prop) (H : F64 a0 h k) : Entry pr d64 [a0] h k := by
  have e : F64 a0 h k = wpF pr d64 lv64 k (ann d64.body 0).1 [] ([a0] ++ List.replicate (d64.ntmps - List.length [a0]) U) h := by kernel_rfl
  apply @ent_of pr d64 lv64 [a0] h k (by rw [n64]; exact of_decide_eq_true rfl)
  rw [← e]
  exact H
theorem p64 (a0 : FV) {r : FV} (H : F64 (.f a0) [] fun v h => frz h 100 v = some r) : pcall pr 64 [a0] = some r := pcall_of_ent pr64 x64 (e64 (.f a0) [] _ H)
theorem c64 (a0 : FV) {r : FV} {h : List SObj} (hp : pcall pr 64 [a0] = some r) : lcall pr 64 [.f a0] h = some [(.f r, h)] := lcall_f (fargs := [a0]) pr64 x64 v64 hp
/-! ### 65: slices.EqualFunc[[]smocking/api.Formula,[]smocking/api.Formula,smocking/api.Formula,smocking/api.Formula] -/
noncomputable def d65 : DFunc := (pr 65).getD default
theorem pr65 : pr 65 = some d65 := by kernel_rfl
theorem x65 : d65.ext = none := by kernel_rfl
theorem v65 : d65.live = false := by kernel_rfl
theorem n65 : d65.ntmps = 32 := by kernel_rfl
def lv65 : Nat → List Nat
  | 0 => []
  | 1 => [1, 2, 15, 16, 17]
  | _ => []
noncomputable def P65x0 (ls : List Nat) : ACode × List AFr := (findL 0 (ann d65.body 0).1 [] ls).getD (.skip, [])
def L65x0 (h : List SObj) (k : SV → List SObj → Prop) : Prop := Lab pr d65 [] (P65x0 []).1 (P65x0 []).2 [] h k
noncomputable def P65x1 (ls : List Nat) : ACode × List AFr := (findL 1 (ann d65.body 0).1 [] ls).getD (.skip, [])
def L65x1 (l0 : Nat) (t1 t2 t15 t16 t17 : SV) (h : List SObj) (k : SV → List SObj → Prop) : Prop := Lab pr d65 [1, 2, 15, 16, 17] (P65x1 [l0]).1 (P65x1 [l0]).2 [t1, t2, t15, t16, t17] h k
def F65x0 (h : List SObj) (k : SV → List SObj → Prop) : Prop :=
k (.f (.bool true)) h
theorem l65x0 (h : List SObj) (k : SV → List SObj → Prop) (H : F65x0 h k) : L65x0 h k := by
  have e : AllC 32 (F65x0 h k) = AllL 32 fun env => wpF pr d65 lv65 k (P65x0 []).1 (P65x0 []).2 (patch env [] []) h := by kernel_rfl
  apply @lab_of pr d65 32 lv65 [] (P65x0 []).1 (P65x0 []).2 [] h k n65
  rw [← e]
  exact allC H
def F65x1 (l0 : Nat) (t1 t2 t15 t16 t17 : SV) (h : List SObj) (k : SV → List SObj → Prop) : Prop :=
bop (bin .lss t17 t16) fun t18 =>
wcond t18 (bop (iaddr (.sl 4) t15 t17) fun t20 =>
bop (ldV h true 4 t20) fun t21 =>
bhp (allocO h 28 [.int .i64 0, .int .i64 0, .str [], .nilSl]) fun t8 h1 =>
bhp (outH (stV h1 4 t8 t21)) fun _ h2 =>
bop (iaddr (.sl 4) t1 t17) fun t24 =>
bop (ldV h2 true 4 t24) fun t25 =>
bhp (allocO h2 28 [.int .i64 0, .int .i64 0, .str [], .nilSl]) fun t9 h3 =>
bhp (outH (stV h3 4 t9 t25)) fun _ h4 =>
bop (ldV h4 true 4 t8) fun t27 =>
bop (ldV h4 true 4 t9) fun t28 =>
bhp (vcall pr t2 [t27, t28] h4) fun t29 h5 =>
bop (un .not t29) fun t30 =>
wcond t30 (k (.f (.bool false)) h5) (bop (bin .add t17 (.f (.int .i64 1))) fun t31 =>
L65x1 l0 t1 t2 t15 t16 t31 (trim l0 [t1, t2, t15, t16, t31] h5) k)) (L65x0 h k)
theorem l65x1 (l0 : Nat) (t1 t2 t15 t16 t17 : SV) (h : List SObj) (k : SV → List SObj → Prop) (H : F65x1 l0 t1 t2 t15 t16 t17 h k) : L65x1 l0 t1 t2 t15 t16 t17 h k := by
  have e : AllC 32 (F65x1 l0 t1 t2 t15 t16 t17 h k) = AllL 32 fun env => wpF pr d65 lv65 k (P65x1 [l0]).1 (P65x1 [l0]).2 (patch env [1, 2, 15, 16, 17] [t1, t2, t15, t16, t17]) h := by kernel_rfl
  apply @lab_of pr d65 32 lv65 [1, 2, 15, 16, 17] (P65x1 [l0]).1 (P65x1 [l0]).2 [t1, t2, t15, t16, t17] h k n65
  rw [← e]
  exact allC H
def F65 (a0 a1 a2 : SV) (h : List SObj) (k : SV → List SObj → Prop) : Prop :=
bop (lenV h .sl a0) fun t11 =>
bop (lenV h .sl a1) fun t13 =>
bop (bin .neq t11 t13) fun t14 =>
wcond t14 (k (.f (.bool false)) h) (bop (lenV h .sl a0) fun t16 =>
L65x1 (List.length h) a1 a2 a0 t16 (.f (.int .i64 0)) h k)
theorem e65 (a0 a1 a2 : SV) (h : List SObj) (k : SV → List SObj → Prop) (H : F65 a0 a1 a2 h k) : Entry pr d65 [a0, a1, a2] h k := by
  have e : F65 a0 a1 a2 h k = wpF pr d65 lv65 k (ann d65.body 0).1 [] ([a0, a1, a2] ++ List.replicate (d65.ntmps - List.length [a0, a1, a2]) U) h := by kernel_rfl
  apply @ent_of pr d65 lv65 [a0, a1, a2] h k (by rw [n65]; exact of_decide_eq_true rfl)
  rw [← e]
  exact H
theorem p65 (a0 a1 a2 : FV) {r : FV} (H : F65 (.f a0) (.f a1) (.f a2) [] fun v h => frz h 100 v = some r) : pcall pr 65 [a0, a1, a2] = some r := pcall_of_ent pr65 x65 (e65 (.f a0) (.f a1) (.f a2) [] _ H)
theorem c65 (a0 a1 a2 : FV) {r : FV} {h : List SObj} (hp : pcall pr 65 [a0, a1, a2] = some r) : lcall pr 65 [.f a0, .f a1, .f a2] h = some [(.f r, h)] := lcall_f (fargs := [a0, a1, a2]) pr65 x65 v65 hp
/-! ### 120: slices.Clone[[]smocking/api.Formula,smocking/api.Formula] -/
noncomputable def d120 : DFunc := (pr 120).getD default
theorem pr120 : pr 120 = some d120 := by kernel_rfl
theorem x120 : d120.ext = none := by kernel_rfl
theorem v120 : d120.live = true := by kernel_rfl
theorem n120 : d120.ntmps = 8 := by kernel_rfl
def lv120 : Nat → List Nat
  | _ => []
def F120 (a0 : SV) (h : List SObj) (k : SV → List SObj → Prop) : Prop :=
bhp (isNilSl false h a0) fun t4 h1 =>
wcond t4 (k (.f (.nilSl)) h1) (bhp (mksliceO h1 0 [.int .i64 0, .int .i64 0, .str [], .nilSl] [] 28 4) fun t5 h2 =>
bhp (outB (appendOp h2 28 4 56 t5 a0)) fun t7 h3 =>
k t7 h3)
theorem e120 (a0 : SV) (h : List SObj) (k : SV → List SObj → Prop) (H : F120 a0 h k) : Entry pr d120 [a0] h k := by
  have e : F120 a0 h k = wpF pr d120 lv120 k (ann d120.body 0).1 [] ([a0] ++ List.replicate (d120.ntmps - List.length [a0]) U) h := by kernel_rfl
  apply @ent_of pr d120 lv120 [a0] h k (by rw [n120]; exact of_decide_eq_true rfl)
  rw [← e]
  exact H
theorem q120 (a0 : SV) (h : List SObj) (k : SV → List SObj → Prop) (H : F120 a0 h fun v h' => k v (trim h.length [v] h')) : bhp (lcall pr 120 [a0] h) k := lcall_live pr120 x120 v120 (e120 a0 h _ H)
end Go.Proofs.YthhgenogeibfpaaGreatDoor.D
