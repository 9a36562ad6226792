/- WHAT THE CODE OF EACH FUNCTION ASKS FOR, by a program of this claim's author (vc.py); each is held against the code by the kernel. -/
import Derived.Test.YtoeedbljiocpdaaDoorN
import Derived.Test.YtoeedbljiocpdaaDoorEvOk8
import Derived.KernelRfl
import Derived.Test.YtoeedbljiocpdaaDoorVC
namespace Go.Proofs.YtoeedbljiocpdaaDoor
open Go Go.Ev
set_option maxRecDepth 100000
set_option linter.unusedVariables false
def V_law15_AskBodies (ac0 : Int) (ac1 : Int) (ac2 : Int) (ac3 : Int) (ac4 : Int) (ac5 : Int) (ac6 : Int) (ac7 : Int) (ac8 : Int) (ac9 : Int) (ac10 : Int) (ac11 : ByteArray) (ac12 : SlV) (ac13 : SlV) (bc0 : Int) (bc1 : Int) (bc2 : Int) (bc3 : Int) (bc4 : Int) (bc5 : Int) (bc6 : Int) (bc7 : Int) (bc8 : Int) (bc9 : Int) (bc10 : Int) (bc11 : ByteArray) (bc12 : SlV) (bc13 : SlV) (w : World) (R : Value → World → Prop) : Prop :=
 nw t_api_Ask [.int .i64 ac0, .int .i64 ac1, .int .i64 ac2, .int .i64 ac3, .int .i64 ac4, .int .i64 ac5, .int .i64 ac6, .int .i64 ac7, .int .i64 ac8, .int .i64 ac9, .int .i64 ac10, .string ac11, .slice ac12.a ac12.n ac12.c, .slice ac13.a ac13.n ac13.c] w fun p w1 =>
 nw t_api_Ask [.int .i64 bc0, .int .i64 bc1, .int .i64 bc2, .int .i64 bc3, .int .i64 bc4, .int .i64 bc5, .int .i64 bc6, .int .i64 bc7, .int .i64 bc8, .int .i64 bc9, .int .i64 bc10, .string bc11, .slice bc12.a bc12.n bc12.c, .slice bc13.a bc13.n bc13.c] w1 fun p_1 w2 =>
 join0 []
 (fun w3 => ld_api_Ask p w3 fun t17f0 t17f1 t17f2 t17f3 t17f4 t17f5 t17f6 t17f7 t17f8 t17f9 t17f10 t17f11 t17f12 t17f13 =>
 callK Pr f_ask_Body [.agg ⟨[.int .i64 t17f0, .int .i64 t17f1, .int .i64 t17f2, .int .i64 t17f3, .int .i64 t17f4, .int .i64 t17f5, .int .i64 t17f6, .int .i64 t17f7, .int .i64 t17f8, .int .i64 t17f9, .int .i64 t17f10, .string t17f11, .slice t17f12.a t17f12.n t17f12.c, .slice t17f13.a t17f13.n t17f13.c]⟩] w3 fun v w4 =>
 destr.asArr' v fun vs =>
 uncons vs fun v_1 r =>
 asSl v_1 fun t18 =>
 uncons r fun v_2 r_1 =>
 (r_1 = [] ∧
 ld_api_Ask p w4 fun t22f0 t22f1 t22f2 t22f3 t22f4 t22f5 t22f6 t22f7 t22f8 t22f9 t22f10 t22f11 t22f12 t22f13 =>
 callK Pr f_ref15_Body [.agg ⟨[.int .i64 t22f0, .int .i64 t22f1, .int .i64 t22f2, .int .i64 t22f3, .int .i64 t22f4, .int .i64 t22f5, .int .i64 t22f6, .int .i64 t22f7, .int .i64 t22f8, .int .i64 t22f9, .int .i64 t22f10, .string t22f11, .slice t22f12.a t22f12.n t22f12.c, .slice t22f13.a t22f13.n t22f13.c]⟩] w4 fun v_3 w5 =>
 destr.asArr' v_3 fun vs_1 =>
 uncons vs_1 fun v_4 r_2 =>
 asSl v_4 fun t23 =>
 uncons r_2 fun v_5 r_3 =>
 asI .i64 v_5 fun t23_1 =>
 (r_3 = [] ∧
 callK Pr f_law0_SameBytes [.slice t18.a t18.n t18.c, .slice t23.a t23.n t23.c] (World.drew w5) fun v_6 w6 =>
 asB v_6 fun t28 =>
 iteP t28
 (callK Pr f_law0_Num [v_2] w6 fun v_7 w7 =>
 asI .i64 v_7 fun t31 =>
 ld_api_Ask p w7 fun t36f0 t36f1 t36f2 t36f3 t36f4 t36f5 t36f6 t36f7 t36f8 t36f9 t36f10 t36f11 t36f12 t36f13 =>
 ld_api_Ask p w7 fun t38f0 t38f1 t38f2 t38f3 t38f4 t38f5 t38f6 t38f7 t38f8 t38f9 t38f10 t38f11 t38f12 t38f13 =>
 iteP (decide (t31 = t23_1))
 (callK Pr f_ask_May [.agg ⟨[.int .i64 t36f0, .int .i64 t36f1, .int .i64 t36f2, .int .i64 t36f3, .int .i64 t36f4, .int .i64 t36f5, .int .i64 t36f6, .int .i64 t36f7, .int .i64 t36f8, .int .i64 t36f9, .int .i64 t36f10, .string t36f11, .slice t36f12.a t36f12.n t36f12.c, .slice t36f13.a t36f13.n t36f13.c]⟩] w7 fun v_8 w8 =>
 asB v_8 fun t37 =>
 (kept p 14 w7 w8 ∧
 callK Pr f_ref15_May [.agg ⟨[.int .i64 t38f0, .int .i64 t38f1, .int .i64 t38f2, .int .i64 t38f3, .int .i64 t38f4, .int .i64 t38f5, .int .i64 t38f6, .int .i64 t38f7, .int .i64 t38f8, .int .i64 t38f9, .int .i64 t38f10, .string t38f11, .slice t38f12.a t38f12.n t38f12.c, .slice t38f13.a t38f13.n t38f13.c]⟩] w8 fun v_9 w9 =>
 asB v_9 fun t39 =>
 ld_api_Ask p w9 fun t43f0 t43f1 t43f2 t43f3 t43f4 t43f5 t43f6 t43f7 t43f8 t43f9 t43f10 t43f11 t43f12 t43f13 =>
 ld_api_Ask p_1 w9 fun t44f0 t44f1 t44f2 t44f3 t44f4 t44f5 t44f6 t44f7 t44f8 t44f9 t44f10 t44f11 t44f12 t44f13 =>
 ld_api_Ask p w9 fun t46f0 t46f1 t46f2 t46f3 t46f4 t46f5 t46f6 t46f7 t46f8 t46f9 t46f10 t46f11 t46f12 t46f13 =>
 ld_api_Ask p_1 w9 fun t47f0 t47f1 t47f2 t47f3 t47f4 t47f5 t47f6 t47f7 t47f8 t47f9 t47f10 t47f11 t47f12 t47f13 =>
 iteP (t37 == t39)
 (callK Pr f_ask_Same [.agg ⟨[.int .i64 t43f0, .int .i64 t43f1, .int .i64 t43f2, .int .i64 t43f3, .int .i64 t43f4, .int .i64 t43f5, .int .i64 t43f6, .int .i64 t43f7, .int .i64 t43f8, .int .i64 t43f9, .int .i64 t43f10, .string t43f11, .slice t43f12.a t43f12.n t43f12.c, .slice t43f13.a t43f13.n t43f13.c]⟩, .agg ⟨[.int .i64 t44f0, .int .i64 t44f1, .int .i64 t44f2, .int .i64 t44f3, .int .i64 t44f4, .int .i64 t44f5, .int .i64 t44f6, .int .i64 t44f7, .int .i64 t44f8, .int .i64 t44f9, .int .i64 t44f10, .string t44f11, .slice t44f12.a t44f12.n t44f12.c, .slice t44f13.a t44f13.n t44f13.c]⟩] w9 fun v_10 w10 =>
 asB v_10 fun t45 =>
 (kept p_1 14 w9 w10 ∧
 (kept p 14 w9 w10 ∧
 callK Pr f_law0_SameAsk [.agg ⟨[.int .i64 t46f0, .int .i64 t46f1, .int .i64 t46f2, .int .i64 t46f3, .int .i64 t46f4, .int .i64 t46f5, .int .i64 t46f6, .int .i64 t46f7, .int .i64 t46f8, .int .i64 t46f9, .int .i64 t46f10, .string t46f11, .slice t46f12.a t46f12.n t46f12.c, .slice t46f13.a t46f13.n t46f13.c]⟩, .agg ⟨[.int .i64 t47f0, .int .i64 t47f1, .int .i64 t47f2, .int .i64 t47f3, .int .i64 t47f4, .int .i64 t47f5, .int .i64 t47f6, .int .i64 t47f7, .int .i64 t47f8, .int .i64 t47f9, .int .i64 t47f10, .string t47f11, .slice t47f12.a t47f12.n t47f12.c, .slice t47f13.a t47f13.n t47f13.c]⟩] w10 fun v_11 w11 =>
 asB v_11 fun t48 =>
 ld_api_Ask p w11 fun t52f0 t52f1 t52f2 t52f3 t52f4 t52f5 t52f6 t52f7 t52f8 t52f9 t52f10 t52f11 t52f12 t52f13 =>
 ld_api_Ask p w11 fun t53f0 t53f1 t53f2 t53f3 t53f4 t53f5 t53f6 t53f7 t53f8 t53f9 t53f10 t53f11 t53f12 t53f13 =>
 iteP (t45 == t48)
 (callK Pr f_ask_Same [.agg ⟨[.int .i64 t52f0, .int .i64 t52f1, .int .i64 t52f2, .int .i64 t52f3, .int .i64 t52f4, .int .i64 t52f5, .int .i64 t52f6, .int .i64 t52f7, .int .i64 t52f8, .int .i64 t52f9, .int .i64 t52f10, .string t52f11, .slice t52f12.a t52f12.n t52f12.c, .slice t52f13.a t52f13.n t52f13.c]⟩, .agg ⟨[.int .i64 t53f0, .int .i64 t53f1, .int .i64 t53f2, .int .i64 t53f3, .int .i64 t53f4, .int .i64 t53f5, .int .i64 t53f6, .int .i64 t53f7, .int .i64 t53f8, .int .i64 t53f9, .int .i64 t53f10, .string t53f11, .slice t53f12.a t53f12.n t53f12.c, .slice t53f13.a t53f13.n t53f13.c]⟩] w11 fun v_12 w12 =>
 asB v_12 fun t54 =>
 iteP t54
 (callK Pr f_law15_awake [] w12 fun v_13 w13 =>
 asB v_13 fun t57 =>
 R (.bool t57) w13)
 (R (.bool false) w12))
 (R (.bool false) w11))))
 ((kept p_1 14 w9 w9 ∧
 (kept p 14 w9 w9 ∧
 ld_api_Ask p w9 fun t52f0_1 t52f1_1 t52f2_1 t52f3_1 t52f4_1 t52f5_1 t52f6_1 t52f7_1 t52f8_1 t52f9_1 t52f10_1 t52f11_1 t52f12_1 t52f13_1 =>
 ld_api_Ask p w9 fun t53f0_1 t53f1_1 t53f2_1 t53f3_1 t53f4_1 t53f5_1 t53f6_1 t53f7_1 t53f8_1 t53f9_1 t53f10_1 t53f11_1 t53f12_1 t53f13_1 =>
 R (.bool false) w9)))))
 ((kept p 14 w7 w7 ∧
 ld_api_Ask p w7 fun t43f0_1 t43f1_1 t43f2_1 t43f3_1 t43f4_1 t43f5_1 t43f6_1 t43f7_1 t43f8_1 t43f9_1 t43f10_1 t43f11_1 t43f12_1 t43f13_1 =>
 ld_api_Ask p_1 w7 fun t44f0_1 t44f1_1 t44f2_1 t44f3_1 t44f4_1 t44f5_1 t44f6_1 t44f7_1 t44f8_1 t44f9_1 t44f10_1 t44f11_1 t44f12_1 t44f13_1 =>
 ld_api_Ask p w7 fun t46f0_1 t46f1_1 t46f2_1 t46f3_1 t46f4_1 t46f5_1 t46f6_1 t46f7_1 t46f8_1 t46f9_1 t46f10_1 t46f11_1 t46f12_1 t46f13_1 =>
 ld_api_Ask p_1 w7 fun t47f0_1 t47f1_1 t47f2_1 t47f3_1 t47f4_1 t47f5_1 t47f6_1 t47f7_1 t47f8_1 t47f9_1 t47f10_1 t47f11_1 t47f12_1 t47f13_1 =>
 (kept p_1 14 w7 w7 ∧
 (kept p 14 w7 w7 ∧
 ld_api_Ask p w7 fun t52f0_2 t52f1_2 t52f2_2 t52f3_2 t52f4_2 t52f5_2 t52f6_2 t52f7_2 t52f8_2 t52f9_2 t52f10_2 t52f11_2 t52f12_2 t52f13_2 =>
 ld_api_Ask p w7 fun t53f0_2 t53f1_2 t53f2_2 t53f3_2 t53f4_2 t53f5_2 t53f6_2 t53f7_2 t53f8_2 t53f9_2 t53f10_2 t53f11_2 t53f12_2 t53f13_2 =>
 R (.bool false) w7)))))
 (ld_api_Ask p w6 fun t36f0_1 t36f1_1 t36f2_1 t36f3_1 t36f4_1 t36f5_1 t36f6_1 t36f7_1 t36f8_1 t36f9_1 t36f10_1 t36f11_1 t36f12_1 t36f13_1 =>
 ld_api_Ask p w6 fun t38f0_1 t38f1_1 t38f2_1 t38f3_1 t38f4_1 t38f5_1 t38f6_1 t38f7_1 t38f8_1 t38f9_1 t38f10_1 t38f11_1 t38f12_1 t38f13_1 =>
 (kept p 14 w6 w6 ∧
 ld_api_Ask p w6 fun t43f0_2 t43f1_2 t43f2_2 t43f3_2 t43f4_2 t43f5_2 t43f6_2 t43f7_2 t43f8_2 t43f9_2 t43f10_2 t43f11_2 t43f12_2 t43f13_2 =>
 ld_api_Ask p_1 w6 fun t44f0_2 t44f1_2 t44f2_2 t44f3_2 t44f4_2 t44f5_2 t44f6_2 t44f7_2 t44f8_2 t44f9_2 t44f10_2 t44f11_2 t44f12_2 t44f13_2 =>
 ld_api_Ask p w6 fun t46f0_2 t46f1_2 t46f2_2 t46f3_2 t46f4_2 t46f5_2 t46f6_2 t46f7_2 t46f8_2 t46f9_2 t46f10_2 t46f11_2 t46f12_2 t46f13_2 =>
 ld_api_Ask p_1 w6 fun t47f0_2 t47f1_2 t47f2_2 t47f3_2 t47f4_2 t47f5_2 t47f6_2 t47f7_2 t47f8_2 t47f9_2 t47f10_2 t47f11_2 t47f12_2 t47f13_2 =>
 (kept p_1 14 w6 w6 ∧
 (kept p 14 w6 w6 ∧
 ld_api_Ask p w6 fun t52f0_3 t52f1_3 t52f2_3 t52f3_3 t52f4_3 t52f5_3 t52f6_3 t52f7_3 t52f8_3 t52f9_3 t52f10_3 t52f11_3 t52f12_3 t52f13_3 =>
 ld_api_Ask p w6 fun t53f0_3 t53f1_3 t53f2_3 t53f3_3 t53f4_3 t53f5_3 t53f6_3 t53f7_3 t53f8_3 t53f9_3 t53f10_3 t53f11_3 t53f12_3 t53f13_3 =>
 R (.bool false) w6)))))))
 (fun go =>
 join1 (fun (t14 : Bool) => [(14, some (.bool t14))])
 (fun t14 w14 => iteP t14
 (callK Pr f_law15_awake [] w14 fun v_14 w15 =>
 asB v_14 fun t15 =>
 R (.bool t15) w15)
 (go w14))
 (fun go_1 =>
 ld_api_Ask p w2 fun t9f0 t9f1 t9f2 t9f3 t9f4 t9f5 t9f6 t9f7 t9f8 t9f9 t9f10 t9f11 t9f12 t9f13 =>
 callK Pr f_law0_GreatAsk [.agg ⟨[.int .i64 t9f0, .int .i64 t9f1, .int .i64 t9f2, .int .i64 t9f3, .int .i64 t9f4, .int .i64 t9f5, .int .i64 t9f6, .int .i64 t9f7, .int .i64 t9f8, .int .i64 t9f9, .int .i64 t9f10, .string t9f11, .slice t9f12.a t9f12.n t9f12.c, .slice t9f13.a t9f13.n t9f13.c]⟩] w2 fun v_15 w16 =>
 asB v_15 fun t10 =>
 ld_api_Ask p_1 w16 fun t12f0 t12f1 t12f2 t12f3 t12f4 t12f5 t12f6 t12f7 t12f8 t12f9 t12f10 t12f11 t12f12 t12f13 =>
 iteP t10
 (go_1 true w16)
 (callK Pr f_law0_GreatAsk [.agg ⟨[.int .i64 t12f0, .int .i64 t12f1, .int .i64 t12f2, .int .i64 t12f3, .int .i64 t12f4, .int .i64 t12f5, .int .i64 t12f6, .int .i64 t12f7, .int .i64 t12f8, .int .i64 t12f9, .int .i64 t12f10, .string t12f11, .slice t12f12.a t12f12.n t12f12.c, .slice t12f13.a t12f13.n t12f13.c]⟩] w16 fun v_16 w17 =>
 asB v_16 fun t13 =>
 go_1 t13 w17)))
theorem V_law15_AskBodies_eq (ac0 : Int) (ac1 : Int) (ac2 : Int) (ac3 : Int) (ac4 : Int) (ac5 : Int) (ac6 : Int) (ac7 : Int) (ac8 : Int) (ac9 : Int) (ac10 : Int) (ac11 : ByteArray) (ac12 : SlV) (ac13 : SlV) (bc0 : Int) (bc1 : Int) (bc2 : Int) (bc3 : Int) (bc4 : Int) (bc5 : Int) (bc6 : Int) (bc7 : Int) (bc8 : Int) (bc9 : Int) (bc10 : Int) (bc11 : ByteArray) (bc12 : SlV) (bc13 : SlV) (w : World) (R : Value → World → Prop) : evF Pr ⟨true, true⟩ [(3, []), (2, [(14, .bool)])] [] Tryd.f5 [.agg ⟨[.int .i64 ac0, .int .i64 ac1, .int .i64 ac2, .int .i64 ac3, .int .i64 ac4, .int .i64 ac5, .int .i64 ac6, .int .i64 ac7, .int .i64 ac8, .int .i64 ac9, .int .i64 ac10, .string ac11, .slice ac12.a ac12.n ac12.c, .slice ac13.a ac13.n ac13.c]⟩, .agg ⟨[.int .i64 bc0, .int .i64 bc1, .int .i64 bc2, .int .i64 bc3, .int .i64 bc4, .int .i64 bc5, .int .i64 bc6, .int .i64 bc7, .int .i64 bc8, .int .i64 bc9, .int .i64 bc10, .string bc11, .slice bc12.a bc12.n bc12.c, .slice bc13.a bc13.n bc13.c]⟩] w R = V_law15_AskBodies ac0 ac1 ac2 ac3 ac4 ac5 ac6 ac7 ac8 ac9 ac10 ac11 ac12 ac13 bc0 bc1 bc2 bc3 bc4 bc5 bc6 bc7 bc8 bc9 bc10 bc11 bc12 bc13 w R := by kernel_rfl
theorem V_law15_AskBodies_of {ac0 : Int} {ac1 : Int} {ac2 : Int} {ac3 : Int} {ac4 : Int} {ac5 : Int} {ac6 : Int} {ac7 : Int} {ac8 : Int} {ac9 : Int} {ac10 : Int} {ac11 : ByteArray} {ac12 : SlV} {ac13 : SlV} {bc0 : Int} {bc1 : Int} {bc2 : Int} {bc3 : Int} {bc4 : Int} {bc5 : Int} {bc6 : Int} {bc7 : Int} {bc8 : Int} {bc9 : Int} {bc10 : Int} {bc11 : ByteArray} {bc12 : SlV} {bc13 : SlV} {w : World} {R : Value → World → Prop} (h : V_law15_AskBodies ac0 ac1 ac2 ac3 ac4 ac5 ac6 ac7 ac8 ac9 ac10 ac11 ac12 ac13 bc0 bc1 bc2 bc3 bc4 bc5 bc6 bc7 bc8 bc9 bc10 bc11 bc12 bc13 w R) : Ok Pr f_law15_AskBodies [.agg ⟨[.int .i64 ac0, .int .i64 ac1, .int .i64 ac2, .int .i64 ac3, .int .i64 ac4, .int .i64 ac5, .int .i64 ac6, .int .i64 ac7, .int .i64 ac8, .int .i64 ac9, .int .i64 ac10, .string ac11, .slice ac12.a ac12.n ac12.c, .slice ac13.a ac13.n ac13.c]⟩, .agg ⟨[.int .i64 bc0, .int .i64 bc1, .int .i64 bc2, .int .i64 bc3, .int .i64 bc4, .int .i64 bc5, .int .i64 bc6, .int .i64 bc7, .int .i64 bc8, .int .i64 bc9, .int .i64 bc10, .string bc11, .slice bc12.a bc12.n bc12.c, .slice bc13.a bc13.n bc13.c]⟩] w R :=
  have g := (V_law15_AskBodies_eq ac0 ac1 ac2 ac3 ac4 ac5 ac6 ac7 ac8 ac9 ac10 ac11 ac12 ac13 bc0 bc1 bc2 bc3 bc4 bc5 bc6 bc7 bc8 bc9 bc10 bc11 bc12 bc13 w R).mpr h
  evF_ok good Tryd.func5 (by kernel_rfl) g

def V_law15_AskReads (body : SlV) (sig : SlV) (pad : Int) (w : World) (R : Value → World → Prop) : Prop :=
 iteP ((decide ((4500:Int) < ((body.n : Nat) : Int))) || (decide ((300:Int) < ((sig.n : Nat) : Int))))
 (callK Pr f_law15_awake [] w fun v w1 =>
 asB v fun t29 =>
 R (.bool t29) w1)
 (callK Pr f_sign_Sizes [.int .i64 (1:Int)] w fun v_1 w2 =>
 destr.asArr' v_1 fun vs =>
 uncons vs fun v_2 r =>
 asI .i64 v_2 fun t31 =>
 uncons r fun v_3 r_1 =>
 asI .i64 v_3 fun t31_1 =>
 uncons r_1 fun v_4 r_2 =>
 asI .i64 v_4 fun t31_2 =>
 (r_2 = [] ∧
 iteP ((decide (t31_2 < (1:Int))) || (decide ((5000:Int) < t31_2)))
 (R (.bool false) w2)
 (appK Pr [t_s_uint8, t_s_uint8] t_s_uint8 [.slice none 0 0, .slice body.a body.n body.c] w2 fun t42 w3 =>
 (I64 (t31_2 - ((sig.n : Nat) : Int)) ∧
 callK Pr f_law0_Low [.int .i64 pad, .int .i64 (3:Int)] w3 fun v_5 w4 =>
 asI .i64 v_5 fun t48 =>
 (I64 ((t31_2 - ((sig.n : Nat) : Int)) - t48) ∧
 appK Pr [t_s_uint8, t_int] t_s_uint8 [.slice t42.a t42.n t42.c, .int .i64 (max ((t31_2 - ((sig.n : Nat) : Int)) - t48) (0:Int))] w4 fun t51 w5 =>
 appK Pr [t_s_uint8, t_s_uint8] t_s_uint8 [.slice t51.a t51.n t51.c, .slice sig.a sig.n sig.c] w5 fun t54 w6 =>
 callK Pr f_law0_LendBytes [.slice t54.a t54.n t54.c] w6 fun v_6 w7 =>
 asSl v_6 fun t56 =>
 callK Pr f_ask_Read [.slice t56.a t56.n t56.c] w7 fun v_7 w8 =>
 destr.asArr' v_7 fun vs_1 =>
 uncons vs_1 fun v_8 r_3 =>
 as_api_Ask v_8 fun t59 t59_1 t59_2 t59_3 t59_4 t59_5 t59_6 t59_7 t59_8 t59_9 t59_10 t59_11 t59_12 t59_13 =>
 uncons r_3 fun v_9 r_4 =>
 asSl v_9 fun t59_14 =>
 uncons r_4 fun v_10 r_5 =>
 asSl v_10 fun t59_15 =>
 uncons r_5 fun v_11 r_6 =>
 (r_6 = [] ∧
 nw t_api_Ask (zc Pr t_api_Ask) w8 fun p w9 =>
 sT_api_Ask p t59 t59_1 t59_2 t59_3 t59_4 t59_5 t59_6 t59_7 t59_8 t59_9 t59_10 t59_11 t59_12 t59_13 w9 fun w10 =>
 callK Pr f_ref15_Read [.slice t54.a t54.n t54.c] w10 fun v_12 w11 =>
 destr.asArr' v_12 fun vs_2 =>
 uncons vs_2 fun v_13 r_7 =>
 as_api_Ask v_13 fun t66 t66_1 t66_2 t66_3 t66_4 t66_5 t66_6 t66_7 t66_8 t66_9 t66_10 t66_11 t66_12 t66_13 =>
 uncons r_7 fun v_14 r_8 =>
 asSl v_14 fun t66_14 =>
 uncons r_8 fun v_15 r_9 =>
 asSl v_15 fun t66_15 =>
 uncons r_9 fun v_16 r_10 =>
 asI .i64 v_16 fun t66_16 =>
 (r_10 = [] ∧
 nw t_api_Ask (zc Pr t_api_Ask) w11 fun p_1 w12 =>
 sT_api_Ask p_1 t66 t66_1 t66_2 t66_3 t66_4 t66_5 t66_6 t66_7 t66_8 t66_9 t66_10 t66_11 t66_12 t66_13 w12 fun w13 =>
 join1 (fun (okv : Bool) => [(20, some (.bool okv))])
 (fun okv w14 => callK Pr f_law0_OverBytes [.slice t59_14.a t59_14.n t59_14.c] w14 fun v_17 w15 =>
 callK Pr f_law0_OverBytes [.slice t59_15.a t59_15.n t59_15.c] w15 fun v_18 w16 =>
 ldL (Addr.add p 12) w16 fun t95 =>
 callK Pr f_law0_OverBytes [.slice t95.a t95.n t95.c] w16 fun v_19 w17 =>
 iteP okv
 (callK Pr f_law0_KeptBytes [.slice t56.a t56.n t56.c, .slice t54.a t54.n t54.c] w17 fun v_20 w18 =>
 asB v_20 fun t101 =>
 iteP t101
 (callK Pr f_law15_awake [] w18 fun v_21 w19 =>
 asB v_21 fun t104 =>
 R (.bool t104) w19)
 (R (.bool false) w18))
 (R (.bool false) w17))
 (fun go =>
 ld_api_Ask p w13 fun t71f0 t71f1 t71f2 t71f3 t71f4 t71f5 t71f6 t71f7 t71f8 t71f9 t71f10 t71f11 t71f12 t71f13 =>
 ld_api_Ask p_1 w13 fun t72f0 t72f1 t72f2 t72f3 t72f4 t72f5 t72f6 t72f7 t72f8 t72f9 t72f10 t72f11 t72f12 t72f13 =>
 callK Pr f_law0_SameAsk [.agg ⟨[.int .i64 t71f0, .int .i64 t71f1, .int .i64 t71f2, .int .i64 t71f3, .int .i64 t71f4, .int .i64 t71f5, .int .i64 t71f6, .int .i64 t71f7, .int .i64 t71f8, .int .i64 t71f9, .int .i64 t71f10, .string t71f11, .slice t71f12.a t71f12.n t71f12.c, .slice t71f13.a t71f13.n t71f13.c]⟩, .agg ⟨[.int .i64 t72f0, .int .i64 t72f1, .int .i64 t72f2, .int .i64 t72f3, .int .i64 t72f4, .int .i64 t72f5, .int .i64 t72f6, .int .i64 t72f7, .int .i64 t72f8, .int .i64 t72f9, .int .i64 t72f10, .string t72f11, .slice t72f12.a t72f12.n t72f12.c, .slice t72f13.a t72f13.n t72f13.c]⟩] w13 fun v_22 w20 =>
 asB v_22 fun t73 =>
 iteP t73
 (callK Pr f_law0_SameBytes [.slice t59_14.a t59_14.n t59_14.c, .slice t66_14.a t66_14.n t66_14.c] w20 fun v_23 w21 =>
 asB v_23 fun t77 =>
 iteP t77
 (callK Pr f_law0_SameBytes [.slice t59_15.a t59_15.n t59_15.c, .slice t66_15.a t66_15.n t66_15.c] w21 fun v_24 w22 =>
 asB v_24 fun t82 =>
 iteP t82
 (callK Pr f_law0_Num [v_11] w22 fun v_25 w23 =>
 asI .i64 v_25 fun t86 =>
 go (decide (t86 = t66_16)) w23)
 (go false w22))
 (go false w21))
 (go false w20)))))))))
theorem V_law15_AskReads_eq (body : SlV) (sig : SlV) (pad : Int) (w : World) (R : Value → World → Prop) : evF Pr ⟨true, true⟩ [(12, [(20, .bool)])] [] Tryd.f6 [.slice body.a body.n body.c, .slice sig.a sig.n sig.c, .int .i64 pad] w R = V_law15_AskReads body sig pad w R := by kernel_rfl
theorem V_law15_AskReads_of {body : SlV} {sig : SlV} {pad : Int} {w : World} {R : Value → World → Prop} (h : V_law15_AskReads body sig pad w R) : Ok Pr f_law15_AskReads [.slice body.a body.n body.c, .slice sig.a sig.n sig.c, .int .i64 pad] w R :=
  have g := (V_law15_AskReads_eq body sig pad w R).mpr h
  evF_ok good Tryd.func6 (by kernel_rfl) g

def V_law15_AskApart (ac0 : Int) (ac1 : Int) (ac2 : Int) (ac3 : Int) (ac4 : Int) (ac5 : Int) (ac6 : Int) (ac7 : Int) (ac8 : Int) (ac9 : Int) (ac10 : Int) (ac11 : ByteArray) (ac12 : SlV) (ac13 : SlV) (bc0 : Int) (bc1 : Int) (bc2 : Int) (bc3 : Int) (bc4 : Int) (bc5 : Int) (bc6 : Int) (bc7 : Int) (bc8 : Int) (bc9 : Int) (bc10 : Int) (bc11 : ByteArray) (bc12 : SlV) (bc13 : SlV) (w : World) (R : Value → World → Prop) : Prop :=
 nw t_api_Ask [.int .i64 ac0, .int .i64 ac1, .int .i64 ac2, .int .i64 ac3, .int .i64 ac4, .int .i64 ac5, .int .i64 ac6, .int .i64 ac7, .int .i64 ac8, .int .i64 ac9, .int .i64 ac10, .string ac11, .slice ac12.a ac12.n ac12.c, .slice ac13.a ac13.n ac13.c] w fun p w1 =>
 nw t_api_Ask [.int .i64 bc0, .int .i64 bc1, .int .i64 bc2, .int .i64 bc3, .int .i64 bc4, .int .i64 bc5, .int .i64 bc6, .int .i64 bc7, .int .i64 bc8, .int .i64 bc9, .int .i64 bc10, .string bc11, .slice bc12.a bc12.n bc12.c, .slice bc13.a bc13.n bc13.c] w1 fun p_1 w2 =>
 join0 []
 (fun w3 => ld_api_Ask p w3 fun t17f0 t17f1 t17f2 t17f3 t17f4 t17f5 t17f6 t17f7 t17f8 t17f9 t17f10 t17f11 t17f12 t17f13 =>
 callK Pr f_ask_Body [.agg ⟨[.int .i64 t17f0, .int .i64 t17f1, .int .i64 t17f2, .int .i64 t17f3, .int .i64 t17f4, .int .i64 t17f5, .int .i64 t17f6, .int .i64 t17f7, .int .i64 t17f8, .int .i64 t17f9, .int .i64 t17f10, .string t17f11, .slice t17f12.a t17f12.n t17f12.c, .slice t17f13.a t17f13.n t17f13.c]⟩] w3 fun v w4 =>
 destr.asArr' v fun vs =>
 uncons vs fun v_1 r =>
 asSl v_1 fun t18 =>
 uncons r fun v_2 r_1 =>
 (r_1 = [] ∧
 ld_api_Ask p_1 w4 fun t22f0 t22f1 t22f2 t22f3 t22f4 t22f5 t22f6 t22f7 t22f8 t22f9 t22f10 t22f11 t22f12 t22f13 =>
 callK Pr f_ask_Body [.agg ⟨[.int .i64 t22f0, .int .i64 t22f1, .int .i64 t22f2, .int .i64 t22f3, .int .i64 t22f4, .int .i64 t22f5, .int .i64 t22f6, .int .i64 t22f7, .int .i64 t22f8, .int .i64 t22f9, .int .i64 t22f10, .string t22f11, .slice t22f12.a t22f12.n t22f12.c, .slice t22f13.a t22f13.n t22f13.c]⟩] w4 fun v_3 w5 =>
 destr.asArr' v_3 fun vs_1 =>
 uncons vs_1 fun v_4 r_2 =>
 asSl v_4 fun t23 =>
 uncons r_2 fun v_5 r_3 =>
 (r_3 = [] ∧
 join0 []
 (fun w6 => join0 []
 (fun w7 => ldS (Addr.add p 11) (World.drew w7) fun t66 =>
 (I64 ((112:Int) + ((ByteArray.size t66 : Nat) : Int)) ∧
 ldL (Addr.add p 12) (World.drew w7) fun t70 =>
 (I64 (((112:Int) + ((ByteArray.size t66 : Nat) : Int)) + ((t70.n : Nat) : Int)) ∧
 ldL (Addr.add p 13) (World.drew w7) fun t74 =>
 (I64 ((((112:Int) + ((ByteArray.size t66 : Nat) : Int)) + ((t70.n : Nat) : Int)) + ((t74.n : Nat) : Int)) ∧
 ld_api_Ask p (World.drew w7) fun t82f0 t82f1 t82f2 t82f3 t82f4 t82f5 t82f6 t82f7 t82f8 t82f9 t82f10 t82f11 t82f12 t82f13 =>
 ld_api_Ask p_1 (World.drew w7) fun t83f0 t83f1 t83f2 t83f3 t83f4 t83f5 t83f6 t83f7 t83f8 t83f9 t83f10 t83f11 t83f12 t83f13 =>
 iteP (decide (((t18.n : Nat) : Int) = (((112:Int) + ((ByteArray.size t66 : Nat) : Int)) + ((t70.n : Nat) : Int)) + ((t74.n : Nat) : Int)))
 (callK Pr f_law0_SameBytes [.slice t18.a t18.n t18.c, .slice t23.a t23.n t23.c] (World.drew w7) fun v_6 w8 =>
 asB v_6 fun t81 =>
 (kept p_1 14 (World.drew w7) w8 ∧
 (kept p 14 (World.drew w7) w8 ∧
 callK Pr f_ask_Same [.agg ⟨[.int .i64 t82f0, .int .i64 t82f1, .int .i64 t82f2, .int .i64 t82f3, .int .i64 t82f4, .int .i64 t82f5, .int .i64 t82f6, .int .i64 t82f7, .int .i64 t82f8, .int .i64 t82f9, .int .i64 t82f10, .string t82f11, .slice t82f12.a t82f12.n t82f12.c, .slice t82f13.a t82f13.n t82f13.c]⟩, .agg ⟨[.int .i64 t83f0, .int .i64 t83f1, .int .i64 t83f2, .int .i64 t83f3, .int .i64 t83f4, .int .i64 t83f5, .int .i64 t83f6, .int .i64 t83f7, .int .i64 t83f8, .int .i64 t83f9, .int .i64 t83f10, .string t83f11, .slice t83f12.a t83f12.n t83f12.c, .slice t83f13.a t83f13.n t83f13.c]⟩] w8 fun v_7 w9 =>
 asB v_7 fun t84 =>
 ld_api_Ask p w9 fun t88f0 t88f1 t88f2 t88f3 t88f4 t88f5 t88f6 t88f7 t88f8 t88f9 t88f10 t88f11 t88f12 t88f13 =>
 ld_api_Ask p_1 w9 fun t89f0 t89f1 t89f2 t89f3 t89f4 t89f5 t89f6 t89f7 t89f8 t89f9 t89f10 t89f11 t89f12 t89f13 =>
 ld_api_Ask p_1 w9 fun t91f0 t91f1 t91f2 t91f3 t91f4 t91f5 t91f6 t91f7 t91f8 t91f9 t91f10 t91f11 t91f12 t91f13 =>
 ld_api_Ask p w9 fun t92f0 t92f1 t92f2 t92f3 t92f4 t92f5 t92f6 t92f7 t92f8 t92f9 t92f10 t92f11 t92f12 t92f13 =>
 iteP (t81 == t84)
 (callK Pr f_ask_Same [.agg ⟨[.int .i64 t88f0, .int .i64 t88f1, .int .i64 t88f2, .int .i64 t88f3, .int .i64 t88f4, .int .i64 t88f5, .int .i64 t88f6, .int .i64 t88f7, .int .i64 t88f8, .int .i64 t88f9, .int .i64 t88f10, .string t88f11, .slice t88f12.a t88f12.n t88f12.c, .slice t88f13.a t88f13.n t88f13.c]⟩, .agg ⟨[.int .i64 t89f0, .int .i64 t89f1, .int .i64 t89f2, .int .i64 t89f3, .int .i64 t89f4, .int .i64 t89f5, .int .i64 t89f6, .int .i64 t89f7, .int .i64 t89f8, .int .i64 t89f9, .int .i64 t89f10, .string t89f11, .slice t89f12.a t89f12.n t89f12.c, .slice t89f13.a t89f13.n t89f13.c]⟩] w9 fun v_8 w10 =>
 asB v_8 fun t90 =>
 (kept p 14 w9 w10 ∧
 (kept p_1 14 w9 w10 ∧
 callK Pr f_ask_Same [.agg ⟨[.int .i64 t91f0, .int .i64 t91f1, .int .i64 t91f2, .int .i64 t91f3, .int .i64 t91f4, .int .i64 t91f5, .int .i64 t91f6, .int .i64 t91f7, .int .i64 t91f8, .int .i64 t91f9, .int .i64 t91f10, .string t91f11, .slice t91f12.a t91f12.n t91f12.c, .slice t91f13.a t91f13.n t91f13.c]⟩, .agg ⟨[.int .i64 t92f0, .int .i64 t92f1, .int .i64 t92f2, .int .i64 t92f3, .int .i64 t92f4, .int .i64 t92f5, .int .i64 t92f6, .int .i64 t92f7, .int .i64 t92f8, .int .i64 t92f9, .int .i64 t92f10, .string t92f11, .slice t92f12.a t92f12.n t92f12.c, .slice t92f13.a t92f13.n t92f13.c]⟩] w10 fun v_9 w11 =>
 asB v_9 fun t93 =>
 iteP (t90 == t93)
 (callK Pr f_law15_awake [] w11 fun v_10 w12 =>
 asB v_10 fun t97 =>
 R (.bool t97) w12)
 (R (.bool false) w11))))
 ((kept p 14 w9 w9 ∧
 (kept p_1 14 w9 w9 ∧
 R (.bool false) w9))))))
 ((kept p_1 14 (World.drew w7) (World.drew w7) ∧
 (kept p 14 (World.drew w7) (World.drew w7) ∧
 ld_api_Ask p (World.drew w7) fun t88f0_1 t88f1_1 t88f2_1 t88f3_1 t88f4_1 t88f5_1 t88f6_1 t88f7_1 t88f8_1 t88f9_1 t88f10_1 t88f11_1 t88f12_1 t88f13_1 =>
 ld_api_Ask p_1 (World.drew w7) fun t89f0_1 t89f1_1 t89f2_1 t89f3_1 t89f4_1 t89f5_1 t89f6_1 t89f7_1 t89f8_1 t89f9_1 t89f10_1 t89f11_1 t89f12_1 t89f13_1 =>
 ld_api_Ask p_1 (World.drew w7) fun t91f0_1 t91f1_1 t91f2_1 t91f3_1 t91f4_1 t91f5_1 t91f6_1 t91f7_1 t91f8_1 t91f9_1 t91f10_1 t91f11_1 t91f12_1 t91f13_1 =>
 ld_api_Ask p (World.drew w7) fun t92f0_1 t92f1_1 t92f2_1 t92f3_1 t92f4_1 t92f5_1 t92f6_1 t92f7_1 t92f8_1 t92f9_1 t92f10_1 t92f11_1 t92f12_1 t92f13_1 =>
 (kept p 14 (World.drew w7) (World.drew w7) ∧
 (kept p_1 14 (World.drew w7) (World.drew w7) ∧
 R (.bool false) (World.drew w7))))))))))
 (fun go =>
 join1 (fun (t43 : Bool) => [(43, some (.bool t43))])
 (fun t43 w13 => iteP t43
 (ifaceNil v_2 fun nil =>
 iteP (nil || (decide (((t18.n : Nat) : Int) = (0:Int))))
 (ifaceNil v_5 fun nil_1 =>
 iteP (nil_1 || (decide (((t23.n : Nat) : Int) = (0:Int))))
 (callK Pr f_law15_awake [] w13 fun v_11 w14 =>
 asB v_11 fun t61 =>
 R (.bool t61) w14)
 (R (.bool false) w13))
 (R (.bool false) w13))
 (go w13))
 (fun go_1 =>
 ifaceNil v_2 fun nil_2 =>
 iteP (!nil_2)
 (go_1 true w6)
 (ifaceNil v_5 fun nil_3 =>
 go_1 (!nil_3) w6))))
 (fun go_2 =>
 ifaceNil v_2 fun nil_4 =>
 ld_api_Ask p (World.drew w5) fun t28f0 t28f1 t28f2 t28f3 t28f4 t28f5 t28f6 t28f7 t28f8 t28f9 t28f10 t28f11 t28f12 t28f13 =>
 callK Pr f_ask_May [.agg ⟨[.int .i64 t28f0, .int .i64 t28f1, .int .i64 t28f2, .int .i64 t28f3, .int .i64 t28f4, .int .i64 t28f5, .int .i64 t28f6, .int .i64 t28f7, .int .i64 t28f8, .int .i64 t28f9, .int .i64 t28f10, .string t28f11, .slice t28f12.a t28f12.n t28f12.c, .slice t28f13.a t28f13.n t28f13.c]⟩] (World.drew w5) fun v_12 w15 =>
 asB v_12 fun t29 =>
 iteP (!(nil_4 == t29))
 (R (.bool false) w15)
 (ifaceNil v_5 fun nil_5 =>
 ld_api_Ask p_1 w15 fun t34f0 t34f1 t34f2 t34f3 t34f4 t34f5 t34f6 t34f7 t34f8 t34f9 t34f10 t34f11 t34f12 t34f13 =>
 callK Pr f_ask_May [.agg ⟨[.int .i64 t34f0, .int .i64 t34f1, .int .i64 t34f2, .int .i64 t34f3, .int .i64 t34f4, .int .i64 t34f5, .int .i64 t34f6, .int .i64 t34f7, .int .i64 t34f8, .int .i64 t34f9, .int .i64 t34f10, .string t34f11, .slice t34f12.a t34f12.n t34f12.c, .slice t34f13.a t34f13.n t34f13.c]⟩] w15 fun v_13 w16 =>
 asB v_13 fun t35 =>
 iteP (!(nil_5 == t35))
 (R (.bool false) w16)
 (go_2 w16))))))
 (fun go_3 =>
 join1 (fun (t14 : Bool) => [(14, some (.bool t14))])
 (fun t14 w17 => iteP t14
 (callK Pr f_law15_awake [] w17 fun v_14 w18 =>
 asB v_14 fun t15 =>
 R (.bool t15) w18)
 (go_3 w17))
 (fun go_4 =>
 ld_api_Ask p w2 fun t9f0 t9f1 t9f2 t9f3 t9f4 t9f5 t9f6 t9f7 t9f8 t9f9 t9f10 t9f11 t9f12 t9f13 =>
 callK Pr f_law0_GreatAsk [.agg ⟨[.int .i64 t9f0, .int .i64 t9f1, .int .i64 t9f2, .int .i64 t9f3, .int .i64 t9f4, .int .i64 t9f5, .int .i64 t9f6, .int .i64 t9f7, .int .i64 t9f8, .int .i64 t9f9, .int .i64 t9f10, .string t9f11, .slice t9f12.a t9f12.n t9f12.c, .slice t9f13.a t9f13.n t9f13.c]⟩] w2 fun v_15 w19 =>
 asB v_15 fun t10 =>
 ld_api_Ask p_1 w19 fun t12f0 t12f1 t12f2 t12f3 t12f4 t12f5 t12f6 t12f7 t12f8 t12f9 t12f10 t12f11 t12f12 t12f13 =>
 iteP t10
 (go_4 true w19)
 (callK Pr f_law0_GreatAsk [.agg ⟨[.int .i64 t12f0, .int .i64 t12f1, .int .i64 t12f2, .int .i64 t12f3, .int .i64 t12f4, .int .i64 t12f5, .int .i64 t12f6, .int .i64 t12f7, .int .i64 t12f8, .int .i64 t12f9, .int .i64 t12f10, .string t12f11, .slice t12f12.a t12f12.n t12f12.c, .slice t12f13.a t12f13.n t12f13.c]⟩] w19 fun v_16 w20 =>
 asB v_16 fun t13 =>
 go_4 t13 w20)))
theorem V_law15_AskApart_eq (ac0 : Int) (ac1 : Int) (ac2 : Int) (ac3 : Int) (ac4 : Int) (ac5 : Int) (ac6 : Int) (ac7 : Int) (ac8 : Int) (ac9 : Int) (ac10 : Int) (ac11 : ByteArray) (ac12 : SlV) (ac13 : SlV) (bc0 : Int) (bc1 : Int) (bc2 : Int) (bc3 : Int) (bc4 : Int) (bc5 : Int) (bc6 : Int) (bc7 : Int) (bc8 : Int) (bc9 : Int) (bc10 : Int) (bc11 : ByteArray) (bc12 : SlV) (bc13 : SlV) (w : World) (R : Value → World → Prop) : evF Pr ⟨true, true⟩ [(3, []), (2, [(14, .bool)]), (7, []), (9, []), (8, [(43, .bool)])] [] Tryd.f7 [.agg ⟨[.int .i64 ac0, .int .i64 ac1, .int .i64 ac2, .int .i64 ac3, .int .i64 ac4, .int .i64 ac5, .int .i64 ac6, .int .i64 ac7, .int .i64 ac8, .int .i64 ac9, .int .i64 ac10, .string ac11, .slice ac12.a ac12.n ac12.c, .slice ac13.a ac13.n ac13.c]⟩, .agg ⟨[.int .i64 bc0, .int .i64 bc1, .int .i64 bc2, .int .i64 bc3, .int .i64 bc4, .int .i64 bc5, .int .i64 bc6, .int .i64 bc7, .int .i64 bc8, .int .i64 bc9, .int .i64 bc10, .string bc11, .slice bc12.a bc12.n bc12.c, .slice bc13.a bc13.n bc13.c]⟩] w R = V_law15_AskApart ac0 ac1 ac2 ac3 ac4 ac5 ac6 ac7 ac8 ac9 ac10 ac11 ac12 ac13 bc0 bc1 bc2 bc3 bc4 bc5 bc6 bc7 bc8 bc9 bc10 bc11 bc12 bc13 w R := by kernel_rfl
theorem V_law15_AskApart_of {ac0 : Int} {ac1 : Int} {ac2 : Int} {ac3 : Int} {ac4 : Int} {ac5 : Int} {ac6 : Int} {ac7 : Int} {ac8 : Int} {ac9 : Int} {ac10 : Int} {ac11 : ByteArray} {ac12 : SlV} {ac13 : SlV} {bc0 : Int} {bc1 : Int} {bc2 : Int} {bc3 : Int} {bc4 : Int} {bc5 : Int} {bc6 : Int} {bc7 : Int} {bc8 : Int} {bc9 : Int} {bc10 : Int} {bc11 : ByteArray} {bc12 : SlV} {bc13 : SlV} {w : World} {R : Value → World → Prop} (h : V_law15_AskApart ac0 ac1 ac2 ac3 ac4 ac5 ac6 ac7 ac8 ac9 ac10 ac11 ac12 ac13 bc0 bc1 bc2 bc3 bc4 bc5 bc6 bc7 bc8 bc9 bc10 bc11 bc12 bc13 w R) : Ok Pr f_law15_AskApart [.agg ⟨[.int .i64 ac0, .int .i64 ac1, .int .i64 ac2, .int .i64 ac3, .int .i64 ac4, .int .i64 ac5, .int .i64 ac6, .int .i64 ac7, .int .i64 ac8, .int .i64 ac9, .int .i64 ac10, .string ac11, .slice ac12.a ac12.n ac12.c, .slice ac13.a ac13.n ac13.c]⟩, .agg ⟨[.int .i64 bc0, .int .i64 bc1, .int .i64 bc2, .int .i64 bc3, .int .i64 bc4, .int .i64 bc5, .int .i64 bc6, .int .i64 bc7, .int .i64 bc8, .int .i64 bc9, .int .i64 bc10, .string bc11, .slice bc12.a bc12.n bc12.c, .slice bc13.a bc13.n bc13.c]⟩] w R :=
  have g := (V_law15_AskApart_eq ac0 ac1 ac2 ac3 ac4 ac5 ac6 ac7 ac8 ac9 ac10 ac11 ac12 ac13 bc0 bc1 bc2 bc3 bc4 bc5 bc6 bc7 bc8 bc9 bc10 bc11 bc12 bc13 w R).mpr h
  evF_ok good Tryd.func7 (by kernel_rfl) g

def V_law15_awake (w : World) (R : Value → World → Prop) : Prop :=
 callK Pr f_law15_one [] w fun v w1 =>
 as_api_Ask v fun t8 t8_1 t8_2 t8_3 t8_4 t8_5 t8_6 t8_7 t8_8 t8_9 t8_10 t8_11 t8_12 t8_13 =>
 callK Pr f_ask_Body [.agg ⟨[.int .i64 t8, .int .i64 t8_1, .int .i64 t8_2, .int .i64 t8_3, .int .i64 t8_4, .int .i64 t8_5, .int .i64 t8_6, .int .i64 t8_7, .int .i64 t8_8, .int .i64 t8_9, .int .i64 t8_10, .string t8_11, .slice t8_12.a t8_12.n t8_12.c, .slice t8_13.a t8_13.n t8_13.c]⟩] w1 fun v_1 w2 =>
 destr.asArr' v_1 fun vs =>
 uncons vs fun v_2 r =>
 asSl v_2 fun t9 =>
 uncons r fun v_3 r_1 =>
 (r_1 = [] ∧
 callK Pr f_ask_Read [.slice none 0 0] w2 fun v_4 w3 =>
 destr.asArr' v_4 fun vs_1 =>
 uncons vs_1 fun v_5 r_2 =>
 as_api_Ask v_5 fun t13 t13_1 t13_2 t13_3 t13_4 t13_5 t13_6 t13_7 t13_8 t13_9 t13_10 t13_11 t13_12 t13_13 =>
 uncons r_2 fun v_6 r_3 =>
 asSl v_6 fun t13_14 =>
 uncons r_3 fun v_7 r_4 =>
 asSl v_7 fun t13_15 =>
 uncons r_4 fun v_8 r_5 =>
 (r_5 = [] ∧
 nw t_api_Ask (zc Pr t_api_Ask) w3 fun p w4 =>
 sT_api_Ask p t13 t13_1 t13_2 t13_3 t13_4 t13_5 t13_6 t13_7 t13_8 t13_9 t13_10 t13_11 t13_12 t13_13 w4 fun w5 =>
 iteP (decide (((t9.n : Nat) : Int) = (112:Int)))
 (ifaceNil v_3 fun nil =>
 iteP nil
 (callK Pr f_law0_Num [v_8] w5 fun v_9 w6 =>
 asI .i64 v_9 fun t27 =>
 iteP (decide (t27 = (3:Int)))
 (callK Pr f_law15_one [] w6 fun v_10 w7 =>
 as_api_Ask v_10 fun t31 t31_1 t31_2 t31_3 t31_4 t31_5 t31_6 t31_7 t31_8 t31_9 t31_10 t31_11 t31_12 t31_13 =>
 callK Pr f_ask_May [.agg ⟨[.int .i64 t31, .int .i64 t31_1, .int .i64 t31_2, .int .i64 t31_3, .int .i64 t31_4, .int .i64 t31_5, .int .i64 t31_6, .int .i64 t31_7, .int .i64 t31_8, .int .i64 t31_9, .int .i64 t31_10, .string t31_11, .slice t31_12.a t31_12.n t31_12.c, .slice t31_13.a t31_13.n t31_13.c]⟩] w7 fun v_11 w8 =>
 asB v_11 fun t32 =>
 iteP t32
 (callK Pr f_ask_May [.agg ⟨[.int .i64 (0:Int), .int .i64 (0:Int), .int .i64 (0:Int), .int .i64 (0:Int), .int .i64 (0:Int), .int .i64 (0:Int), .int .i64 (0:Int), .int .i64 (0:Int), .int .i64 (0:Int), .int .i64 (0:Int), .int .i64 (0:Int), .string S_empty, .slice none 0 0, .slice none 0 0]⟩] w8 fun v_12 w9 =>
 asB v_12 fun t36 =>
 iteP (!t36)
 (callK Pr f_law15_one [] w9 fun v_13 w10 =>
 as_api_Ask v_13 fun t40 t40_1 t40_2 t40_3 t40_4 t40_5 t40_6 t40_7 t40_8 t40_9 t40_10 t40_11 t40_12 t40_13 =>
 callK Pr f_law15_one [] w10 fun v_14 w11 =>
 as_api_Ask v_14 fun t41 t41_1 t41_2 t41_3 t41_4 t41_5 t41_6 t41_7 t41_8 t41_9 t41_10 t41_11 t41_12 t41_13 =>
 callK Pr f_ask_Same [.agg ⟨[.int .i64 t40, .int .i64 t40_1, .int .i64 t40_2, .int .i64 t40_3, .int .i64 t40_4, .int .i64 t40_5, .int .i64 t40_6, .int .i64 t40_7, .int .i64 t40_8, .int .i64 t40_9, .int .i64 t40_10, .string t40_11, .slice t40_12.a t40_12.n t40_12.c, .slice t40_13.a t40_13.n t40_13.c]⟩, .agg ⟨[.int .i64 t41, .int .i64 t41_1, .int .i64 t41_2, .int .i64 t41_3, .int .i64 t41_4, .int .i64 t41_5, .int .i64 t41_6, .int .i64 t41_7, .int .i64 t41_8, .int .i64 t41_9, .int .i64 t41_10, .string t41_11, .slice t41_12.a t41_12.n t41_12.c, .slice t41_13.a t41_13.n t41_13.c]⟩] w11 fun v_15 w12 =>
 asB v_15 fun t42 =>
 R (.bool t42) w12)
 (R (.bool false) w9))
 (R (.bool false) w8))
 (R (.bool false) w6))
 (R (.bool false) w5))
 (R (.bool false) w5)))
theorem V_law15_awake_eq (w : World) (R : Value → World → Prop) : evF Pr ⟨true, true⟩ [] [] Tryd.f26 [] w R = V_law15_awake w R := by kernel_rfl
theorem V_law15_awake_of {w : World} {R : Value → World → Prop} (h : V_law15_awake w R) : Ok Pr f_law15_awake [] w R :=
  have g := (V_law15_awake_eq w R).mpr h
  evF_ok good Tryd.func26 (by kernel_rfl) g

def V_ask_Body (ac0 : Int) (ac1 : Int) (ac2 : Int) (ac3 : Int) (ac4 : Int) (ac5 : Int) (ac6 : Int) (ac7 : Int) (ac8 : Int) (ac9 : Int) (ac10 : Int) (ac11 : ByteArray) (ac12 : SlV) (ac13 : SlV) (w : World) (R : Value → World → Prop) : Prop :=
 nw t_api_Ask [.int .i64 ac0, .int .i64 ac1, .int .i64 ac2, .int .i64 ac3, .int .i64 ac4, .int .i64 ac5, .int .i64 ac6, .int .i64 ac7, .int .i64 ac8, .int .i64 ac9, .int .i64 ac10, .string ac11, .slice ac12.a ac12.n ac12.c, .slice ac13.a ac13.n ac13.c] w fun p w1 =>
 ld_api_Ask p w1 fun t4f0 t4f1 t4f2 t4f3 t4f4 t4f5 t4f6 t4f7 t4f8 t4f9 t4f10 t4f11 t4f12 t4f13 =>
 callK Pr f_ask_May [.agg ⟨[.int .i64 t4f0, .int .i64 t4f1, .int .i64 t4f2, .int .i64 t4f3, .int .i64 t4f4, .int .i64 t4f5, .int .i64 t4f6, .int .i64 t4f7, .int .i64 t4f8, .int .i64 t4f9, .int .i64 t4f10, .string t4f11, .slice t4f12.a t4f12.n t4f12.c, .slice t4f13.a t4f13.n t4f13.c]⟩] w1 fun v w2 =>
 asB v fun t5 =>
 iteP (!t5)
 (callK Pr f_ask_fault [.int .i64 (2:Int)] w2 fun v_1 w3 =>
 R (.tuple ⟨[.slice none 0 0, v_1]⟩) w3)
 (ld_api_Ask p (World.drew w2) fun t8f0 t8f1 t8f2 t8f3 t8f4 t8f5 t8f6 t8f7 t8f8 t8f9 t8f10 t8f11 t8f12 t8f13 =>
 ldS (Addr.add p 11) (World.drew w2) fun t12 =>
 ldL (Addr.add p 12) (World.drew w2) fun t15 =>
 ldL (Addr.add p 13) (World.drew w2) fun t17 =>
 ((callK Pr f_ask_numbers [.agg ⟨[.int .i64 t8f0, .int .i64 t8f1, .int .i64 t8f2, .int .i64 t8f3, .int .i64 t8f4, .int .i64 t8f5, .int .i64 t8f6, .int .i64 t8f7, .int .i64 t8f8, .int .i64 t8f9, .int .i64 t8f10, .string t8f11, .slice t8f12.a t8f12.n t8f12.c, .slice t8f13.a t8f13.n t8f13.c]⟩] (World.drew w2) fun v_2 w4 =>
 asSl v_2 fun t9 =>
 (kept (Addr.add p 13) 1 (World.drew w2) w4 ∧
 (kept (Addr.add p 12) 1 (World.drew w2) w4 ∧
 (kept (Addr.add p 11) 1 (World.drew w2) w4 ∧
 ((callK Pr f_code_Number [.slice none 0 0, .slice t9.a t9.n t9.c] w4 fun v_3 w5 =>
 asSl v_3 fun t10 =>
 (kept (Addr.add p 13) 1 w4 w5 ∧
 (kept (Addr.add p 12) 1 w4 w5 ∧
 (kept (Addr.add p 11) 1 w4 w5 ∧
 ((callK Pr f_code_Text [.slice t10.a t10.n t10.c, .string t12] w5 fun v_4 w6 =>
 asSl v_4 fun t13 =>
 (kept (Addr.add p 13) 1 w5 w6 ∧
 (kept (Addr.add p 12) 1 w5 w6 ∧
 nw t_s_uint8 [.slice t15.a t15.n t15.c, .slice t17.a t17.n t17.c] w6 fun p_1 w7 =>
 (kept (Addr.add p 11) 1 w6 w7 ∧
 (kept p 14 w6 w7 ∧
 callK Pr f_code_Bytes [.slice t13.a t13.n t13.c, .slice (some p_1) 2 2] w7 fun v_5 w8 =>
 asSl v_5 fun t19 =>
 R (.tuple ⟨[.slice t19.a t19.n t19.c, .nilIface]⟩) w8))))) ∧
 (nw t_s_uint8 [.slice t15.a t15.n t15.c, .slice t17.a t17.n t17.c] w5 fun p_2 w9 =>
 (kept (Addr.add p 11) 1 w5 w9 ∧
 (kept p 14 w5 w9 ∧
 callK Pr f_code_Text [.slice t10.a t10.n t10.c, .string t12] w9 fun v_6 w10 =>
 asSl v_6 fun t13_1 =>
 (kept (Addr.add p 13) 1 w9 w10 ∧
 (kept (Addr.add p 12) 1 w9 w10 ∧
 callK Pr f_code_Bytes [.slice t13_1.a t13_1.n t13_1.c, .slice (some p_2) 2 2] w10 fun v_7 w11 =>
 asSl v_7 fun t19_1 =>
 R (.tuple ⟨[.slice t19_1.a t19_1.n t19_1.c, .nilIface]⟩) w11)))))))))) ∧
 (nw t_s_uint8 [.slice t15.a t15.n t15.c, .slice t17.a t17.n t17.c] w4 fun p_3 w12 =>
 (kept (Addr.add p 11) 1 w4 w12 ∧
 (kept p 14 w4 w12 ∧
 callK Pr f_code_Number [.slice none 0 0, .slice t9.a t9.n t9.c] w12 fun v_8 w13 =>
 asSl v_8 fun t10_1 =>
 (kept (Addr.add p 13) 1 w12 w13 ∧
 (kept (Addr.add p 12) 1 w12 w13 ∧
 (kept (Addr.add p 11) 1 w12 w13 ∧
 callK Pr f_code_Text [.slice t10_1.a t10_1.n t10_1.c, .string t12] w13 fun v_9 w14 =>
 asSl v_9 fun t13_2 =>
 (kept (Addr.add p 13) 1 w13 w14 ∧
 (kept (Addr.add p 12) 1 w13 w14 ∧
 callK Pr f_code_Bytes [.slice t13_2.a t13_2.n t13_2.c, .slice (some p_3) 2 2] w14 fun v_10 w15 =>
 asSl v_10 fun t19_2 =>
 R (.tuple ⟨[.slice t19_2.a t19_2.n t19_2.c, .nilIface]⟩) w15))))))))))))) ∧
 (nw t_s_uint8 [.slice t15.a t15.n t15.c, .slice t17.a t17.n t17.c] (World.drew w2) fun p_4 w16 =>
 (kept (Addr.add p 11) 1 (World.drew w2) w16 ∧
 (kept p 14 (World.drew w2) w16 ∧
 callK Pr f_ask_numbers [.agg ⟨[.int .i64 t8f0, .int .i64 t8f1, .int .i64 t8f2, .int .i64 t8f3, .int .i64 t8f4, .int .i64 t8f5, .int .i64 t8f6, .int .i64 t8f7, .int .i64 t8f8, .int .i64 t8f9, .int .i64 t8f10, .string t8f11, .slice t8f12.a t8f12.n t8f12.c, .slice t8f13.a t8f13.n t8f13.c]⟩] w16 fun v_11 w17 =>
 asSl v_11 fun t9_1 =>
 (kept (Addr.add p 13) 1 w16 w17 ∧
 (kept (Addr.add p 12) 1 w16 w17 ∧
 (kept (Addr.add p 11) 1 w16 w17 ∧
 callK Pr f_code_Number [.slice none 0 0, .slice t9_1.a t9_1.n t9_1.c] w17 fun v_12 w18 =>
 asSl v_12 fun t10_2 =>
 (kept (Addr.add p 13) 1 w17 w18 ∧
 (kept (Addr.add p 12) 1 w17 w18 ∧
 (kept (Addr.add p 11) 1 w17 w18 ∧
 callK Pr f_code_Text [.slice t10_2.a t10_2.n t10_2.c, .string t12] w18 fun v_13 w19 =>
 asSl v_13 fun t13_3 =>
 (kept (Addr.add p 13) 1 w18 w19 ∧
 (kept (Addr.add p 12) 1 w18 w19 ∧
 callK Pr f_code_Bytes [.slice t13_3.a t13_3.n t13_3.c, .slice (some p_4) 2 2] w19 fun v_14 w20 =>
 asSl v_14 fun t19_3 =>
 R (.tuple ⟨[.slice t19_3.a t19_3.n t19_3.c, .nilIface]⟩) w20)))))))))))))
theorem V_ask_Body_eq (ac0 : Int) (ac1 : Int) (ac2 : Int) (ac3 : Int) (ac4 : Int) (ac5 : Int) (ac6 : Int) (ac7 : Int) (ac8 : Int) (ac9 : Int) (ac10 : Int) (ac11 : ByteArray) (ac12 : SlV) (ac13 : SlV) (w : World) (R : Value → World → Prop) : evF Pr ⟨true, true⟩ [] [] Tryd.f27 [.agg ⟨[.int .i64 ac0, .int .i64 ac1, .int .i64 ac2, .int .i64 ac3, .int .i64 ac4, .int .i64 ac5, .int .i64 ac6, .int .i64 ac7, .int .i64 ac8, .int .i64 ac9, .int .i64 ac10, .string ac11, .slice ac12.a ac12.n ac12.c, .slice ac13.a ac13.n ac13.c]⟩] w R = V_ask_Body ac0 ac1 ac2 ac3 ac4 ac5 ac6 ac7 ac8 ac9 ac10 ac11 ac12 ac13 w R := by kernel_rfl
theorem V_ask_Body_of {ac0 : Int} {ac1 : Int} {ac2 : Int} {ac3 : Int} {ac4 : Int} {ac5 : Int} {ac6 : Int} {ac7 : Int} {ac8 : Int} {ac9 : Int} {ac10 : Int} {ac11 : ByteArray} {ac12 : SlV} {ac13 : SlV} {w : World} {R : Value → World → Prop} (h : V_ask_Body ac0 ac1 ac2 ac3 ac4 ac5 ac6 ac7 ac8 ac9 ac10 ac11 ac12 ac13 w R) : Ok Pr f_ask_Body [.agg ⟨[.int .i64 ac0, .int .i64 ac1, .int .i64 ac2, .int .i64 ac3, .int .i64 ac4, .int .i64 ac5, .int .i64 ac6, .int .i64 ac7, .int .i64 ac8, .int .i64 ac9, .int .i64 ac10, .string ac11, .slice ac12.a ac12.n ac12.c, .slice ac13.a ac13.n ac13.c]⟩] w R :=
  have g := (V_ask_Body_eq ac0 ac1 ac2 ac3 ac4 ac5 ac6 ac7 ac8 ac9 ac10 ac11 ac12 ac13 w R).mpr h
  evF_ok good Tryd.func27 (by kernel_rfl) g

def V_ref15_Body (ac0 : Int) (ac1 : Int) (ac2 : Int) (ac3 : Int) (ac4 : Int) (ac5 : Int) (ac6 : Int) (ac7 : Int) (ac8 : Int) (ac9 : Int) (ac10 : Int) (ac11 : ByteArray) (ac12 : SlV) (ac13 : SlV) (w : World) (R : Value → World → Prop) : Prop :=
 nw t_api_Ask [.int .i64 ac0, .int .i64 ac1, .int .i64 ac2, .int .i64 ac3, .int .i64 ac4, .int .i64 ac5, .int .i64 ac6, .int .i64 ac7, .int .i64 ac8, .int .i64 ac9, .int .i64 ac10, .string ac11, .slice ac12.a ac12.n ac12.c, .slice ac13.a ac13.n ac13.c] w fun p w1 =>
 ld_api_Ask p w1 fun t4f0 t4f1 t4f2 t4f3 t4f4 t4f5 t4f6 t4f7 t4f8 t4f9 t4f10 t4f11 t4f12 t4f13 =>
 callK Pr f_ref15_May [.agg ⟨[.int .i64 t4f0, .int .i64 t4f1, .int .i64 t4f2, .int .i64 t4f3, .int .i64 t4f4, .int .i64 t4f5, .int .i64 t4f6, .int .i64 t4f7, .int .i64 t4f8, .int .i64 t4f9, .int .i64 t4f10, .string t4f11, .slice t4f12.a t4f12.n t4f12.c, .slice t4f13.a t4f13.n t4f13.c]⟩] w1 fun v w2 =>
 asB v fun t5 =>
 iteP (!t5)
 (R (.tuple ⟨[.slice none 0 0, .int .i64 (2:Int)]⟩) w2)
 (ld_api_Ask p w2 fun t7f0 t7f1 t7f2 t7f3 t7f4 t7f5 t7f6 t7f7 t7f8 t7f9 t7f10 t7f11 t7f12 t7f13 =>
 callK Pr f_ref15_Laid [.agg ⟨[.int .i64 t7f0, .int .i64 t7f1, .int .i64 t7f2, .int .i64 t7f3, .int .i64 t7f4, .int .i64 t7f5, .int .i64 t7f6, .int .i64 t7f7, .int .i64 t7f8, .int .i64 t7f9, .int .i64 t7f10, .string t7f11, .slice t7f12.a t7f12.n t7f12.c, .slice t7f13.a t7f13.n t7f13.c]⟩] w2 fun v_1 w3 =>
 asSl v_1 fun t8 =>
 R (.tuple ⟨[.slice t8.a t8.n t8.c, .int .i64 (0:Int)]⟩) w3)
theorem V_ref15_Body_eq (ac0 : Int) (ac1 : Int) (ac2 : Int) (ac3 : Int) (ac4 : Int) (ac5 : Int) (ac6 : Int) (ac7 : Int) (ac8 : Int) (ac9 : Int) (ac10 : Int) (ac11 : ByteArray) (ac12 : SlV) (ac13 : SlV) (w : World) (R : Value → World → Prop) : evF Pr ⟨true, true⟩ [] [] Tryd.f28 [.agg ⟨[.int .i64 ac0, .int .i64 ac1, .int .i64 ac2, .int .i64 ac3, .int .i64 ac4, .int .i64 ac5, .int .i64 ac6, .int .i64 ac7, .int .i64 ac8, .int .i64 ac9, .int .i64 ac10, .string ac11, .slice ac12.a ac12.n ac12.c, .slice ac13.a ac13.n ac13.c]⟩] w R = V_ref15_Body ac0 ac1 ac2 ac3 ac4 ac5 ac6 ac7 ac8 ac9 ac10 ac11 ac12 ac13 w R := by kernel_rfl
theorem V_ref15_Body_of {ac0 : Int} {ac1 : Int} {ac2 : Int} {ac3 : Int} {ac4 : Int} {ac5 : Int} {ac6 : Int} {ac7 : Int} {ac8 : Int} {ac9 : Int} {ac10 : Int} {ac11 : ByteArray} {ac12 : SlV} {ac13 : SlV} {w : World} {R : Value → World → Prop} (h : V_ref15_Body ac0 ac1 ac2 ac3 ac4 ac5 ac6 ac7 ac8 ac9 ac10 ac11 ac12 ac13 w R) : Ok Pr f_ref15_Body [.agg ⟨[.int .i64 ac0, .int .i64 ac1, .int .i64 ac2, .int .i64 ac3, .int .i64 ac4, .int .i64 ac5, .int .i64 ac6, .int .i64 ac7, .int .i64 ac8, .int .i64 ac9, .int .i64 ac10, .string ac11, .slice ac12.a ac12.n ac12.c, .slice ac13.a ac13.n ac13.c]⟩] w R :=
  have g := (V_ref15_Body_eq ac0 ac1 ac2 ac3 ac4 ac5 ac6 ac7 ac8 ac9 ac10 ac11 ac12 ac13 w R).mpr h
  evF_ok good Tryd.func28 (by kernel_rfl) g

def V_ask_May (ac0 : Int) (ac1 : Int) (ac2 : Int) (ac3 : Int) (ac4 : Int) (ac5 : Int) (ac6 : Int) (ac7 : Int) (ac8 : Int) (ac9 : Int) (ac10 : Int) (ac11 : ByteArray) (ac12 : SlV) (ac13 : SlV) (w : World) (R : Value → World → Prop) : Prop :=
 nw t_api_Ask [.int .i64 ac0, .int .i64 ac1, .int .i64 ac2, .int .i64 ac3, .int .i64 ac4, .int .i64 ac5, .int .i64 ac6, .int .i64 ac7, .int .i64 ac8, .int .i64 ac9, .int .i64 ac10, .string ac11, .slice ac12.a ac12.n ac12.c, .slice ac13.a ac13.n ac13.c] w fun p w1 =>
 ldI .i64 (Addr.add p 0) w1 fun t5 =>
 callK Pr f_ask_in [.int .i64 t5, .int .i64 (1:Int), .int .i64 (6:Int)] w1 fun v w2 =>
 asB v fun t6 =>
 ldI .i64 (Addr.add p 1) w2 fun t9 =>
 iteP t6
 (callK Pr f_ask_in [.int .i64 t9, .int .i64 (1:Int), .int .i64 (1099511627776:Int)] w2 fun v_1 w3 =>
 asB v_1 fun t10 =>
 ldI .i64 (Addr.add p 2) w3 fun t14 =>
 iteP t10
 (callK Pr f_ask_in [.int .i64 t14, .int .i64 (1:Int), .int .i64 (13:Int)] w3 fun v_2 w4 =>
 asB v_2 fun t15 =>
 ld_api_Ask p w4 fun t18f0 t18f1 t18f2 t18f3 t18f4 t18f5 t18f6 t18f7 t18f8 t18f9 t18f10 t18f11 t18f12 t18f13 =>
 iteP t15
 (callK Pr f_ask_numbers [.agg ⟨[.int .i64 t18f0, .int .i64 t18f1, .int .i64 t18f2, .int .i64 t18f3, .int .i64 t18f4, .int .i64 t18f5, .int .i64 t18f6, .int .i64 t18f7, .int .i64 t18f8, .int .i64 t18f9, .int .i64 t18f10, .string t18f11, .slice t18f12.a t18f12.n t18f12.c, .slice t18f13.a t18f13.n t18f13.c]⟩] w4 fun v_3 w5 =>
 asSl v_3 fun t19 =>
 slL 1 t19 (3:Int) fun t20 =>
 callK Pr f_slices_ContainsFunc_int_int [.slice t20.a t20.n t20.c, .func (.func f_ask_May_1) ⟨[]⟩ ⟨[]⟩] w5 fun v_4 w6 =>
 asB v_4 fun t22 =>
 ldS (Addr.add p 11) w6 fun t27 =>
 ldL (Addr.add p 12) w6 fun t33 =>
 ldL (Addr.add p 13) w6 fun t39 =>
 R (.bool ((((!t22) && (decide (((ByteArray.size t27 : Nat) : Int) ≤ (300:Int)))) && (decide (((t33.n : Nat) : Int) ≤ (2000:Int)))) && (decide (((t39.n : Nat) : Int) ≤ (100:Int))))) w6)
 (ldS (Addr.add p 11) w4 fun t27_1 =>
 ldL (Addr.add p 12) w4 fun t33_1 =>
 ldL (Addr.add p 13) w4 fun t39_1 =>
 R (.bool false) w4))
 (ld_api_Ask p w3 fun t18f0_1 t18f1_1 t18f2_1 t18f3_1 t18f4_1 t18f5_1 t18f6_1 t18f7_1 t18f8_1 t18f9_1 t18f10_1 t18f11_1 t18f12_1 t18f13_1 =>
 ldS (Addr.add p 11) w3 fun t27_2 =>
 ldL (Addr.add p 12) w3 fun t33_2 =>
 ldL (Addr.add p 13) w3 fun t39_2 =>
 R (.bool false) w3))
 (ldI .i64 (Addr.add p 2) w2 fun t14_1 =>
 ld_api_Ask p w2 fun t18f0_2 t18f1_2 t18f2_2 t18f3_2 t18f4_2 t18f5_2 t18f6_2 t18f7_2 t18f8_2 t18f9_2 t18f10_2 t18f11_2 t18f12_2 t18f13_2 =>
 ldS (Addr.add p 11) w2 fun t27_3 =>
 ldL (Addr.add p 12) w2 fun t33_3 =>
 ldL (Addr.add p 13) w2 fun t39_3 =>
 R (.bool false) w2)
theorem V_ask_May_eq (ac0 : Int) (ac1 : Int) (ac2 : Int) (ac3 : Int) (ac4 : Int) (ac5 : Int) (ac6 : Int) (ac7 : Int) (ac8 : Int) (ac9 : Int) (ac10 : Int) (ac11 : ByteArray) (ac12 : SlV) (ac13 : SlV) (w : World) (R : Value → World → Prop) : evF Pr ⟨true, true⟩ [] [] Tryd.f30 [.agg ⟨[.int .i64 ac0, .int .i64 ac1, .int .i64 ac2, .int .i64 ac3, .int .i64 ac4, .int .i64 ac5, .int .i64 ac6, .int .i64 ac7, .int .i64 ac8, .int .i64 ac9, .int .i64 ac10, .string ac11, .slice ac12.a ac12.n ac12.c, .slice ac13.a ac13.n ac13.c]⟩] w R = V_ask_May ac0 ac1 ac2 ac3 ac4 ac5 ac6 ac7 ac8 ac9 ac10 ac11 ac12 ac13 w R := by kernel_rfl
theorem V_ask_May_of {ac0 : Int} {ac1 : Int} {ac2 : Int} {ac3 : Int} {ac4 : Int} {ac5 : Int} {ac6 : Int} {ac7 : Int} {ac8 : Int} {ac9 : Int} {ac10 : Int} {ac11 : ByteArray} {ac12 : SlV} {ac13 : SlV} {w : World} {R : Value → World → Prop} (h : V_ask_May ac0 ac1 ac2 ac3 ac4 ac5 ac6 ac7 ac8 ac9 ac10 ac11 ac12 ac13 w R) : Ok Pr f_ask_May [.agg ⟨[.int .i64 ac0, .int .i64 ac1, .int .i64 ac2, .int .i64 ac3, .int .i64 ac4, .int .i64 ac5, .int .i64 ac6, .int .i64 ac7, .int .i64 ac8, .int .i64 ac9, .int .i64 ac10, .string ac11, .slice ac12.a ac12.n ac12.c, .slice ac13.a ac13.n ac13.c]⟩] w R :=
  have g := (V_ask_May_eq ac0 ac1 ac2 ac3 ac4 ac5 ac6 ac7 ac8 ac9 ac10 ac11 ac12 ac13 w R).mpr h
  evF_ok good Tryd.func30 (by kernel_rfl) g

def V_ref15_May (ac0 : Int) (ac1 : Int) (ac2 : Int) (ac3 : Int) (ac4 : Int) (ac5 : Int) (ac6 : Int) (ac7 : Int) (ac8 : Int) (ac9 : Int) (ac10 : Int) (ac11 : ByteArray) (ac12 : SlV) (ac13 : SlV) (w : World) (R : Value → World → Prop) : Prop :=
 nw t_api_Ask [.int .i64 ac0, .int .i64 ac1, .int .i64 ac2, .int .i64 ac3, .int .i64 ac4, .int .i64 ac5, .int .i64 ac6, .int .i64 ac7, .int .i64 ac8, .int .i64 ac9, .int .i64 ac10, .string ac11, .slice ac12.a ac12.n ac12.c, .slice ac13.a ac13.n ac13.c] w fun p w1 =>
 ld_api_Ask p w1 fun t5f0 t5f1 t5f2 t5f3 t5f4 t5f5 t5f6 t5f7 t5f8 t5f9 t5f10 t5f11 t5f12 t5f13 =>
 callK Pr f_ref15_Numbers [.agg ⟨[.int .i64 t5f0, .int .i64 t5f1, .int .i64 t5f2, .int .i64 t5f3, .int .i64 t5f4, .int .i64 t5f5, .int .i64 t5f6, .int .i64 t5f7, .int .i64 t5f8, .int .i64 t5f9, .int .i64 t5f10, .string t5f11, .slice t5f12.a t5f12.n t5f12.c, .slice t5f13.a t5f13.n t5f13.c]⟩] w1 fun v w2 =>
 asSl v fun t6 =>
 loop1 (fun (i : Int) => [(4, some (.int .i64 i))])
 (fun again i w3 => iteP (decide (i < ((t6.n : Nat) : Int)))
 (idxS t6.a i t6.n
 (ldI .i64 (Addr.add (base t6.a) (Int.toNat i * 1)) w3 fun t16 =>
 iteP (decide (t16 < (0:Int)))
 (R (.bool false) w3)
 (idxS t6.a i t6.n
 (ldI .i64 (Addr.add (base t6.a) (Int.toNat i * 1)) w3 fun t22 =>
 iteP (decide ((1099511627776:Int) < t22))
 (R (.bool false) w3)
 ((I64 (i + (1:Int)) ∧
 again (i + (1:Int)) w3))))))
 (ldI .i64 (Addr.add p 0) w3 fun t26 =>
 ldI .i64 (Addr.add p 0) w3 fun t30 =>
 ldI .i64 (Addr.add p 1) w3 fun t35 =>
 ldI .i64 (Addr.add p 1) w3 fun t40 =>
 ldI .i64 (Addr.add p 2) w3 fun t45 =>
 ldI .i64 (Addr.add p 2) w3 fun t50 =>
 ldS (Addr.add p 11) w3 fun t55 =>
 ldL (Addr.add p 12) w3 fun t61 =>
 ldL (Addr.add p 13) w3 fun t67 =>
 R (.bool (((((((((decide ((1:Int) ≤ t26)) && (decide (t30 ≤ (6:Int)))) && (decide ((1:Int) ≤ t35))) && (decide (t40 ≤ (1099511627776:Int)))) && (decide ((1:Int) ≤ t45))) && (decide (t50 ≤ (13:Int)))) && (decide (((ByteArray.size t55 : Nat) : Int) ≤ (300:Int)))) && (decide (((t61.n : Nat) : Int) ≤ (2000:Int)))) && (decide (((t67.n : Nat) : Int) ≤ (100:Int))))) w3))
 (0:Int) w2
theorem V_ref15_May_eq (ac0 : Int) (ac1 : Int) (ac2 : Int) (ac3 : Int) (ac4 : Int) (ac5 : Int) (ac6 : Int) (ac7 : Int) (ac8 : Int) (ac9 : Int) (ac10 : Int) (ac11 : ByteArray) (ac12 : SlV) (ac13 : SlV) (w : World) (R : Value → World → Prop) : evF Pr ⟨true, true⟩ [] [(3, [(4, .int .i64)])] Tryd.f31 [.agg ⟨[.int .i64 ac0, .int .i64 ac1, .int .i64 ac2, .int .i64 ac3, .int .i64 ac4, .int .i64 ac5, .int .i64 ac6, .int .i64 ac7, .int .i64 ac8, .int .i64 ac9, .int .i64 ac10, .string ac11, .slice ac12.a ac12.n ac12.c, .slice ac13.a ac13.n ac13.c]⟩] w R = V_ref15_May ac0 ac1 ac2 ac3 ac4 ac5 ac6 ac7 ac8 ac9 ac10 ac11 ac12 ac13 w R := by kernel_rfl
theorem V_ref15_May_of {ac0 : Int} {ac1 : Int} {ac2 : Int} {ac3 : Int} {ac4 : Int} {ac5 : Int} {ac6 : Int} {ac7 : Int} {ac8 : Int} {ac9 : Int} {ac10 : Int} {ac11 : ByteArray} {ac12 : SlV} {ac13 : SlV} {w : World} {R : Value → World → Prop} (h : V_ref15_May ac0 ac1 ac2 ac3 ac4 ac5 ac6 ac7 ac8 ac9 ac10 ac11 ac12 ac13 w R) : Ok Pr f_ref15_May [.agg ⟨[.int .i64 ac0, .int .i64 ac1, .int .i64 ac2, .int .i64 ac3, .int .i64 ac4, .int .i64 ac5, .int .i64 ac6, .int .i64 ac7, .int .i64 ac8, .int .i64 ac9, .int .i64 ac10, .string ac11, .slice ac12.a ac12.n ac12.c, .slice ac13.a ac13.n ac13.c]⟩] w R :=
  have g := (V_ref15_May_eq ac0 ac1 ac2 ac3 ac4 ac5 ac6 ac7 ac8 ac9 ac10 ac11 ac12 ac13 w R).mpr h
  evF_ok good Tryd.func31 (by kernel_rfl) g

def V_ask_Same (ac0 : Int) (ac1 : Int) (ac2 : Int) (ac3 : Int) (ac4 : Int) (ac5 : Int) (ac6 : Int) (ac7 : Int) (ac8 : Int) (ac9 : Int) (ac10 : Int) (ac11 : ByteArray) (ac12 : SlV) (ac13 : SlV) (bc0 : Int) (bc1 : Int) (bc2 : Int) (bc3 : Int) (bc4 : Int) (bc5 : Int) (bc6 : Int) (bc7 : Int) (bc8 : Int) (bc9 : Int) (bc10 : Int) (bc11 : ByteArray) (bc12 : SlV) (bc13 : SlV) (w : World) (R : Value → World → Prop) : Prop :=
 nw t_api_Ask [.int .i64 ac0, .int .i64 ac1, .int .i64 ac2, .int .i64 ac3, .int .i64 ac4, .int .i64 ac5, .int .i64 ac6, .int .i64 ac7, .int .i64 ac8, .int .i64 ac9, .int .i64 ac10, .string ac11, .slice ac12.a ac12.n ac12.c, .slice ac13.a ac13.n ac13.c] w fun p w1 =>
 nw t_api_Ask [.int .i64 bc0, .int .i64 bc1, .int .i64 bc2, .int .i64 bc3, .int .i64 bc4, .int .i64 bc5, .int .i64 bc6, .int .i64 bc7, .int .i64 bc8, .int .i64 bc9, .int .i64 bc10, .string bc11, .slice bc12.a bc12.n bc12.c, .slice bc13.a bc13.n bc13.c] w1 fun p_1 w2 =>
 ld_api_Ask p (World.drew w2) fun t5f0 t5f1 t5f2 t5f3 t5f4 t5f5 t5f6 t5f7 t5f8 t5f9 t5f10 t5f11 t5f12 t5f13 =>
 ld_api_Ask p_1 (World.drew w2) fun t7f0 t7f1 t7f2 t7f3 t7f4 t7f5 t7f6 t7f7 t7f8 t7f9 t7f10 t7f11 t7f12 t7f13 =>
 callK Pr f_ask_numbers [.agg ⟨[.int .i64 t5f0, .int .i64 t5f1, .int .i64 t5f2, .int .i64 t5f3, .int .i64 t5f4, .int .i64 t5f5, .int .i64 t5f6, .int .i64 t5f7, .int .i64 t5f8, .int .i64 t5f9, .int .i64 t5f10, .string t5f11, .slice t5f12.a t5f12.n t5f12.c, .slice t5f13.a t5f13.n t5f13.c]⟩] (World.drew w2) fun v w3 =>
 asSl v fun t6 =>
 (kept p_1 14 (World.drew w2) w3 ∧
 callK Pr f_ask_numbers [.agg ⟨[.int .i64 t7f0, .int .i64 t7f1, .int .i64 t7f2, .int .i64 t7f3, .int .i64 t7f4, .int .i64 t7f5, .int .i64 t7f6, .int .i64 t7f7, .int .i64 t7f8, .int .i64 t7f9, .int .i64 t7f10, .string t7f11, .slice t7f12.a t7f12.n t7f12.c, .slice t7f13.a t7f13.n t7f13.c]⟩] w3 fun v_1 w4 =>
 asSl v_1 fun t8 =>
 callK Pr f_slices_Equal_int_int [.slice t6.a t6.n t6.c, .slice t8.a t8.n t8.c] w4 fun v_2 w5 =>
 asB v_2 fun t9 =>
 ldS (Addr.add p 11) w5 fun t12 =>
 ldS (Addr.add p_1 11) w5 fun t14 =>
 ldL (Addr.add p 12) w5 fun t19 =>
 ldL (Addr.add p_1 12) w5 fun t21 =>
 iteP (t9 && (decide (t12 = t14)))
 (callK Pr f_bytes_Equal [.slice t19.a t19.n t19.c, .slice t21.a t21.n t21.c] w5 fun v_3 w6 =>
 asB v_3 fun t22 =>
 ldL (Addr.add p 13) w6 fun t26 =>
 ldL (Addr.add p_1 13) w6 fun t28 =>
 iteP t22
 (callK Pr f_bytes_Equal [.slice t26.a t26.n t26.c, .slice t28.a t28.n t28.c] w6 fun v_4 w7 =>
 asB v_4 fun t29 =>
 R (.bool t29) w7)
 (R (.bool false) w6))
 (ldL (Addr.add p 13) w5 fun t26_1 =>
 ldL (Addr.add p_1 13) w5 fun t28_1 =>
 R (.bool false) w5))
theorem V_ask_Same_eq (ac0 : Int) (ac1 : Int) (ac2 : Int) (ac3 : Int) (ac4 : Int) (ac5 : Int) (ac6 : Int) (ac7 : Int) (ac8 : Int) (ac9 : Int) (ac10 : Int) (ac11 : ByteArray) (ac12 : SlV) (ac13 : SlV) (bc0 : Int) (bc1 : Int) (bc2 : Int) (bc3 : Int) (bc4 : Int) (bc5 : Int) (bc6 : Int) (bc7 : Int) (bc8 : Int) (bc9 : Int) (bc10 : Int) (bc11 : ByteArray) (bc12 : SlV) (bc13 : SlV) (w : World) (R : Value → World → Prop) : evF Pr ⟨true, true⟩ [] [] Tryd.f32 [.agg ⟨[.int .i64 ac0, .int .i64 ac1, .int .i64 ac2, .int .i64 ac3, .int .i64 ac4, .int .i64 ac5, .int .i64 ac6, .int .i64 ac7, .int .i64 ac8, .int .i64 ac9, .int .i64 ac10, .string ac11, .slice ac12.a ac12.n ac12.c, .slice ac13.a ac13.n ac13.c]⟩, .agg ⟨[.int .i64 bc0, .int .i64 bc1, .int .i64 bc2, .int .i64 bc3, .int .i64 bc4, .int .i64 bc5, .int .i64 bc6, .int .i64 bc7, .int .i64 bc8, .int .i64 bc9, .int .i64 bc10, .string bc11, .slice bc12.a bc12.n bc12.c, .slice bc13.a bc13.n bc13.c]⟩] w R = V_ask_Same ac0 ac1 ac2 ac3 ac4 ac5 ac6 ac7 ac8 ac9 ac10 ac11 ac12 ac13 bc0 bc1 bc2 bc3 bc4 bc5 bc6 bc7 bc8 bc9 bc10 bc11 bc12 bc13 w R := by kernel_rfl
theorem V_ask_Same_of {ac0 : Int} {ac1 : Int} {ac2 : Int} {ac3 : Int} {ac4 : Int} {ac5 : Int} {ac6 : Int} {ac7 : Int} {ac8 : Int} {ac9 : Int} {ac10 : Int} {ac11 : ByteArray} {ac12 : SlV} {ac13 : SlV} {bc0 : Int} {bc1 : Int} {bc2 : Int} {bc3 : Int} {bc4 : Int} {bc5 : Int} {bc6 : Int} {bc7 : Int} {bc8 : Int} {bc9 : Int} {bc10 : Int} {bc11 : ByteArray} {bc12 : SlV} {bc13 : SlV} {w : World} {R : Value → World → Prop} (h : V_ask_Same ac0 ac1 ac2 ac3 ac4 ac5 ac6 ac7 ac8 ac9 ac10 ac11 ac12 ac13 bc0 bc1 bc2 bc3 bc4 bc5 bc6 bc7 bc8 bc9 bc10 bc11 bc12 bc13 w R) : Ok Pr f_ask_Same [.agg ⟨[.int .i64 ac0, .int .i64 ac1, .int .i64 ac2, .int .i64 ac3, .int .i64 ac4, .int .i64 ac5, .int .i64 ac6, .int .i64 ac7, .int .i64 ac8, .int .i64 ac9, .int .i64 ac10, .string ac11, .slice ac12.a ac12.n ac12.c, .slice ac13.a ac13.n ac13.c]⟩, .agg ⟨[.int .i64 bc0, .int .i64 bc1, .int .i64 bc2, .int .i64 bc3, .int .i64 bc4, .int .i64 bc5, .int .i64 bc6, .int .i64 bc7, .int .i64 bc8, .int .i64 bc9, .int .i64 bc10, .string bc11, .slice bc12.a bc12.n bc12.c, .slice bc13.a bc13.n bc13.c]⟩] w R :=
  have g := (V_ask_Same_eq ac0 ac1 ac2 ac3 ac4 ac5 ac6 ac7 ac8 ac9 ac10 ac11 ac12 ac13 bc0 bc1 bc2 bc3 bc4 bc5 bc6 bc7 bc8 bc9 bc10 bc11 bc12 bc13 w R).mpr h
  evF_ok good Tryd.func32 (by kernel_rfl) g

def V_sign_Sizes (setv : Int) (w : World) (R : Value → World → Prop) : Prop :=
 callK Pr f_lay_Sizes [.int .i64 setv] w fun v w1 =>
 destr.asArr' v fun vs =>
 uncons vs fun v_1 r =>
 asI .i64 v_1 fun t6 =>
 uncons r fun v_2 r_1 =>
 asI .i64 v_2 fun t6_1 =>
 uncons r_1 fun v_3 r_2 =>
 asI .i64 v_3 fun t6_2 =>
 (r_2 = [] ∧
 R (.tuple ⟨[.int .i64 t6, .int .i64 t6_1, .int .i64 t6_2]⟩) w1)
theorem V_sign_Sizes_eq (setv : Int) (w : World) (R : Value → World → Prop) : evF Pr ⟨true, true⟩ [] [] Tryd.f34 [.int .i64 setv] w R = V_sign_Sizes setv w R := by kernel_rfl
theorem V_sign_Sizes_of {setv : Int} {w : World} {R : Value → World → Prop} (h : V_sign_Sizes setv w R) : Ok Pr f_sign_Sizes [.int .i64 setv] w R :=
  have g := (V_sign_Sizes_eq setv w R).mpr h
  evF_ok good Tryd.func34 (by kernel_rfl) g

def V_ask_Read (b : SlV) (w : World) (R : Value → World → Prop) : Prop :=
 nw t_api_Ask (zc Pr t_api_Ask) w fun p w1 =>
 callK Pr f_sign_Sizes [.int .i64 (1:Int)] w1 fun v w2 =>
 destr.asArr' v fun vs =>
 uncons vs fun v_1 r =>
 asI .i64 v_1 fun t13 =>
 uncons r fun v_2 r_1 =>
 asI .i64 v_2 fun t13_1 =>
 uncons r_1 fun v_3 r_2 =>
 asI .i64 v_3 fun t13_2 =>
 (r_2 = [] ∧
 iteP ((decide (((b.n : Nat) : Int) < t13_2)) || (decide ((6000:Int) < ((b.n : Nat) : Int))))
 (callK Pr f_ask_fault [.int .i64 (3:Int)] w2 fun v_4 w3 =>
 sT_api_Ask p (0:Int) (0:Int) (0:Int) (0:Int) (0:Int) (0:Int) (0:Int) (0:Int) (0:Int) (0:Int) (0:Int) S_empty ⟨none, 0, 0⟩ ⟨none, 0, 0⟩ w3 fun w4 =>
 ld_api_Ask p w4 fun resf0 resf1 resf2 resf3 resf4 resf5 resf6 resf7 resf8 resf9 resf10 resf11 resf12 resf13 =>
 R (.tuple ⟨[.agg ⟨[.int .i64 resf0, .int .i64 resf1, .int .i64 resf2, .int .i64 resf3, .int .i64 resf4, .int .i64 resf5, .int .i64 resf6, .int .i64 resf7, .int .i64 resf8, .int .i64 resf9, .int .i64 resf10, .string resf11, .slice resf12.a resf12.n resf12.c, .slice resf13.a resf13.n resf13.c]⟩, .slice none 0 0, .slice none 0 0, v_4]⟩) w4)
 (callK Pr f_slices_Clone_byte_byte [.slice b.a b.n b.c] w2 fun v_5 w5 =>
 asSl v_5 fun t29 =>
 (I64 (((t29.n : Nat) : Int) - t13_2) ∧
 lt (A := Int) (((t29.n : Nat) : Int) - t13_2) fun cut =>
 slH t29 cut fun t37 =>
 callK Pr f_ask_read [.slice t37.a t37.n t37.c] w5 fun v_6 w6 =>
 destr.asArr' v_6 fun vs_1 =>
 uncons vs_1 fun v_7 r_3 =>
 as_api_Ask v_7 fun t38 t38_1 t38_2 t38_3 t38_4 t38_5 t38_6 t38_7 t38_8 t38_9 t38_10 t38_11 t38_12 t38_13 =>
 uncons r_3 fun v_8 r_4 =>
 asB v_8 fun t38_14 =>
 (r_4 = [] ∧
 nw t_api_Ask (zc Pr t_api_Ask) w6 fun p_1 w7 =>
 sT_api_Ask p_1 t38 t38_1 t38_2 t38_3 t38_4 t38_5 t38_6 t38_7 t38_8 t38_9 t38_10 t38_11 t38_12 t38_13 w7 fun w8 =>
 iteP (!t38_14)
 (callK Pr f_ask_fault [.int .i64 (4:Int)] w8 fun v_9 w9 =>
 sT_api_Ask p (0:Int) (0:Int) (0:Int) (0:Int) (0:Int) (0:Int) (0:Int) (0:Int) (0:Int) (0:Int) (0:Int) S_empty ⟨none, 0, 0⟩ ⟨none, 0, 0⟩ w9 fun w10 =>
 ld_api_Ask p w10 fun resf0_1 resf1_1 resf2_1 resf3_1 resf4_1 resf5_1 resf6_1 resf7_1 resf8_1 resf9_1 resf10_1 resf11_1 resf12_1 resf13_1 =>
 R (.tuple ⟨[.agg ⟨[.int .i64 resf0_1, .int .i64 resf1_1, .int .i64 resf2_1, .int .i64 resf3_1, .int .i64 resf4_1, .int .i64 resf5_1, .int .i64 resf6_1, .int .i64 resf7_1, .int .i64 resf8_1, .int .i64 resf9_1, .int .i64 resf10_1, .string resf11_1, .slice resf12_1.a resf12_1.n resf12_1.c, .slice resf13_1.a resf13_1.n resf13_1.c]⟩, .slice none 0 0, .slice none 0 0, v_9]⟩) w10)
 (ld_api_Ask p_1 (World.drew w8) fun t45f0 t45f1 t45f2 t45f3 t45f4 t45f5 t45f6 t45f7 t45f8 t45f9 t45f10 t45f11 t45f12 t45f13 =>
 slHM t29 cut cut fun t49 =>
 slL 1 t29 cut fun t52 =>
 sT_api_Ask p t45f0 t45f1 t45f2 t45f3 t45f4 t45f5 t45f6 t45f7 t45f8 t45f9 t45f10 t45f11 t45f12 t45f13 (World.drew w8) fun w11 =>
 ld_api_Ask p w11 fun resf0_2 resf1_2 resf2_2 resf3_2 resf4_2 resf5_2 resf6_2 resf7_2 resf8_2 resf9_2 resf10_2 resf11_2 resf12_2 resf13_2 =>
 R (.tuple ⟨[.agg ⟨[.int .i64 resf0_2, .int .i64 resf1_2, .int .i64 resf2_2, .int .i64 resf3_2, .int .i64 resf4_2, .int .i64 resf5_2, .int .i64 resf6_2, .int .i64 resf7_2, .int .i64 resf8_2, .int .i64 resf9_2, .int .i64 resf10_2, .string resf11_2, .slice resf12_2.a resf12_2.n resf12_2.c, .slice resf13_2.a resf13_2.n resf13_2.c]⟩, .slice t49.a t49.n t49.c, .slice t52.a t52.n t52.c, .nilIface]⟩) w11)))))
theorem V_ask_Read_eq (b : SlV) (w : World) (R : Value → World → Prop) : evF Pr ⟨true, true⟩ [] [] Tryd.f35 [.slice b.a b.n b.c] w R = V_ask_Read b w R := by kernel_rfl
theorem V_ask_Read_of {b : SlV} {w : World} {R : Value → World → Prop} (h : V_ask_Read b w R) : Ok Pr f_ask_Read [.slice b.a b.n b.c] w R :=
  have g := (V_ask_Read_eq b w R).mpr h
  evF_ok good Tryd.func35 (by kernel_rfl) g

def V_ref15_Read (b : SlV) (w : World) (R : Value → World → Prop) : Prop :=
 nw t_api_Ask (zc Pr t_api_Ask) w fun p w1 =>
 callK Pr f_ref11_Sizes [.int .i64 (1:Int)] w1 fun v w2 =>
 destr.asArr' v fun vs =>
 uncons vs fun v_1 r =>
 asI .i64 v_1 fun t14 =>
 uncons r fun v_2 r_1 =>
 asI .i64 v_2 fun t14_1 =>
 uncons r_1 fun v_3 r_2 =>
 asI .i64 v_3 fun t14_2 =>
 (r_2 = [] ∧
 iteP ((decide (((b.n : Nat) : Int) < t14_2)) || (decide ((6000:Int) < ((b.n : Nat) : Int))))
 (sT_api_Ask p (0:Int) (0:Int) (0:Int) (0:Int) (0:Int) (0:Int) (0:Int) (0:Int) (0:Int) (0:Int) (0:Int) S_empty ⟨none, 0, 0⟩ ⟨none, 0, 0⟩ w2 fun w3 =>
 ld_api_Ask p w3 fun resf0 resf1 resf2 resf3 resf4 resf5 resf6 resf7 resf8 resf9 resf10 resf11 resf12 resf13 =>
 R (.tuple ⟨[.agg ⟨[.int .i64 resf0, .int .i64 resf1, .int .i64 resf2, .int .i64 resf3, .int .i64 resf4, .int .i64 resf5, .int .i64 resf6, .int .i64 resf7, .int .i64 resf8, .int .i64 resf9, .int .i64 resf10, .string resf11, .slice resf12.a resf12.n resf12.c, .slice resf13.a resf13.n resf13.c]⟩, .slice none 0 0, .slice none 0 0, .int .i64 (3:Int)]⟩) w3)
 ((I64 (((b.n : Nat) : Int) - t14_2) ∧
 slH b (((b.n : Nat) : Int) - t14_2) fun t33 =>
 (I64 (((b.n : Nat) : Int) - t14_2) ∧
 slL 1 b (((b.n : Nat) : Int) - t14_2) fun t39 =>
 nw t_ref14_Reader [.slice t33.a t33.n t33.c, .bool false] (World.drew w2) fun p_1 w4 =>
 callK Pr f_ref15_Take [.pointer (some p_1), .int .i64 (0:Int), .int .i64 (1099511627776:Int)] w4 fun v_4 w5 =>
 as_api_Ask v_4 fun t44 t44_1 t44_2 t44_3 t44_4 t44_5 t44_6 t44_7 t44_8 t44_9 t44_10 t44_11 t44_12 t44_13 =>
 nw t_api_Ask (zc Pr t_api_Ask) w5 fun p_2 w6 =>
 sT_api_Ask p_2 t44 t44_1 t44_2 t44_3 t44_4 t44_5 t44_6 t44_7 t44_8 t44_9 t44_10 t44_11 t44_12 t44_13 w6 fun w7 =>
 join0 []
 (fun w8 => ld_api_Ask p_2 (World.drew w8) fun t54f0 t54f1 t54f2 t54f3 t54f4 t54f5 t54f6 t54f7 t54f8 t54f9 t54f10 t54f11 t54f12 t54f13 =>
 appK Pr [t_s_uint8, t_s_uint8] t_s_uint8 [.slice none 0 0, .slice t33.a t33.n t33.c] (World.drew w8) fun t56 w9 =>
 (kept p_2 14 (World.drew w8) w9 ∧
 appK Pr [t_s_uint8, t_s_uint8] t_s_uint8 [.slice none 0 0, .slice t39.a t39.n t39.c] w9 fun t58 w10 =>
 (kept p_2 14 w9 w10 ∧
 sT_api_Ask p t54f0 t54f1 t54f2 t54f3 t54f4 t54f5 t54f6 t54f7 t54f8 t54f9 t54f10 t54f11 t54f12 t54f13 w10 fun w11 =>
 ld_api_Ask p w11 fun resf0_1 resf1_1 resf2_1 resf3_1 resf4_1 resf5_1 resf6_1 resf7_1 resf8_1 resf9_1 resf10_1 resf11_1 resf12_1 resf13_1 =>
 R (.tuple ⟨[.agg ⟨[.int .i64 resf0_1, .int .i64 resf1_1, .int .i64 resf2_1, .int .i64 resf3_1, .int .i64 resf4_1, .int .i64 resf5_1, .int .i64 resf6_1, .int .i64 resf7_1, .int .i64 resf8_1, .int .i64 resf9_1, .int .i64 resf10_1, .string resf11_1, .slice resf12_1.a resf12_1.n resf12_1.c, .slice resf13_1.a resf13_1.n resf13_1.c]⟩, .slice t56.a t56.n t56.c, .slice t58.a t58.n t58.c, .int .i64 (0:Int)]⟩) w11)))
 (fun go =>
 join1 (fun (t52 : Bool) => [(52, some (.bool t52))])
 (fun t52 w12 => iteP t52
 (sT_api_Ask p (0:Int) (0:Int) (0:Int) (0:Int) (0:Int) (0:Int) (0:Int) (0:Int) (0:Int) (0:Int) (0:Int) S_empty ⟨none, 0, 0⟩ ⟨none, 0, 0⟩ w12 fun w13 =>
 ld_api_Ask p w13 fun resf0_2 resf1_2 resf2_2 resf3_2 resf4_2 resf5_2 resf6_2 resf7_2 resf8_2 resf9_2 resf10_2 resf11_2 resf12_2 resf13_2 =>
 R (.tuple ⟨[.agg ⟨[.int .i64 resf0_2, .int .i64 resf1_2, .int .i64 resf2_2, .int .i64 resf3_2, .int .i64 resf4_2, .int .i64 resf5_2, .int .i64 resf6_2, .int .i64 resf7_2, .int .i64 resf8_2, .int .i64 resf9_2, .int .i64 resf10_2, .string resf11_2, .slice resf12_2.a resf12_2.n resf12_2.c, .slice resf13_2.a resf13_2.n resf13_2.c]⟩, .slice none 0 0, .slice none 0 0, .int .i64 (4:Int)]⟩) w13)
 (go w12))
 (fun go_1 =>
 callK Pr f_ref14_Reader_End [.pointer (some p_1)] w7 fun v_5 w14 =>
 asI .i64 v_5 fun t46 =>
 ld_api_Ask p_2 w14 fun t49f0 t49f1 t49f2 t49f3 t49f4 t49f5 t49f6 t49f7 t49f8 t49f9 t49f10 t49f11 t49f12 t49f13 =>
 iteP (!decide (t46 = (0:Int)))
 (go_1 true w14)
 (callK Pr f_ref15_May [.agg ⟨[.int .i64 t49f0, .int .i64 t49f1, .int .i64 t49f2, .int .i64 t49f3, .int .i64 t49f4, .int .i64 t49f5, .int .i64 t49f6, .int .i64 t49f7, .int .i64 t49f8, .int .i64 t49f9, .int .i64 t49f10, .string t49f11, .slice t49f12.a t49f12.n t49f12.c, .slice t49f13.a t49f13.n t49f13.c]⟩] w14 fun v_6 w15 =>
 asB v_6 fun t50 =>
 go_1 (!t50) w15)))))))
theorem V_ref15_Read_eq (b : SlV) (w : World) (R : Value → World → Prop) : evF Pr ⟨true, true⟩ [(9, []), (8, [(52, .bool)])] [] Tryd.f36 [.slice b.a b.n b.c] w R = V_ref15_Read b w R := by kernel_rfl
theorem V_ref15_Read_of {b : SlV} {w : World} {R : Value → World → Prop} (h : V_ref15_Read b w R) : Ok Pr f_ref15_Read [.slice b.a b.n b.c] w R :=
  have g := (V_ref15_Read_eq b w R).mpr h
  evF_ok good Tryd.func36 (by kernel_rfl) g

def V_law15_one (w : World) (R : Value → World → Prop) : Prop :=
 nw t_api_Ask (zc Pr t_api_Ask) w fun p w1 =>
 sT_api_Ask p (1:Int) (2:Int) (9:Int) (0:Int) (1:Int) (0:Int) (0:Int) (0:Int) (0:Int) (0:Int) (0:Int) S_empty ⟨none, 0, 0⟩ ⟨none, 0, 0⟩ w1 fun w2 =>
 ld_api_Ask p w2 fun resf0 resf1 resf2 resf3 resf4 resf5 resf6 resf7 resf8 resf9 resf10 resf11 resf12 resf13 =>
 R (.agg ⟨[.int .i64 resf0, .int .i64 resf1, .int .i64 resf2, .int .i64 resf3, .int .i64 resf4, .int .i64 resf5, .int .i64 resf6, .int .i64 resf7, .int .i64 resf8, .int .i64 resf9, .int .i64 resf10, .string resf11, .slice resf12.a resf12.n resf12.c, .slice resf13.a resf13.n resf13.c]⟩) w2
theorem V_law15_one_eq (w : World) (R : Value → World → Prop) : evF Pr ⟨true, true⟩ [] [] Tryd.f68 [] w R = V_law15_one w R := by kernel_rfl
theorem V_law15_one_of {w : World} {R : Value → World → Prop} (h : V_law15_one w R) : Ok Pr f_law15_one [] w R :=
  have g := (V_law15_one_eq w R).mpr h
  evF_ok good Tryd.func68 (by kernel_rfl) g

def V_ask_fault (code : Int) (w : World) (R : Value → World → Prop) : Prop :=
 nw t_api_Fault [.int .i64 code, .string S_ask] w fun p w1 =>
 R (.iface t_p_api_Fault (.pointer (some p))) w1
theorem V_ask_fault_eq (code : Int) (w : World) (R : Value → World → Prop) : evF Pr ⟨true, true⟩ [] [] Tryd.f69 [.int .i64 code] w R = V_ask_fault code w R := by kernel_rfl
theorem V_ask_fault_of {code : Int} {w : World} {R : Value → World → Prop} (h : V_ask_fault code w R) : Ok Pr f_ask_fault [.int .i64 code] w R :=
  have g := (V_ask_fault_eq code w R).mpr h
  evF_ok good Tryd.func69 (by kernel_rfl) g

def V_ask_numbers (ac0 : Int) (ac1 : Int) (ac2 : Int) (ac3 : Int) (ac4 : Int) (ac5 : Int) (ac6 : Int) (ac7 : Int) (ac8 : Int) (ac9 : Int) (ac10 : Int) (ac11 : ByteArray) (ac12 : SlV) (ac13 : SlV) (w : World) (R : Value → World → Prop) : Prop :=
 nw t_api_Ask [.int .i64 ac0, .int .i64 ac1, .int .i64 ac2, .int .i64 ac3, .int .i64 ac4, .int .i64 ac5, .int .i64 ac6, .int .i64 ac7, .int .i64 ac8, .int .i64 ac9, .int .i64 ac10, .string ac11, .slice ac12.a ac12.n ac12.c, .slice ac13.a ac13.n ac13.c] w fun p w1 =>
 ldI .i64 (Addr.add p 0) w1 fun t4 =>
 ldI .i64 (Addr.add p 1) w1 fun t6 =>
 ldI .i64 (Addr.add p 2) w1 fun t8 =>
 ldI .i64 (Addr.add p 3) w1 fun t10 =>
 ldI .i64 (Addr.add p 4) w1 fun t12 =>
 ldI .i64 (Addr.add p 5) w1 fun t14 =>
 ldI .i64 (Addr.add p 6) w1 fun t16 =>
 ldI .i64 (Addr.add p 7) w1 fun t18 =>
 ldI .i64 (Addr.add p 8) w1 fun t20 =>
 ldI .i64 (Addr.add p 9) w1 fun t22 =>
 ldI .i64 (Addr.add p 10) w1 fun t24 =>
 nw t_int [.int .i64 t4, .int .i64 t6, .int .i64 t8, .int .i64 t10, .int .i64 t12, .int .i64 t14, .int .i64 t16, .int .i64 t18, .int .i64 t20, .int .i64 t22, .int .i64 t24] w1 fun p_1 w2 =>
 R (.slice (some p_1) 11 11) w2
theorem V_ask_numbers_eq (ac0 : Int) (ac1 : Int) (ac2 : Int) (ac3 : Int) (ac4 : Int) (ac5 : Int) (ac6 : Int) (ac7 : Int) (ac8 : Int) (ac9 : Int) (ac10 : Int) (ac11 : ByteArray) (ac12 : SlV) (ac13 : SlV) (w : World) (R : Value → World → Prop) : evF Pr ⟨true, true⟩ [] [] Tryd.f73 [.agg ⟨[.int .i64 ac0, .int .i64 ac1, .int .i64 ac2, .int .i64 ac3, .int .i64 ac4, .int .i64 ac5, .int .i64 ac6, .int .i64 ac7, .int .i64 ac8, .int .i64 ac9, .int .i64 ac10, .string ac11, .slice ac12.a ac12.n ac12.c, .slice ac13.a ac13.n ac13.c]⟩] w R = V_ask_numbers ac0 ac1 ac2 ac3 ac4 ac5 ac6 ac7 ac8 ac9 ac10 ac11 ac12 ac13 w R := by kernel_rfl
theorem V_ask_numbers_of {ac0 : Int} {ac1 : Int} {ac2 : Int} {ac3 : Int} {ac4 : Int} {ac5 : Int} {ac6 : Int} {ac7 : Int} {ac8 : Int} {ac9 : Int} {ac10 : Int} {ac11 : ByteArray} {ac12 : SlV} {ac13 : SlV} {w : World} {R : Value → World → Prop} (h : V_ask_numbers ac0 ac1 ac2 ac3 ac4 ac5 ac6 ac7 ac8 ac9 ac10 ac11 ac12 ac13 w R) : Ok Pr f_ask_numbers [.agg ⟨[.int .i64 ac0, .int .i64 ac1, .int .i64 ac2, .int .i64 ac3, .int .i64 ac4, .int .i64 ac5, .int .i64 ac6, .int .i64 ac7, .int .i64 ac8, .int .i64 ac9, .int .i64 ac10, .string ac11, .slice ac12.a ac12.n ac12.c, .slice ac13.a ac13.n ac13.c]⟩] w R :=
  have g := (V_ask_numbers_eq ac0 ac1 ac2 ac3 ac4 ac5 ac6 ac7 ac8 ac9 ac10 ac11 ac12 ac13 w R).mpr h
  evF_ok good Tryd.func73 (by kernel_rfl) g

def V_ref15_Laid (ac0 : Int) (ac1 : Int) (ac2 : Int) (ac3 : Int) (ac4 : Int) (ac5 : Int) (ac6 : Int) (ac7 : Int) (ac8 : Int) (ac9 : Int) (ac10 : Int) (ac11 : ByteArray) (ac12 : SlV) (ac13 : SlV) (w : World) (R : Value → World → Prop) : Prop :=
 nw t_api_Ask [.int .i64 ac0, .int .i64 ac1, .int .i64 ac2, .int .i64 ac3, .int .i64 ac4, .int .i64 ac5, .int .i64 ac6, .int .i64 ac7, .int .i64 ac8, .int .i64 ac9, .int .i64 ac10, .string ac11, .slice ac12.a ac12.n ac12.c, .slice ac13.a ac13.n ac13.c] w fun p w1 =>
 ldI .i64 (Addr.add p 0) w1 fun t5 =>
 ldI .i64 (Addr.add p 1) w1 fun t7 =>
 ldI .i64 (Addr.add p 2) w1 fun t9 =>
 nw t_int [.int .i64 t5, .int .i64 t7, .int .i64 t9] w1 fun p_1 w2 =>
 callK Pr f_ref14_Number [.slice none 0 0, .slice (some p_1) 3 3] w2 fun v w3 =>
 asSl v fun t11 =>
 ld_api_Ask p w3 fun t13f0 t13f1 t13f2 t13f3 t13f4 t13f5 t13f6 t13f7 t13f8 t13f9 t13f10 t13f11 t13f12 t13f13 =>
 callK Pr f_ref15_Numbers [.agg ⟨[.int .i64 t13f0, .int .i64 t13f1, .int .i64 t13f2, .int .i64 t13f3, .int .i64 t13f4, .int .i64 t13f5, .int .i64 t13f6, .int .i64 t13f7, .int .i64 t13f8, .int .i64 t13f9, .int .i64 t13f10, .string t13f11, .slice t13f12.a t13f12.n t13f12.c, .slice t13f13.a t13f13.n t13f13.c]⟩] w3 fun v_1 w4 =>
 asSl v_1 fun t14 =>
 callK Pr f_ref14_Number [.slice t11.a t11.n t11.c, .slice t14.a t14.n t14.c] w4 fun v_2 w5 =>
 asSl v_2 fun t15 =>
 ldS (Addr.add p 11) (World.drew w5) fun t18 =>
 ldL (Addr.add p 12) (World.drew w5) fun t21 =>
 ldL (Addr.add p 13) (World.drew w5) fun t23 =>
 ((callK Pr f_ref14_Text [.slice t15.a t15.n t15.c, .string t18] (World.drew w5) fun v_3 w6 =>
 asSl v_3 fun t19 =>
 (kept (Addr.add p 13) 1 (World.drew w5) w6 ∧
 (kept (Addr.add p 12) 1 (World.drew w5) w6 ∧
 nw t_s_uint8 [.slice t21.a t21.n t21.c, .slice t23.a t23.n t23.c] w6 fun p_2 w7 =>
 (kept (Addr.add p 11) 1 w6 w7 ∧
 callK Pr f_ref14_Bytes [.slice t19.a t19.n t19.c, .slice (some p_2) 2 2] w7 fun v_4 w8 =>
 asSl v_4 fun t25 =>
 R (.slice t25.a t25.n t25.c) w8)))) ∧
 (nw t_s_uint8 [.slice t21.a t21.n t21.c, .slice t23.a t23.n t23.c] (World.drew w5) fun p_3 w9 =>
 (kept (Addr.add p 11) 1 (World.drew w5) w9 ∧
 callK Pr f_ref14_Text [.slice t15.a t15.n t15.c, .string t18] w9 fun v_5 w10 =>
 asSl v_5 fun t19_1 =>
 (kept (Addr.add p 13) 1 w9 w10 ∧
 (kept (Addr.add p 12) 1 w9 w10 ∧
 callK Pr f_ref14_Bytes [.slice t19_1.a t19_1.n t19_1.c, .slice (some p_3) 2 2] w10 fun v_6 w11 =>
 asSl v_6 fun t25_1 =>
 R (.slice t25_1.a t25_1.n t25_1.c) w11)))))
theorem V_ref15_Laid_eq (ac0 : Int) (ac1 : Int) (ac2 : Int) (ac3 : Int) (ac4 : Int) (ac5 : Int) (ac6 : Int) (ac7 : Int) (ac8 : Int) (ac9 : Int) (ac10 : Int) (ac11 : ByteArray) (ac12 : SlV) (ac13 : SlV) (w : World) (R : Value → World → Prop) : evF Pr ⟨true, true⟩ [] [] Tryd.f74 [.agg ⟨[.int .i64 ac0, .int .i64 ac1, .int .i64 ac2, .int .i64 ac3, .int .i64 ac4, .int .i64 ac5, .int .i64 ac6, .int .i64 ac7, .int .i64 ac8, .int .i64 ac9, .int .i64 ac10, .string ac11, .slice ac12.a ac12.n ac12.c, .slice ac13.a ac13.n ac13.c]⟩] w R = V_ref15_Laid ac0 ac1 ac2 ac3 ac4 ac5 ac6 ac7 ac8 ac9 ac10 ac11 ac12 ac13 w R := by kernel_rfl
theorem V_ref15_Laid_of {ac0 : Int} {ac1 : Int} {ac2 : Int} {ac3 : Int} {ac4 : Int} {ac5 : Int} {ac6 : Int} {ac7 : Int} {ac8 : Int} {ac9 : Int} {ac10 : Int} {ac11 : ByteArray} {ac12 : SlV} {ac13 : SlV} {w : World} {R : Value → World → Prop} (h : V_ref15_Laid ac0 ac1 ac2 ac3 ac4 ac5 ac6 ac7 ac8 ac9 ac10 ac11 ac12 ac13 w R) : Ok Pr f_ref15_Laid [.agg ⟨[.int .i64 ac0, .int .i64 ac1, .int .i64 ac2, .int .i64 ac3, .int .i64 ac4, .int .i64 ac5, .int .i64 ac6, .int .i64 ac7, .int .i64 ac8, .int .i64 ac9, .int .i64 ac10, .string ac11, .slice ac12.a ac12.n ac12.c, .slice ac13.a ac13.n ac13.c]⟩] w R :=
  have g := (V_ref15_Laid_eq ac0 ac1 ac2 ac3 ac4 ac5 ac6 ac7 ac8 ac9 ac10 ac11 ac12 ac13 w R).mpr h
  evF_ok good Tryd.func74 (by kernel_rfl) g

def V_ask_May_1 (n : Int) (w : World) (R : Value → World → Prop) : Prop :=
 callK Pr f_ask_in [.int .i64 n, .int .i64 (0:Int), .int .i64 (1099511627776:Int)] w fun v w1 =>
 asB v fun t4 =>
 R (.bool (!t4)) w1
theorem V_ask_May_1_eq (n : Int) (w : World) (R : Value → World → Prop) : evF Pr ⟨true, true⟩ [] [] Tryd.f75 [.int .i64 n] w R = V_ask_May_1 n w R := by kernel_rfl
theorem V_ask_May_1_of {n : Int} {w : World} {R : Value → World → Prop} (h : V_ask_May_1 n w R) : Ok Pr f_ask_May_1 [.int .i64 n] w R :=
  have g := (V_ask_May_1_eq n w R).mpr h
  evF_ok good Tryd.func75 (by kernel_rfl) g

def V_ask_in (n : Int) (lo : Int) (hi : Int) (w : World) (R : Value → World → Prop) : Prop :=
 R (.bool ((decide (lo ≤ n)) && (decide (n ≤ hi)))) w
theorem V_ask_in_eq (n : Int) (lo : Int) (hi : Int) (w : World) (R : Value → World → Prop) : evF Pr ⟨true, true⟩ [] [] Tryd.f76 [.int .i64 n, .int .i64 lo, .int .i64 hi] w R = V_ask_in n lo hi w R := by kernel_rfl
theorem V_ask_in_of {n : Int} {lo : Int} {hi : Int} {w : World} {R : Value → World → Prop} (h : V_ask_in n lo hi w R) : Ok Pr f_ask_in [.int .i64 n, .int .i64 lo, .int .i64 hi] w R :=
  have g := (V_ask_in_eq n lo hi w R).mpr h
  evF_ok good Tryd.func76 (by kernel_rfl) g

def V_ref15_Numbers (ac0 : Int) (ac1 : Int) (ac2 : Int) (ac3 : Int) (ac4 : Int) (ac5 : Int) (ac6 : Int) (ac7 : Int) (ac8 : Int) (ac9 : Int) (ac10 : Int) (ac11 : ByteArray) (ac12 : SlV) (ac13 : SlV) (w : World) (R : Value → World → Prop) : Prop :=
 nw t_api_Ask [.int .i64 ac0, .int .i64 ac1, .int .i64 ac2, .int .i64 ac3, .int .i64 ac4, .int .i64 ac5, .int .i64 ac6, .int .i64 ac7, .int .i64 ac8, .int .i64 ac9, .int .i64 ac10, .string ac11, .slice ac12.a ac12.n ac12.c, .slice ac13.a ac13.n ac13.c] w fun p w1 =>
 ldI .i64 (Addr.add p 3) w1 fun t4 =>
 ldI .i64 (Addr.add p 4) w1 fun t6 =>
 ldI .i64 (Addr.add p 5) w1 fun t8 =>
 ldI .i64 (Addr.add p 6) w1 fun t10 =>
 ldI .i64 (Addr.add p 7) w1 fun t12 =>
 ldI .i64 (Addr.add p 8) w1 fun t14 =>
 ldI .i64 (Addr.add p 9) w1 fun t16 =>
 ldI .i64 (Addr.add p 10) w1 fun t18 =>
 nw t_int [.int .i64 t4, .int .i64 t6, .int .i64 t8, .int .i64 t10, .int .i64 t12, .int .i64 t14, .int .i64 t16, .int .i64 t18] w1 fun p_1 w2 =>
 R (.slice (some p_1) 8 8) w2
theorem V_ref15_Numbers_eq (ac0 : Int) (ac1 : Int) (ac2 : Int) (ac3 : Int) (ac4 : Int) (ac5 : Int) (ac6 : Int) (ac7 : Int) (ac8 : Int) (ac9 : Int) (ac10 : Int) (ac11 : ByteArray) (ac12 : SlV) (ac13 : SlV) (w : World) (R : Value → World → Prop) : evF Pr ⟨true, true⟩ [] [] Tryd.f78 [.agg ⟨[.int .i64 ac0, .int .i64 ac1, .int .i64 ac2, .int .i64 ac3, .int .i64 ac4, .int .i64 ac5, .int .i64 ac6, .int .i64 ac7, .int .i64 ac8, .int .i64 ac9, .int .i64 ac10, .string ac11, .slice ac12.a ac12.n ac12.c, .slice ac13.a ac13.n ac13.c]⟩] w R = V_ref15_Numbers ac0 ac1 ac2 ac3 ac4 ac5 ac6 ac7 ac8 ac9 ac10 ac11 ac12 ac13 w R := by kernel_rfl
theorem V_ref15_Numbers_of {ac0 : Int} {ac1 : Int} {ac2 : Int} {ac3 : Int} {ac4 : Int} {ac5 : Int} {ac6 : Int} {ac7 : Int} {ac8 : Int} {ac9 : Int} {ac10 : Int} {ac11 : ByteArray} {ac12 : SlV} {ac13 : SlV} {w : World} {R : Value → World → Prop} (h : V_ref15_Numbers ac0 ac1 ac2 ac3 ac4 ac5 ac6 ac7 ac8 ac9 ac10 ac11 ac12 ac13 w R) : Ok Pr f_ref15_Numbers [.agg ⟨[.int .i64 ac0, .int .i64 ac1, .int .i64 ac2, .int .i64 ac3, .int .i64 ac4, .int .i64 ac5, .int .i64 ac6, .int .i64 ac7, .int .i64 ac8, .int .i64 ac9, .int .i64 ac10, .string ac11, .slice ac12.a ac12.n ac12.c, .slice ac13.a ac13.n ac13.c]⟩] w R :=
  have g := (V_ref15_Numbers_eq ac0 ac1 ac2 ac3 ac4 ac5 ac6 ac7 ac8 ac9 ac10 ac11 ac12 ac13 w R).mpr h
  evF_ok good Tryd.func78 (by kernel_rfl) g

def V_lay_Sizes (setv : Int) (w : World) (R : Value → World → Prop) : Prop :=
 callK Pr f_lay_Of [.int .i64 setv] w fun v w1 =>
 destr.asArr' v fun vs =>
 uncons vs fun v_1 r =>
 as_lay_Set v_1 fun t11 t11_1 t11_2 t11_3 t11_4 t11_5 t11_6 t11_7 t11_8 =>
 uncons r fun v_2 r_1 =>
 asB v_2 fun t11_9 =>
 (r_1 = [] ∧
 nw t_lay_Set (zc Pr t_lay_Set) w1 fun p w2 =>
 sT_lay_Set p t11 t11_1 t11_2 t11_3 t11_4 t11_5 t11_6 t11_7 t11_8 w2 fun w3 =>
 iteP (!t11_9)
 (R (.tuple ⟨[.int .i64 (0:Int), .int .i64 (0:Int), .int .i64 (0:Int)]⟩) w3)
 (ldI .i64 (Addr.add p 2) (World.drew w3) fun t17 =>
 ldI .i64 (Addr.add p 2) (World.drew w3) fun t19 =>
 ldI .i64 (Addr.add p 6) (World.drew w3) fun t22 =>
 (I64 (t22 - (1:Int)) ∧
 ldI .i64 (Addr.add p 6) (World.drew w3) fun t25 =>
 callK Pr f_lay_long [.int .i64 t17, .int .i64 t19] (World.drew w3) fun v_3 w4 =>
 asI .i64 v_3 fun t20 =>
 (kept (Addr.add p 6) 1 (World.drew w3) w4 ∧
 (kept (Addr.add p 6) 1 (World.drew w3) w4 ∧
 callK Pr f_lay_long [.int .i64 (t22 - (1:Int)), .int .i64 t25] w4 fun v_4 w5 =>
 asI .i64 v_4 fun t26 =>
 ldI .i64 (Addr.add p 0) (World.drew w5) fun t28 =>
 (I64 ((320:Int) * t28) ∧
 (I64 ((32:Int) + ((320:Int) * t28)) ∧
 ldI .i64 (Addr.add p 0) (World.drew w5) fun t32 =>
 ldI .i64 (Addr.add p 1) (World.drew w5) fun t34 =>
 (I64 (t32 + t34) ∧
 (I64 ((t32 + t34) * t20) ∧
 ldI .i64 (Addr.add p 0) (World.drew w5) fun t39 =>
 (I64 ((13:Int) * t39) ∧
 (I64 (((t32 + t34) * t20) + ((13:Int) * t39)) ∧
 (I64 ((32:Int) * (((t32 + t34) * t20) + ((13:Int) * t39))) ∧
 (I64 ((128:Int) + ((32:Int) * (((t32 + t34) * t20) + ((13:Int) * t39)))) ∧
 ldI .i64 (Addr.add p 8) (World.drew w5) fun t45 =>
 ldI .i64 (Addr.add p 1) (World.drew w5) fun t47 =>
 (I64 ((32:Int) * t47) ∧
 (I64 (((32:Int) * t47) * t26) ∧
 (I64 (t45 + (((32:Int) * t47) * t26)) ∧
 ldI .i64 (Addr.add p 5) (World.drew w5) fun t53 =>
 (I64 ((t45 + (((32:Int) * t47) * t26)) + t53) ∧
 ldI .i64 (Addr.add p 0) (World.drew w5) fun t56 =>
 (I64 (((t45 + (((32:Int) * t47) * t26)) + t53) + t56) ∧
 R (.tuple ⟨[.int .i64 ((32:Int) + ((320:Int) * t28)), .int .i64 ((128:Int) + ((32:Int) * (((t32 + t34) * t20) + ((13:Int) * t39)))), .int .i64 (((t45 + (((32:Int) * t47) * t26)) + t53) + t56)]⟩) (World.drew w5)))))))))))))))))))
theorem V_lay_Sizes_eq (setv : Int) (w : World) (R : Value → World → Prop) : evF Pr ⟨true, true⟩ [] [] Tryd.f81 [.int .i64 setv] w R = V_lay_Sizes setv w R := by kernel_rfl
theorem V_lay_Sizes_of {setv : Int} {w : World} {R : Value → World → Prop} (h : V_lay_Sizes setv w R) : Ok Pr f_lay_Sizes [.int .i64 setv] w R :=
  have g := (V_lay_Sizes_eq setv w R).mpr h
  evF_ok good Tryd.func81 (by kernel_rfl) g

def V_ask_read (b : SlV) (w : World) (R : Value → World → Prop) : Prop :=
 nw t_api_Ask (zc Pr t_api_Ask) w fun p w1 =>
 callK Pr f_code_New [.slice b.a b.n b.c] w1 fun v w2 =>
 asP v fun t8 =>
 nw t_p_code_Reader (zc Pr t_p_code_Reader) w2 fun p_1 w3 =>
 st p_1 (.pointer t8) w3 fun w4 =>
 join1 (fun (a : Addr) => [(6, some (.pointer (some a)))])
 (fun a w5 => ldP p_1 (World.drew w5) fun t33 =>
 ldP p_1 (World.drew w5) fun t35 =>
 ldP p_1 (World.drew w5) fun t37 =>
 callK Pr f_code_Reader_Text [.pointer t33, .int .i64 (300:Int)] (World.drew w5) fun v_1 w6 =>
 asStr v_1 fun t34 =>
 (kept p_1 1 (World.drew w5) w6 ∧
 (kept p_1 1 (World.drew w5) w6 ∧
 callK Pr f_code_Reader_Bytes [.pointer t35, .int .i64 (2000:Int)] w6 fun v_2 w7 =>
 asSl v_2 fun t36 =>
 (kept p_1 1 w6 w7 ∧
 callK Pr f_code_Reader_Bytes [.pointer t37, .int .i64 (100:Int)] w7 fun v_3 w8 =>
 asSl v_3 fun t38 =>
 st (Addr.add a 11) (.string t34) w8 fun w9 =>
 st (Addr.add a 12) (.slice t36.a t36.n t36.c) w9 fun w10 =>
 st (Addr.add a 13) (.slice t38.a t38.n t38.c) w10 fun w11 =>
 ld_api_Ask a (World.drew w11) fun t42f0 t42f1 t42f2 t42f3 t42f4 t42f5 t42f6 t42f7 t42f8 t42f9 t42f10 t42f11 t42f12 t42f13 =>
 ldP p_1 (World.drew w11) fun t43 =>
 callK Pr f_code_Reader_End [.pointer t43] (World.drew w11) fun v_4 w12 =>
 (kept a 14 (World.drew w11) w12 ∧
 ifaceNil v_4 fun nil =>
 ld_api_Ask a w12 fun t47f0 t47f1 t47f2 t47f3 t47f4 t47f5 t47f6 t47f7 t47f8 t47f9 t47f10 t47f11 t47f12 t47f13 =>
 iteP nil
 (callK Pr f_ask_May [.agg ⟨[.int .i64 t47f0, .int .i64 t47f1, .int .i64 t47f2, .int .i64 t47f3, .int .i64 t47f4, .int .i64 t47f5, .int .i64 t47f6, .int .i64 t47f7, .int .i64 t47f8, .int .i64 t47f9, .int .i64 t47f10, .string t47f11, .slice t47f12.a t47f12.n t47f12.c, .slice t47f13.a t47f13.n t47f13.c]⟩] w12 fun v_5 w13 =>
 asB v_5 fun t48 =>
 (kept a 14 w12 w13 ∧
 sT_api_Ask p t42f0 t42f1 t42f2 t42f3 t42f4 t42f5 t42f6 t42f7 t42f8 t42f9 t42f10 t42f11 t42f12 t42f13 w13 fun w14 =>
 ld_api_Ask p w14 fun resf0 resf1 resf2 resf3 resf4 resf5 resf6 resf7 resf8 resf9 resf10 resf11 resf12 resf13 =>
 R (.tuple ⟨[.agg ⟨[.int .i64 resf0, .int .i64 resf1, .int .i64 resf2, .int .i64 resf3, .int .i64 resf4, .int .i64 resf5, .int .i64 resf6, .int .i64 resf7, .int .i64 resf8, .int .i64 resf9, .int .i64 resf10, .string resf11, .slice resf12.a resf12.n resf12.c, .slice resf13.a resf13.n resf13.c]⟩, .bool t48]⟩) w14))
 ((kept a 14 w12 w12 ∧
 sT_api_Ask p t42f0 t42f1 t42f2 t42f3 t42f4 t42f5 t42f6 t42f7 t42f8 t42f9 t42f10 t42f11 t42f12 t42f13 w12 fun w15 =>
 ld_api_Ask p w15 fun resf0_1 resf1_1 resf2_1 resf3_1 resf4_1 resf5_1 resf6_1 resf7_1 resf8_1 resf9_1 resf10_1 resf11_1 resf12_1 resf13_1 =>
 R (.tuple ⟨[.agg ⟨[.int .i64 resf0_1, .int .i64 resf1_1, .int .i64 resf2_1, .int .i64 resf3_1, .int .i64 resf4_1, .int .i64 resf5_1, .int .i64 resf6_1, .int .i64 resf7_1, .int .i64 resf8_1, .int .i64 resf9_1, .int .i64 resf10_1, .string resf11_1, .slice resf12_1.a resf12_1.n resf12_1.c, .slice resf13_1.a resf13_1.n resf13_1.c]⟩, .bool false]⟩) w15)))))))
 (fun go =>
 ldP p_1 (World.drew w4) fun t10 =>
 ldP p_1 (World.drew w4) fun t12 =>
 ldP p_1 (World.drew w4) fun t14 =>
 ((callK Pr f_code_Reader_Number [.pointer t10, .int .i64 (1:Int), .int .i64 (6:Int)] (World.drew w4) fun v_6 w16 =>
 asI .i64 v_6 fun t11 =>
 (kept p_1 1 (World.drew w4) w16 ∧
 (kept p_1 1 (World.drew w4) w16 ∧
 ((callK Pr f_code_Reader_Number [.pointer t12, .int .i64 (1:Int), .int .i64 (1099511627776:Int)] w16 fun v_7 w17 =>
 asI .i64 v_7 fun t13 =>
 (kept p_1 1 w16 w17 ∧
 ((callK Pr f_code_Reader_Number [.pointer t14, .int .i64 (1:Int), .int .i64 (13:Int)] w17 fun v_8 w18 =>
 asI .i64 v_8 fun t15 =>
 ((callK Pr f_ask_read_1 [.pointer (some p_1)] w18 fun v_9 w19 =>
 asI .i64 v_9 fun t17 =>
 ((callK Pr f_ask_read_1 [.pointer (some p_1)] w19 fun v_10 w20 =>
 asI .i64 v_10 fun t19 =>
 ((callK Pr f_ask_read_1 [.pointer (some p_1)] w20 fun v_11 w21 =>
 asI .i64 v_11 fun t21 =>
 ((callK Pr f_ask_read_1 [.pointer (some p_1)] w21 fun v_12 w22 =>
 asI .i64 v_12 fun t23 =>
 ((callK Pr f_ask_read_1 [.pointer (some p_1)] w22 fun v_13 w23 =>
 asI .i64 v_13 fun t25 =>
 ((callK Pr f_ask_read_1 [.pointer (some p_1)] w23 fun v_14 w24 =>
 asI .i64 v_14 fun t27 =>
 ((callK Pr f_ask_read_1 [.pointer (some p_1)] w24 fun v_15 w25 =>
 asI .i64 v_15 fun t29 =>
 ((callK Pr f_ask_read_1 [.pointer (some p_1)] w25 fun v_16 w26 =>
 asI .i64 v_16 fun t31 =>
 nw t_api_Ask (zc Pr t_api_Ask) w26 fun p_2 w27 =>
 (kept p_1 1 w26 w27 ∧
 (kept p_1 1 w26 w27 ∧
 (kept p_1 1 w26 w27 ∧
 sT_api_Ask p_2 t11 t13 t15 t17 t19 t21 t23 t25 t27 t29 t31 S_empty ⟨none, 0, 0⟩ ⟨none, 0, 0⟩ w27 fun w28 =>
 go p_2 w28)))) ∧
 (nw t_api_Ask (zc Pr t_api_Ask) w25 fun p_3 w29 =>
 (kept p_1 1 w25 w29 ∧
 (kept p_1 1 w25 w29 ∧
 (kept p_1 1 w25 w29 ∧
 callK Pr f_ask_read_1 [.pointer (some p_1)] w29 fun v_17 w30 =>
 asI .i64 v_17 fun t31_1 =>
 sT_api_Ask p_3 t11 t13 t15 t17 t19 t21 t23 t25 t27 t29 t31_1 S_empty ⟨none, 0, 0⟩ ⟨none, 0, 0⟩ w30 fun w31 =>
 go p_3 w31)))))) ∧
 (nw t_api_Ask (zc Pr t_api_Ask) w24 fun p_4 w32 =>
 (kept p_1 1 w24 w32 ∧
 (kept p_1 1 w24 w32 ∧
 (kept p_1 1 w24 w32 ∧
 callK Pr f_ask_read_1 [.pointer (some p_1)] w32 fun v_18 w33 =>
 asI .i64 v_18 fun t29_1 =>
 callK Pr f_ask_read_1 [.pointer (some p_1)] w33 fun v_19 w34 =>
 asI .i64 v_19 fun t31_2 =>
 sT_api_Ask p_4 t11 t13 t15 t17 t19 t21 t23 t25 t27 t29_1 t31_2 S_empty ⟨none, 0, 0⟩ ⟨none, 0, 0⟩ w34 fun w35 =>
 go p_4 w35)))))) ∧
 (nw t_api_Ask (zc Pr t_api_Ask) w23 fun p_5 w36 =>
 (kept p_1 1 w23 w36 ∧
 (kept p_1 1 w23 w36 ∧
 (kept p_1 1 w23 w36 ∧
 callK Pr f_ask_read_1 [.pointer (some p_1)] w36 fun v_20 w37 =>
 asI .i64 v_20 fun t27_1 =>
 callK Pr f_ask_read_1 [.pointer (some p_1)] w37 fun v_21 w38 =>
 asI .i64 v_21 fun t29_2 =>
 callK Pr f_ask_read_1 [.pointer (some p_1)] w38 fun v_22 w39 =>
 asI .i64 v_22 fun t31_3 =>
 sT_api_Ask p_5 t11 t13 t15 t17 t19 t21 t23 t25 t27_1 t29_2 t31_3 S_empty ⟨none, 0, 0⟩ ⟨none, 0, 0⟩ w39 fun w40 =>
 go p_5 w40)))))) ∧
 (nw t_api_Ask (zc Pr t_api_Ask) w22 fun p_6 w41 =>
 (kept p_1 1 w22 w41 ∧
 (kept p_1 1 w22 w41 ∧
 (kept p_1 1 w22 w41 ∧
 callK Pr f_ask_read_1 [.pointer (some p_1)] w41 fun v_23 w42 =>
 asI .i64 v_23 fun t25_1 =>
 callK Pr f_ask_read_1 [.pointer (some p_1)] w42 fun v_24 w43 =>
 asI .i64 v_24 fun t27_2 =>
 callK Pr f_ask_read_1 [.pointer (some p_1)] w43 fun v_25 w44 =>
 asI .i64 v_25 fun t29_3 =>
 callK Pr f_ask_read_1 [.pointer (some p_1)] w44 fun v_26 w45 =>
 asI .i64 v_26 fun t31_4 =>
 sT_api_Ask p_6 t11 t13 t15 t17 t19 t21 t23 t25_1 t27_2 t29_3 t31_4 S_empty ⟨none, 0, 0⟩ ⟨none, 0, 0⟩ w45 fun w46 =>
 go p_6 w46)))))) ∧
 (nw t_api_Ask (zc Pr t_api_Ask) w21 fun p_7 w47 =>
 (kept p_1 1 w21 w47 ∧
 (kept p_1 1 w21 w47 ∧
 (kept p_1 1 w21 w47 ∧
 callK Pr f_ask_read_1 [.pointer (some p_1)] w47 fun v_27 w48 =>
 asI .i64 v_27 fun t23_1 =>
 callK Pr f_ask_read_1 [.pointer (some p_1)] w48 fun v_28 w49 =>
 asI .i64 v_28 fun t25_2 =>
 callK Pr f_ask_read_1 [.pointer (some p_1)] w49 fun v_29 w50 =>
 asI .i64 v_29 fun t27_3 =>
 callK Pr f_ask_read_1 [.pointer (some p_1)] w50 fun v_30 w51 =>
 asI .i64 v_30 fun t29_4 =>
 callK Pr f_ask_read_1 [.pointer (some p_1)] w51 fun v_31 w52 =>
 asI .i64 v_31 fun t31_5 =>
 sT_api_Ask p_7 t11 t13 t15 t17 t19 t21 t23_1 t25_2 t27_3 t29_4 t31_5 S_empty ⟨none, 0, 0⟩ ⟨none, 0, 0⟩ w52 fun w53 =>
 go p_7 w53)))))) ∧
 (nw t_api_Ask (zc Pr t_api_Ask) w20 fun p_8 w54 =>
 (kept p_1 1 w20 w54 ∧
 (kept p_1 1 w20 w54 ∧
 (kept p_1 1 w20 w54 ∧
 callK Pr f_ask_read_1 [.pointer (some p_1)] w54 fun v_32 w55 =>
 asI .i64 v_32 fun t21_1 =>
 callK Pr f_ask_read_1 [.pointer (some p_1)] w55 fun v_33 w56 =>
 asI .i64 v_33 fun t23_2 =>
 callK Pr f_ask_read_1 [.pointer (some p_1)] w56 fun v_34 w57 =>
 asI .i64 v_34 fun t25_3 =>
 callK Pr f_ask_read_1 [.pointer (some p_1)] w57 fun v_35 w58 =>
 asI .i64 v_35 fun t27_4 =>
 callK Pr f_ask_read_1 [.pointer (some p_1)] w58 fun v_36 w59 =>
 asI .i64 v_36 fun t29_5 =>
 callK Pr f_ask_read_1 [.pointer (some p_1)] w59 fun v_37 w60 =>
 asI .i64 v_37 fun t31_6 =>
 sT_api_Ask p_8 t11 t13 t15 t17 t19 t21_1 t23_2 t25_3 t27_4 t29_5 t31_6 S_empty ⟨none, 0, 0⟩ ⟨none, 0, 0⟩ w60 fun w61 =>
 go p_8 w61)))))) ∧
 (nw t_api_Ask (zc Pr t_api_Ask) w19 fun p_9 w62 =>
 (kept p_1 1 w19 w62 ∧
 (kept p_1 1 w19 w62 ∧
 (kept p_1 1 w19 w62 ∧
 callK Pr f_ask_read_1 [.pointer (some p_1)] w62 fun v_38 w63 =>
 asI .i64 v_38 fun t19_1 =>
 callK Pr f_ask_read_1 [.pointer (some p_1)] w63 fun v_39 w64 =>
 asI .i64 v_39 fun t21_2 =>
 callK Pr f_ask_read_1 [.pointer (some p_1)] w64 fun v_40 w65 =>
 asI .i64 v_40 fun t23_3 =>
 callK Pr f_ask_read_1 [.pointer (some p_1)] w65 fun v_41 w66 =>
 asI .i64 v_41 fun t25_4 =>
 callK Pr f_ask_read_1 [.pointer (some p_1)] w66 fun v_42 w67 =>
 asI .i64 v_42 fun t27_5 =>
 callK Pr f_ask_read_1 [.pointer (some p_1)] w67 fun v_43 w68 =>
 asI .i64 v_43 fun t29_6 =>
 callK Pr f_ask_read_1 [.pointer (some p_1)] w68 fun v_44 w69 =>
 asI .i64 v_44 fun t31_7 =>
 sT_api_Ask p_9 t11 t13 t15 t17 t19_1 t21_2 t23_3 t25_4 t27_5 t29_6 t31_7 S_empty ⟨none, 0, 0⟩ ⟨none, 0, 0⟩ w69 fun w70 =>
 go p_9 w70)))))) ∧
 (nw t_api_Ask (zc Pr t_api_Ask) w18 fun p_10 w71 =>
 (kept p_1 1 w18 w71 ∧
 (kept p_1 1 w18 w71 ∧
 (kept p_1 1 w18 w71 ∧
 callK Pr f_ask_read_1 [.pointer (some p_1)] w71 fun v_45 w72 =>
 asI .i64 v_45 fun t17_1 =>
 callK Pr f_ask_read_1 [.pointer (some p_1)] w72 fun v_46 w73 =>
 asI .i64 v_46 fun t19_2 =>
 callK Pr f_ask_read_1 [.pointer (some p_1)] w73 fun v_47 w74 =>
 asI .i64 v_47 fun t21_3 =>
 callK Pr f_ask_read_1 [.pointer (some p_1)] w74 fun v_48 w75 =>
 asI .i64 v_48 fun t23_4 =>
 callK Pr f_ask_read_1 [.pointer (some p_1)] w75 fun v_49 w76 =>
 asI .i64 v_49 fun t25_5 =>
 callK Pr f_ask_read_1 [.pointer (some p_1)] w76 fun v_50 w77 =>
 asI .i64 v_50 fun t27_6 =>
 callK Pr f_ask_read_1 [.pointer (some p_1)] w77 fun v_51 w78 =>
 asI .i64 v_51 fun t29_7 =>
 callK Pr f_ask_read_1 [.pointer (some p_1)] w78 fun v_52 w79 =>
 asI .i64 v_52 fun t31_8 =>
 sT_api_Ask p_10 t11 t13 t15 t17_1 t19_2 t21_3 t23_4 t25_5 t27_6 t29_7 t31_8 S_empty ⟨none, 0, 0⟩ ⟨none, 0, 0⟩ w79 fun w80 =>
 go p_10 w80)))))) ∧
 (nw t_api_Ask (zc Pr t_api_Ask) w17 fun p_11 w81 =>
 (kept p_1 1 w17 w81 ∧
 (kept p_1 1 w17 w81 ∧
 (kept p_1 1 w17 w81 ∧
 callK Pr f_code_Reader_Number [.pointer t14, .int .i64 (1:Int), .int .i64 (13:Int)] w81 fun v_53 w82 =>
 asI .i64 v_53 fun t15_1 =>
 callK Pr f_ask_read_1 [.pointer (some p_1)] w82 fun v_54 w83 =>
 asI .i64 v_54 fun t17_2 =>
 callK Pr f_ask_read_1 [.pointer (some p_1)] w83 fun v_55 w84 =>
 asI .i64 v_55 fun t19_3 =>
 callK Pr f_ask_read_1 [.pointer (some p_1)] w84 fun v_56 w85 =>
 asI .i64 v_56 fun t21_4 =>
 callK Pr f_ask_read_1 [.pointer (some p_1)] w85 fun v_57 w86 =>
 asI .i64 v_57 fun t23_5 =>
 callK Pr f_ask_read_1 [.pointer (some p_1)] w86 fun v_58 w87 =>
 asI .i64 v_58 fun t25_6 =>
 callK Pr f_ask_read_1 [.pointer (some p_1)] w87 fun v_59 w88 =>
 asI .i64 v_59 fun t27_7 =>
 callK Pr f_ask_read_1 [.pointer (some p_1)] w88 fun v_60 w89 =>
 asI .i64 v_60 fun t29_8 =>
 callK Pr f_ask_read_1 [.pointer (some p_1)] w89 fun v_61 w90 =>
 asI .i64 v_61 fun t31_9 =>
 sT_api_Ask p_11 t11 t13 t15_1 t17_2 t19_3 t21_4 t23_5 t25_6 t27_7 t29_8 t31_9 S_empty ⟨none, 0, 0⟩ ⟨none, 0, 0⟩ w90 fun w91 =>
 go p_11 w91))))))) ∧
 (nw t_api_Ask (zc Pr t_api_Ask) w16 fun p_12 w92 =>
 (kept p_1 1 w16 w92 ∧
 (kept p_1 1 w16 w92 ∧
 (kept p_1 1 w16 w92 ∧
 callK Pr f_code_Reader_Number [.pointer t12, .int .i64 (1:Int), .int .i64 (1099511627776:Int)] w92 fun v_62 w93 =>
 asI .i64 v_62 fun t13_1 =>
 (kept p_1 1 w92 w93 ∧
 callK Pr f_code_Reader_Number [.pointer t14, .int .i64 (1:Int), .int .i64 (13:Int)] w93 fun v_63 w94 =>
 asI .i64 v_63 fun t15_2 =>
 callK Pr f_ask_read_1 [.pointer (some p_1)] w94 fun v_64 w95 =>
 asI .i64 v_64 fun t17_3 =>
 callK Pr f_ask_read_1 [.pointer (some p_1)] w95 fun v_65 w96 =>
 asI .i64 v_65 fun t19_4 =>
 callK Pr f_ask_read_1 [.pointer (some p_1)] w96 fun v_66 w97 =>
 asI .i64 v_66 fun t21_5 =>
 callK Pr f_ask_read_1 [.pointer (some p_1)] w97 fun v_67 w98 =>
 asI .i64 v_67 fun t23_6 =>
 callK Pr f_ask_read_1 [.pointer (some p_1)] w98 fun v_68 w99 =>
 asI .i64 v_68 fun t25_7 =>
 callK Pr f_ask_read_1 [.pointer (some p_1)] w99 fun v_69 w100 =>
 asI .i64 v_69 fun t27_8 =>
 callK Pr f_ask_read_1 [.pointer (some p_1)] w100 fun v_70 w101 =>
 asI .i64 v_70 fun t29_9 =>
 callK Pr f_ask_read_1 [.pointer (some p_1)] w101 fun v_71 w102 =>
 asI .i64 v_71 fun t31_10 =>
 sT_api_Ask p_12 t11 t13_1 t15_2 t17_3 t19_4 t21_5 t23_6 t25_7 t27_8 t29_9 t31_10 S_empty ⟨none, 0, 0⟩ ⟨none, 0, 0⟩ w102 fun w103 =>
 go p_12 w103))))))))) ∧
 (nw t_api_Ask (zc Pr t_api_Ask) (World.drew w4) fun p_13 w104 =>
 (kept p_1 1 (World.drew w4) w104 ∧
 (kept p_1 1 (World.drew w4) w104 ∧
 (kept p_1 1 (World.drew w4) w104 ∧
 callK Pr f_code_Reader_Number [.pointer t10, .int .i64 (1:Int), .int .i64 (6:Int)] w104 fun v_72 w105 =>
 asI .i64 v_72 fun t11_1 =>
 (kept p_1 1 w104 w105 ∧
 (kept p_1 1 w104 w105 ∧
 callK Pr f_code_Reader_Number [.pointer t12, .int .i64 (1:Int), .int .i64 (1099511627776:Int)] w105 fun v_73 w106 =>
 asI .i64 v_73 fun t13_2 =>
 (kept p_1 1 w105 w106 ∧
 callK Pr f_code_Reader_Number [.pointer t14, .int .i64 (1:Int), .int .i64 (13:Int)] w106 fun v_74 w107 =>
 asI .i64 v_74 fun t15_3 =>
 callK Pr f_ask_read_1 [.pointer (some p_1)] w107 fun v_75 w108 =>
 asI .i64 v_75 fun t17_4 =>
 callK Pr f_ask_read_1 [.pointer (some p_1)] w108 fun v_76 w109 =>
 asI .i64 v_76 fun t19_5 =>
 callK Pr f_ask_read_1 [.pointer (some p_1)] w109 fun v_77 w110 =>
 asI .i64 v_77 fun t21_6 =>
 callK Pr f_ask_read_1 [.pointer (some p_1)] w110 fun v_78 w111 =>
 asI .i64 v_78 fun t23_7 =>
 callK Pr f_ask_read_1 [.pointer (some p_1)] w111 fun v_79 w112 =>
 asI .i64 v_79 fun t25_8 =>
 callK Pr f_ask_read_1 [.pointer (some p_1)] w112 fun v_80 w113 =>
 asI .i64 v_80 fun t27_9 =>
 callK Pr f_ask_read_1 [.pointer (some p_1)] w113 fun v_81 w114 =>
 asI .i64 v_81 fun t29_10 =>
 callK Pr f_ask_read_1 [.pointer (some p_1)] w114 fun v_82 w115 =>
 asI .i64 v_82 fun t31_11 =>
 sT_api_Ask p_13 t11_1 t13_2 t15_3 t17_4 t19_5 t21_6 t23_7 t25_8 t27_9 t29_10 t31_11 S_empty ⟨none, 0, 0⟩ ⟨none, 0, 0⟩ w115 fun w116 =>
 go p_13 w116)))))))))
theorem V_ask_read_eq (b : SlV) (w : World) (R : Value → World → Prop) : evF Pr ⟨true, true⟩ [(4, [(6, .adr)])] [] Tryd.f83 [.slice b.a b.n b.c] w R = V_ask_read b w R := by kernel_rfl
theorem V_ask_read_of {b : SlV} {w : World} {R : Value → World → Prop} (h : V_ask_read b w R) : Ok Pr f_ask_read [.slice b.a b.n b.c] w R :=
  have g := (V_ask_read_eq b w R).mpr h
  evF_ok good Tryd.func83 (by kernel_rfl) g

def V_ref11_Sizes (setv : Int) (w : World) (R : Value → World → Prop) : Prop :=
 callK Pr f_ref11_Of [.int .i64 setv] w fun v w1 =>
 destr.asArr' v fun vs =>
 uncons vs fun v_1 r =>
 as_ref11_Set v_1 fun t11 t11_1 t11_2 t11_3 t11_4 t11_5 t11_6 t11_7 t11_8 =>
 uncons r fun v_2 r_1 =>
 asB v_2 fun t11_9 =>
 (r_1 = [] ∧
 nw t_ref11_Set (zc Pr t_ref11_Set) w1 fun p w2 =>
 sT_ref11_Set p t11 t11_1 t11_2 t11_3 t11_4 t11_5 t11_6 t11_7 t11_8 w2 fun w3 =>
 iteP (!t11_9)
 (R (.tuple ⟨[.int .i64 (0:Int), .int .i64 (0:Int), .int .i64 (0:Int)]⟩) w3)
 (ld_ref11_Set p w3 fun t17f0 t17f1 t17f2 t17f3 t17f4 t17f5 t17f6 t17f7 t17f8 =>
 callK Pr f_ref11_Wide [.agg ⟨[.int .i64 t17f0, .int .i64 t17f1, .int .i64 t17f2, .int .i64 t17f3, .int .i64 t17f4, .int .i64 t17f5, .int .i64 t17f6, .int .i64 t17f7, .int .i64 t17f8]⟩] w3 fun v_3 w4 =>
 destr.asArr' v_3 fun vs_1 =>
 uncons vs_1 fun v_4 r_2 =>
 asI .i64 v_4 fun t18 =>
 uncons r_2 fun v_5 r_3 =>
 asI .i64 v_5 fun t18_1 =>
 (r_3 = [] ∧
 ldI .i64 (Addr.add p 0) (World.drew w4) fun t22 =>
 (I64 ((320:Int) * t22) ∧
 (I64 ((32:Int) + ((320:Int) * t22)) ∧
 ldI .i64 (Addr.add p 0) (World.drew w4) fun t26 =>
 ldI .i64 (Addr.add p 1) (World.drew w4) fun t28 =>
 (I64 (t26 + t28) ∧
 (I64 ((t26 + t28) * t18_1) ∧
 ldI .i64 (Addr.add p 0) (World.drew w4) fun t33 =>
 (I64 ((13:Int) * t33) ∧
 (I64 (((t26 + t28) * t18_1) + ((13:Int) * t33)) ∧
 (I64 ((32:Int) * (((t26 + t28) * t18_1) + ((13:Int) * t33))) ∧
 (I64 ((128:Int) + ((32:Int) * (((t26 + t28) * t18_1) + ((13:Int) * t33)))) ∧
 ldI .i64 (Addr.add p 8) (World.drew w4) fun t39 =>
 ldI .i64 (Addr.add p 1) (World.drew w4) fun t41 =>
 (I64 ((32:Int) * t41) ∧
 (I64 (((32:Int) * t41) * t18) ∧
 (I64 (t39 + (((32:Int) * t41) * t18)) ∧
 ldI .i64 (Addr.add p 5) (World.drew w4) fun t47 =>
 (I64 ((t39 + (((32:Int) * t41) * t18)) + t47) ∧
 ldI .i64 (Addr.add p 0) (World.drew w4) fun t50 =>
 (I64 (((t39 + (((32:Int) * t41) * t18)) + t47) + t50) ∧
 R (.tuple ⟨[.int .i64 ((32:Int) + ((320:Int) * t22)), .int .i64 ((128:Int) + ((32:Int) * (((t26 + t28) * t18_1) + ((13:Int) * t33)))), .int .i64 (((t39 + (((32:Int) * t41) * t18)) + t47) + t50)]⟩) (World.drew w4)))))))))))))))))
theorem V_ref11_Sizes_eq (setv : Int) (w : World) (R : Value → World → Prop) : evF Pr ⟨true, true⟩ [] [] Tryd.f84 [.int .i64 setv] w R = V_ref11_Sizes setv w R := by kernel_rfl
theorem V_ref11_Sizes_of {setv : Int} {w : World} {R : Value → World → Prop} (h : V_ref11_Sizes setv w R) : Ok Pr f_ref11_Sizes [.int .i64 setv] w R :=
  have g := (V_ref11_Sizes_eq setv w R).mpr h
  evF_ok good Tryd.func84 (by kernel_rfl) g

def V_ref15_Take (r : Option Addr) (lo : Int) (hi : Int) (w : World) (R : Value → World → Prop) : Prop :=
 nw t_api_Ask (zc Pr t_api_Ask) w fun p w1 =>
 callK Pr f_ref14_Reader_Number [.pointer r, .int .i64 lo, .int .i64 hi] w1 fun v w2 =>
 asI .i64 v fun t11 =>
 nw t_api_Ask (zc Pr t_api_Ask) w2 fun p_1 w3 =>
 sT_api_Ask p_1 t11 (0:Int) (0:Int) (0:Int) (0:Int) (0:Int) (0:Int) (0:Int) (0:Int) (0:Int) (0:Int) S_empty ⟨none, 0, 0⟩ ⟨none, 0, 0⟩ w3 fun w4 =>
 callK Pr f_ref14_Reader_Number [.pointer r, .int .i64 lo, .int .i64 hi] w4 fun v_1 w5 =>
 asI .i64 v_1 fun t16 =>
 st (Addr.add p_1 1) (.int .i64 t16) w5 fun w6 =>
 callK Pr f_ref14_Reader_Number [.pointer r, .int .i64 lo, .int .i64 hi] w6 fun v_2 w7 =>
 asI .i64 v_2 fun t21 =>
 st (Addr.add p_1 2) (.int .i64 t21) w7 fun w8 =>
 callK Pr f_ref14_Reader_Number [.pointer r, .int .i64 lo, .int .i64 hi] w8 fun v_3 w9 =>
 asI .i64 v_3 fun t26 =>
 st (Addr.add p_1 3) (.int .i64 t26) w9 fun w10 =>
 callK Pr f_ref14_Reader_Number [.pointer r, .int .i64 lo, .int .i64 hi] w10 fun v_4 w11 =>
 asI .i64 v_4 fun t31 =>
 st (Addr.add p_1 4) (.int .i64 t31) w11 fun w12 =>
 callK Pr f_ref14_Reader_Number [.pointer r, .int .i64 lo, .int .i64 hi] w12 fun v_5 w13 =>
 asI .i64 v_5 fun t36 =>
 st (Addr.add p_1 5) (.int .i64 t36) w13 fun w14 =>
 callK Pr f_ref14_Reader_Number [.pointer r, .int .i64 lo, .int .i64 hi] w14 fun v_6 w15 =>
 asI .i64 v_6 fun t41 =>
 st (Addr.add p_1 6) (.int .i64 t41) w15 fun w16 =>
 callK Pr f_ref14_Reader_Number [.pointer r, .int .i64 lo, .int .i64 hi] w16 fun v_7 w17 =>
 asI .i64 v_7 fun t46 =>
 st (Addr.add p_1 7) (.int .i64 t46) w17 fun w18 =>
 callK Pr f_ref14_Reader_Number [.pointer r, .int .i64 lo, .int .i64 hi] w18 fun v_8 w19 =>
 asI .i64 v_8 fun t51 =>
 st (Addr.add p_1 8) (.int .i64 t51) w19 fun w20 =>
 callK Pr f_ref14_Reader_Number [.pointer r, .int .i64 lo, .int .i64 hi] w20 fun v_9 w21 =>
 asI .i64 v_9 fun t56 =>
 st (Addr.add p_1 9) (.int .i64 t56) w21 fun w22 =>
 callK Pr f_ref14_Reader_Number [.pointer r, .int .i64 lo, .int .i64 hi] w22 fun v_10 w23 =>
 asI .i64 v_10 fun t61 =>
 st (Addr.add p_1 10) (.int .i64 t61) w23 fun w24 =>
 callK Pr f_ref14_Reader_Text [.pointer r, .int .i64 (300:Int)] w24 fun v_11 w25 =>
 asStr v_11 fun t64 =>
 st (Addr.add p_1 11) (.string t64) w25 fun w26 =>
 callK Pr f_ref14_Reader_Bytes [.pointer r, .int .i64 (2000:Int)] w26 fun v_12 w27 =>
 asSl v_12 fun t67 =>
 st (Addr.add p_1 12) (.slice t67.a t67.n t67.c) w27 fun w28 =>
 callK Pr f_ref14_Reader_Bytes [.pointer r, .int .i64 (100:Int)] w28 fun v_13 w29 =>
 asSl v_13 fun t70 =>
 st (Addr.add p_1 13) (.slice t70.a t70.n t70.c) w29 fun w30 =>
 ld_api_Ask p_1 w30 fun t72f0 t72f1 t72f2 t72f3 t72f4 t72f5 t72f6 t72f7 t72f8 t72f9 t72f10 t72f11 t72f12 t72f13 =>
 sT_api_Ask p t72f0 t72f1 t72f2 t72f3 t72f4 t72f5 t72f6 t72f7 t72f8 t72f9 t72f10 t72f11 t72f12 t72f13 w30 fun w31 =>
 ld_api_Ask p w31 fun resf0 resf1 resf2 resf3 resf4 resf5 resf6 resf7 resf8 resf9 resf10 resf11 resf12 resf13 =>
 R (.agg ⟨[.int .i64 resf0, .int .i64 resf1, .int .i64 resf2, .int .i64 resf3, .int .i64 resf4, .int .i64 resf5, .int .i64 resf6, .int .i64 resf7, .int .i64 resf8, .int .i64 resf9, .int .i64 resf10, .string resf11, .slice resf12.a resf12.n resf12.c, .slice resf13.a resf13.n resf13.c]⟩) w31
theorem V_ref15_Take_eq (r : Option Addr) (lo : Int) (hi : Int) (w : World) (R : Value → World → Prop) : evF Pr ⟨true, true⟩ [] [] Tryd.f85 [.pointer r, .int .i64 lo, .int .i64 hi] w R = V_ref15_Take r lo hi w R := by kernel_rfl
theorem V_ref15_Take_of {r : Option Addr} {lo : Int} {hi : Int} {w : World} {R : Value → World → Prop} (h : V_ref15_Take r lo hi w R) : Ok Pr f_ref15_Take [.pointer r, .int .i64 lo, .int .i64 hi] w R :=
  have g := (V_ref15_Take_eq r lo hi w R).mpr h
  evF_ok good Tryd.func85 (by kernel_rfl) g

def V_lay_Of (setv : Int) (w : World) (R : Value → World → Prop) : Prop :=
 nw t_lay_Set (zc Pr t_lay_Set) w fun p w1 =>
 iteP (decide (setv = (1:Int)))
 (sT_lay_Set p (4:Int) (4:Int) (2:Int) (39:Int) (78:Int) (80:Int) (131072:Int) (95232:Int) (32:Int) w1 fun w2 =>
 ld_lay_Set p w2 fun resf0 resf1 resf2 resf3 resf4 resf5 resf6 resf7 resf8 =>
 R (.tuple ⟨[.agg ⟨[.int .i64 resf0, .int .i64 resf1, .int .i64 resf2, .int .i64 resf3, .int .i64 resf4, .int .i64 resf5, .int .i64 resf6, .int .i64 resf7, .int .i64 resf8]⟩, .bool true]⟩) w2)
 (iteP (decide (setv = (2:Int)))
 (sT_lay_Set p (6:Int) (5:Int) (4:Int) (49:Int) (196:Int) (55:Int) (524288:Int) (261888:Int) (48:Int) w1 fun w3 =>
 ld_lay_Set p w3 fun resf0_1 resf1_1 resf2_1 resf3_1 resf4_1 resf5_1 resf6_1 resf7_1 resf8_1 =>
 R (.tuple ⟨[.agg ⟨[.int .i64 resf0_1, .int .i64 resf1_1, .int .i64 resf2_1, .int .i64 resf3_1, .int .i64 resf4_1, .int .i64 resf5_1, .int .i64 resf6_1, .int .i64 resf7_1, .int .i64 resf8_1]⟩, .bool true]⟩) w3)
 (iteP (decide (setv = (3:Int)))
 (sT_lay_Set p (8:Int) (7:Int) (2:Int) (60:Int) (120:Int) (75:Int) (524288:Int) (261888:Int) (64:Int) w1 fun w4 =>
 ld_lay_Set p w4 fun resf0_2 resf1_2 resf2_2 resf3_2 resf4_2 resf5_2 resf6_2 resf7_2 resf8_2 =>
 R (.tuple ⟨[.agg ⟨[.int .i64 resf0_2, .int .i64 resf1_2, .int .i64 resf2_2, .int .i64 resf3_2, .int .i64 resf4_2, .int .i64 resf5_2, .int .i64 resf6_2, .int .i64 resf7_2, .int .i64 resf8_2]⟩, .bool true]⟩) w4)
 (sT_lay_Set p (0:Int) (0:Int) (0:Int) (0:Int) (0:Int) (0:Int) (0:Int) (0:Int) (0:Int) w1 fun w5 =>
 ld_lay_Set p w5 fun resf0_3 resf1_3 resf2_3 resf3_3 resf4_3 resf5_3 resf6_3 resf7_3 resf8_3 =>
 R (.tuple ⟨[.agg ⟨[.int .i64 resf0_3, .int .i64 resf1_3, .int .i64 resf2_3, .int .i64 resf3_3, .int .i64 resf4_3, .int .i64 resf5_3, .int .i64 resf6_3, .int .i64 resf7_3, .int .i64 resf8_3]⟩, .bool false]⟩) w5)))
theorem V_lay_Of_eq (setv : Int) (w : World) (R : Value → World → Prop) : evF Pr ⟨true, true⟩ [] [] Tryd.f112 [.int .i64 setv] w R = V_lay_Of setv w R := by kernel_rfl
theorem V_lay_Of_of {setv : Int} {w : World} {R : Value → World → Prop} (h : V_lay_Of setv w R) : Ok Pr f_lay_Of [.int .i64 setv] w R :=
  have g := (V_lay_Of_eq setv w R).mpr h
  evF_ok good Tryd.func112 (by kernel_rfl) g

def V_lay_long (a : Int) (b : Int) (w : World) (R : Value → World → Prop) : Prop :=
 (I64 (a + b) ∧
 callK Pr f_math_bits_Len [.int .u64 (IntKind.wrap .u64 (a + b))] w fun v w1 =>
 asI .i64 v fun t9 =>
 R (.int .i64 t9) w1)
theorem V_lay_long_eq (a : Int) (b : Int) (w : World) (R : Value → World → Prop) : evF Pr ⟨true, true⟩ [] [] Tryd.f113 [.int .i64 a, .int .i64 b] w R = V_lay_long a b w R := by kernel_rfl
theorem V_lay_long_of {a : Int} {b : Int} {w : World} {R : Value → World → Prop} (h : V_lay_long a b w R) : Ok Pr f_lay_long [.int .i64 a, .int .i64 b] w R :=
  have g := (V_lay_long_eq a b w R).mpr h
  evF_ok good Tryd.func113 (by kernel_rfl) g

def V_ask_read_1 (free : Addr) (w : World) (R : Value → World → Prop) : Prop :=
 ldP free w fun t2 =>
 callK Pr f_code_Reader_Number [.pointer t2, .int .i64 (0:Int), .int .i64 (1099511627776:Int)] w fun v w1 =>
 asI .i64 v fun t3 =>
 R (.int .i64 t3) w1
theorem V_ask_read_1_eq (free : Addr) (w : World) (R : Value → World → Prop) : evF Pr ⟨true, true⟩ [] [] Tryd.f115 [.pointer (some free)] w R = V_ask_read_1 free w R := by kernel_rfl
theorem V_ask_read_1_of {free : Addr} {w : World} {R : Value → World → Prop} (h : V_ask_read_1 free w R) : Ok Pr f_ask_read_1 [.pointer (some free)] w R :=
  have g := (V_ask_read_1_eq free w R).mpr h
  evF_ok good Tryd.func115 (by kernel_rfl) g

def V_ref11_Of (setv : Int) (w : World) (R : Value → World → Prop) : Prop :=
 nw t_ref11_Set (zc Pr t_ref11_Set) w fun p w1 =>
 iteP (decide (setv = (1:Int)))
 (sT_ref11_Set p (4:Int) (4:Int) (2:Int) (39:Int) (78:Int) (80:Int) (131072:Int) (95232:Int) (32:Int) w1 fun w2 =>
 ld_ref11_Set p w2 fun resf0 resf1 resf2 resf3 resf4 resf5 resf6 resf7 resf8 =>
 R (.tuple ⟨[.agg ⟨[.int .i64 resf0, .int .i64 resf1, .int .i64 resf2, .int .i64 resf3, .int .i64 resf4, .int .i64 resf5, .int .i64 resf6, .int .i64 resf7, .int .i64 resf8]⟩, .bool true]⟩) w2)
 (iteP (decide (setv = (2:Int)))
 (sT_ref11_Set p (6:Int) (5:Int) (4:Int) (49:Int) (196:Int) (55:Int) (524288:Int) (261888:Int) (48:Int) w1 fun w3 =>
 ld_ref11_Set p w3 fun resf0_1 resf1_1 resf2_1 resf3_1 resf4_1 resf5_1 resf6_1 resf7_1 resf8_1 =>
 R (.tuple ⟨[.agg ⟨[.int .i64 resf0_1, .int .i64 resf1_1, .int .i64 resf2_1, .int .i64 resf3_1, .int .i64 resf4_1, .int .i64 resf5_1, .int .i64 resf6_1, .int .i64 resf7_1, .int .i64 resf8_1]⟩, .bool true]⟩) w3)
 (iteP (decide (setv = (3:Int)))
 (sT_ref11_Set p (8:Int) (7:Int) (2:Int) (60:Int) (120:Int) (75:Int) (524288:Int) (261888:Int) (64:Int) w1 fun w4 =>
 ld_ref11_Set p w4 fun resf0_2 resf1_2 resf2_2 resf3_2 resf4_2 resf5_2 resf6_2 resf7_2 resf8_2 =>
 R (.tuple ⟨[.agg ⟨[.int .i64 resf0_2, .int .i64 resf1_2, .int .i64 resf2_2, .int .i64 resf3_2, .int .i64 resf4_2, .int .i64 resf5_2, .int .i64 resf6_2, .int .i64 resf7_2, .int .i64 resf8_2]⟩, .bool true]⟩) w4)
 (sT_ref11_Set p (0:Int) (0:Int) (0:Int) (0:Int) (0:Int) (0:Int) (0:Int) (0:Int) (0:Int) w1 fun w5 =>
 ld_ref11_Set p w5 fun resf0_3 resf1_3 resf2_3 resf3_3 resf4_3 resf5_3 resf6_3 resf7_3 resf8_3 =>
 R (.tuple ⟨[.agg ⟨[.int .i64 resf0_3, .int .i64 resf1_3, .int .i64 resf2_3, .int .i64 resf3_3, .int .i64 resf4_3, .int .i64 resf5_3, .int .i64 resf6_3, .int .i64 resf7_3, .int .i64 resf8_3]⟩, .bool false]⟩) w5)))
theorem V_ref11_Of_eq (setv : Int) (w : World) (R : Value → World → Prop) : evF Pr ⟨true, true⟩ [] [] Tryd.f120 [.int .i64 setv] w R = V_ref11_Of setv w R := by kernel_rfl
theorem V_ref11_Of_of {setv : Int} {w : World} {R : Value → World → Prop} (h : V_ref11_Of setv w R) : Ok Pr f_ref11_Of [.int .i64 setv] w R :=
  have g := (V_ref11_Of_eq setv w R).mpr h
  evF_ok good Tryd.func120 (by kernel_rfl) g

def V_ref11_Wide (pc0 : Int) (pc1 : Int) (pc2 : Int) (pc3 : Int) (pc4 : Int) (pc5 : Int) (pc6 : Int) (pc7 : Int) (pc8 : Int) (w : World) (R : Value → World → Prop) : Prop :=
 nw t_ref11_Set [.int .i64 pc0, .int .i64 pc1, .int .i64 pc2, .int .i64 pc3, .int .i64 pc4, .int .i64 pc5, .int .i64 pc6, .int .i64 pc7, .int .i64 pc8] w fun p_1 w1 =>
 join1 (fun (z : Int) => [(4, some (.int .i64 z))])
 (fun z w2 => join1 (fun (s : Int) => [(5, some (.int .i64 s))])
 (fun s w3 => R (.tuple ⟨[.int .i64 z, .int .i64 s]⟩) w3)
 (fun go =>
 ldI .i64 (Addr.add p_1 2) w2 fun t10 =>
 iteP (decide (t10 = (2:Int)))
 (go (3:Int) w2)
 (go (4:Int) w2)))
 (fun go_1 =>
 ldI .i64 (Addr.add p_1 6) w1 fun t7 =>
 iteP (decide (t7 = (131072:Int)))
 (go_1 (18:Int) w1)
 (go_1 (20:Int) w1))
theorem V_ref11_Wide_eq (pc0 : Int) (pc1 : Int) (pc2 : Int) (pc3 : Int) (pc4 : Int) (pc5 : Int) (pc6 : Int) (pc7 : Int) (pc8 : Int) (w : World) (R : Value → World → Prop) : evF Pr ⟨true, true⟩ [(4, [(4, .int .i64)]), (6, [(5, .int .i64)])] [] Tryd.f121 [.agg ⟨[.int .i64 pc0, .int .i64 pc1, .int .i64 pc2, .int .i64 pc3, .int .i64 pc4, .int .i64 pc5, .int .i64 pc6, .int .i64 pc7, .int .i64 pc8]⟩] w R = V_ref11_Wide pc0 pc1 pc2 pc3 pc4 pc5 pc6 pc7 pc8 w R := by kernel_rfl
theorem V_ref11_Wide_of {pc0 : Int} {pc1 : Int} {pc2 : Int} {pc3 : Int} {pc4 : Int} {pc5 : Int} {pc6 : Int} {pc7 : Int} {pc8 : Int} {w : World} {R : Value → World → Prop} (h : V_ref11_Wide pc0 pc1 pc2 pc3 pc4 pc5 pc6 pc7 pc8 w R) : Ok Pr f_ref11_Wide [.agg ⟨[.int .i64 pc0, .int .i64 pc1, .int .i64 pc2, .int .i64 pc3, .int .i64 pc4, .int .i64 pc5, .int .i64 pc6, .int .i64 pc7, .int .i64 pc8]⟩] w R :=
  have g := (V_ref11_Wide_eq pc0 pc1 pc2 pc3 pc4 pc5 pc6 pc7 pc8 w R).mpr h
  evF_ok good Tryd.func121 (by kernel_rfl) g
end Go.Proofs.YtoeedbljiocpdaaDoor
