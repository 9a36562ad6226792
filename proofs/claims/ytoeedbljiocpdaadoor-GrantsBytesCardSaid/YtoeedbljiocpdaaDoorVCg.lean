/- WHAT THE CODE OF EACH FUNCTION ASKS FOR, by a program of this claim's author (vc.py); each is held against the code by the kernel. -/
import Derived.Test.YtoeedbljiocpdaaDoorN
import Derived.Test.YtoeedbljiocpdaaDoorEvOk8
import Derived.KernelRfl
import Derived.Test.YtoeedbljiocpdaaDoorVC
namespace Go.Proofs.YtoeedbljiocpdaaDoor
open Go Go.Ev
set_option maxRecDepth 100000
set_option linter.unusedVariables false
def V_law19_GrantsBytes (gc0 : Int) (gc1 : Int) (gc2 : Int) (gc3 : Int) (gc4 : Int) (gc5 : Bool) (secret : SlV) (many : Int) (w : World) (R : Value → World → Prop) : Prop :=
 nw t_api_Grant [.int .i64 gc0, .int .i64 gc1, .int .i64 gc2, .int .i64 gc3, .int .i64 gc4, .bool gc5] w fun p w1 =>
 iteP (decide ((100:Int) < ((secret.n : Nat) : Int)))
 (callK Pr f_law19_awake [] w1 fun v w2 =>
 asB v fun t20 =>
 R (.bool t20) w2)
 (ld_api_Grant p w1 fun t22f0 t22f1 t22f2 t22f3 t22f4 t22f5 =>
 callK Pr f_grants_Token [.slice secret.a secret.n secret.c, .agg ⟨[.int .i64 t22f0, .int .i64 t22f1, .int .i64 t22f2, .int .i64 t22f3, .int .i64 t22f4, .bool t22f5]⟩] w1 fun v_1 w3 =>
 asSl v_1 fun t23 =>
 ldI .i64 (Addr.add p 0) w3 fun t27 =>
 ldI .i64 (Addr.add p 1) w3 fun t29 =>
 ldI .i64 (Addr.add p 2) w3 fun t31 =>
 ldI .i64 (Addr.add p 3) w3 fun t33 =>
 ldI .i64 (Addr.add p 4) w3 fun t35 =>
 nw t_int [.int .i64 ((secret.n : Nat) : Int), .int .i64 t27, .int .i64 t29, .int .i64 t31, .int .i64 t33, .int .i64 t35] w3 fun p_1 w4 =>
 loop2 (fun (b : SlV) (i : Int) => [(8, some (.slice b.a b.n b.c)), (10, some (.int .i64 i))])
 (fun again b i w5 => iteP (decide (i < ((6 : Nat) : Int)))
 (loop2 (fun (b_1 : SlV) (kv : Int) => [(8, some (.slice b_1.a b_1.n b_1.c)), (11, some (.int .i64 kv))])
 (fun again_1 b_1 kv w6 => iteP (decide ((0:Int) ≤ kv))
 (idxS (some p_1) i 6
 (ldI .i64 (Addr.add (base (some p_1)) (Int.toNat i * 1)) w6 fun t51 =>
 (I64 ((8:Int) * kv) ∧
 cnt ((8:Int) * kv) (nw t_uint8 [.int .u8 (IntKind.wrap .u8 (shr .u64 (IntKind.wrap .u64 (t51)) ((8:Int) * kv)))] w6 fun p_2 w7 =>
 appK Pr [t_s_uint8, t_s_uint8] t_s_uint8 [.slice b_1.a b_1.n b_1.c, .slice (some p_2) 1 1] w7 fun t58 w8 =>
 (I64 (kv - (1:Int)) ∧
 again_1 t58 (kv - (1:Int)) w8)))))
 (iteP (decide (i = (0:Int)))
 (appK Pr [t_s_uint8, t_s_uint8] t_s_uint8 [.slice b_1.a b_1.n b_1.c, .slice secret.a secret.n secret.c] w6 fun t63 w9 =>
 (I64 (i + (1:Int)) ∧
 again t63 (i + (1:Int)) w9))
 ((I64 (i + (1:Int)) ∧
 again b_1 (i + (1:Int)) w6))))
 b (7:Int) w5)
 (join0 []
 (fun w10 => loop2 (fun (x : SlV) (i_1 : Int) => [(12, some (.slice x.a x.n x.c)), (13, some (.int .i64 i_1))])
 (fun again_2 x i_1 w11 => callK Pr f_law0_Low [.int .i64 many, .int .i64 (11:Int)] w11 fun v_2 w12 =>
 asI .i64 v_2 fun t77 =>
 iteP (decide (i_1 ≤ t77))
 (callK Pr f_law19_one [] w12 fun v_3 w13 =>
 as_api_Grant v_3 fun t83 t83_1 t83_2 t83_3 t83_4 t83_5 =>
 callK Pr f_grants_Add [.slice x.a x.n x.c, .agg ⟨[.int .i64 t83, .int .i64 t83_1, .int .i64 t83_2, .int .i64 t83_3, .int .i64 t83_4, .bool t83_5]⟩] w13 fun v_4 w14 =>
 destr.asArr' v_4 fun vs =>
 uncons vs fun v_5 r =>
 asSl v_5 fun t84 =>
 uncons r fun v_6 r_1 =>
 asI .i64 v_6 fun t84_1 =>
 uncons r_1 fun v_7 r_2 =>
 (r_2 = [] ∧
 iteP (decide ((8:Int) < i_1))
 (iteP ((decide (t84_1 = (0:Int))) && (decide (((t84.n : Nat) : Int) = (0:Int))))
 (callK Pr f_law0_Num [v_7] w14 fun v_8 w15 =>
 asI .i64 v_8 fun t99 =>
 iteP (decide (t99 = (12:Int)))
 (callK Pr f_law19_awake [] w15 fun v_9 w16 =>
 asB v_9 fun t103 =>
 R (.bool t103) w16)
 (R (.bool false) w15))
 (R (.bool false) w14))
 (ifaceNil v_7 fun nil =>
 iteP (((!nil) || (!decide (t84_1 = i_1))) || (!decide (((t84.n : Nat) : Int) = i_1)))
 (R (.bool false) w14)
 (callK Pr f_grants_May [.slice t84.a t84.n t84.c] w14 fun v_10 w17 =>
 asB v_10 fun t120 =>
 iteP (!t120)
 (R (.bool false) w17)
 ((I64 (i_1 + (1:Int)) ∧
 again_2 t84 (i_1 + (1:Int)) w17))))))
 (callK Pr f_law19_awake [] w12 fun v_11 w18 =>
 asB v_11 fun t124 =>
 R (.bool t124) w18))
 ⟨none, 0, 0⟩ (1:Int) w10)
 (fun go =>
 ldI .i64 (Addr.add p 0) (World.drew w5) fun t66 =>
 ((nw t_uint8 [.int .u8 (IntKind.wrap .u8 (t66))] (World.drew w5) fun p_3 w19 =>
 nw t_s_uint8 [.slice b.a b.n b.c] w19 fun p_4 w20 =>
 (kept (Addr.add p 0) 1 w19 w20 ∧
 callK Pr f_sponge_Shake256 [.int .i64 (32:Int), .slice (some p_4) 1 1] w20 fun v_12 w21 =>
 asSl v_12 fun t71 =>
 (kept (Addr.add p 0) 1 w20 w21 ∧
 appK Pr [t_s_uint8, t_s_uint8] t_s_uint8 [.slice (some p_3) 1 1, .slice t71.a t71.n t71.c] w21 fun t72 w22 =>
 callK Pr f_law0_SameBytes [.slice t23.a t23.n t23.c, .slice t72.a t72.n t72.c] w22 fun v_13 w23 =>
 asB v_13 fun t73 =>
 iteP (!t73)
 (R (.bool false) w23)
 (go w23)))) ∧
 (nw t_s_uint8 [.slice b.a b.n b.c] (World.drew w5) fun p_5 w24 =>
 (kept (Addr.add p 0) 1 (World.drew w5) w24 ∧
 ((nw t_uint8 [.int .u8 (IntKind.wrap .u8 (t66))] w24 fun p_6 w25 =>
 callK Pr f_sponge_Shake256 [.int .i64 (32:Int), .slice (some p_5) 1 1] w25 fun v_14 w26 =>
 asSl v_14 fun t71_1 =>
 (kept (Addr.add p 0) 1 w25 w26 ∧
 appK Pr [t_s_uint8, t_s_uint8] t_s_uint8 [.slice (some p_6) 1 1, .slice t71_1.a t71_1.n t71_1.c] w26 fun t72_1 w27 =>
 callK Pr f_law0_SameBytes [.slice t23.a t23.n t23.c, .slice t72_1.a t72_1.n t72_1.c] w27 fun v_15 w28 =>
 asB v_15 fun t73_1 =>
 iteP (!t73_1)
 (R (.bool false) w28)
 (go w28))) ∧
 (callK Pr f_sponge_Shake256 [.int .i64 (32:Int), .slice (some p_5) 1 1] w24 fun v_16 w29 =>
 asSl v_16 fun t71_2 =>
 (kept (Addr.add p 0) 1 w24 w29 ∧
 nw t_uint8 [.int .u8 (IntKind.wrap .u8 (t66))] w29 fun p_7 w30 =>
 appK Pr [t_s_uint8, t_s_uint8] t_s_uint8 [.slice (some p_7) 1 1, .slice t71_2.a t71_2.n t71_2.c] w30 fun t72_2 w31 =>
 callK Pr f_law0_SameBytes [.slice t23.a t23.n t23.c, .slice t72_2.a t72_2.n t72_2.c] w31 fun v_17 w32 =>
 asB v_17 fun t73_2 =>
 iteP (!t73_2)
 (R (.bool false) w32)
 (go w32))))))))))
 ⟨none, 0, 0⟩ (0:Int) w4)
theorem V_law19_GrantsBytes_eq (gc0 : Int) (gc1 : Int) (gc2 : Int) (gc3 : Int) (gc4 : Int) (gc5 : Bool) (secret : SlV) (many : Int) (w : World) (R : Value → World → Prop) : evF Pr ⟨true, true⟩ [(17, [])] [(7, [(8, .sl), (10, .int .i64)]), (10, [(8, .sl), (11, .int .i64)]), (19, [(12, .sl), (13, .int .i64)])] Tryd.f9 [.agg ⟨[.int .i64 gc0, .int .i64 gc1, .int .i64 gc2, .int .i64 gc3, .int .i64 gc4, .bool gc5]⟩, .slice secret.a secret.n secret.c, .int .i64 many] w R = V_law19_GrantsBytes gc0 gc1 gc2 gc3 gc4 gc5 secret many w R := by kernel_rfl
theorem V_law19_GrantsBytes_of {gc0 : Int} {gc1 : Int} {gc2 : Int} {gc3 : Int} {gc4 : Int} {gc5 : Bool} {secret : SlV} {many : Int} {w : World} {R : Value → World → Prop} (h : V_law19_GrantsBytes gc0 gc1 gc2 gc3 gc4 gc5 secret many w R) : Ok Pr f_law19_GrantsBytes [.agg ⟨[.int .i64 gc0, .int .i64 gc1, .int .i64 gc2, .int .i64 gc3, .int .i64 gc4, .bool gc5]⟩, .slice secret.a secret.n secret.c, .int .i64 many] w R :=
  have g := (V_law19_GrantsBytes_eq gc0 gc1 gc2 gc3 gc4 gc5 secret many w R).mpr h
  evF_ok good Tryd.func9 (by kernel_rfl) g

def V_law19_GrantsTell (x : SlV) (gc0 : Int) (gc1 : Int) (gc2 : Int) (gc3 : Int) (gc4 : Int) (gc5 : Bool) (idv : Int) (secret : SlV) (token : SlV) (key : Int) (who : Int) (op : Int) (clock : Int) (w : World) (R : Value → World → Prop) : Prop :=
 nw t_api_Grant [.int .i64 gc0, .int .i64 gc1, .int .i64 gc2, .int .i64 gc3, .int .i64 gc4, .bool gc5] w fun p w1 =>
 iteP (((decide ((12:Int) < ((x.n : Nat) : Int))) || (decide ((100:Int) < ((secret.n : Nat) : Int)))) || (decide ((100:Int) < ((token.n : Nat) : Int))))
 (callK Pr f_law19_awake [] w1 fun v w2 =>
 asB v fun t49 =>
 R (.bool t49) w2)
 (appK Pr [t_s_api_Grant, t_s_api_Grant] t_s_api_Grant [.slice none 0 0, .slice x.a x.n x.c] w1 fun t51 w3 =>
 ld_api_Grant p w3 fun t54f0 t54f1 t54f2 t54f3 t54f4 t54f5 =>
 callK Pr f_grants_Add [.slice x.a x.n x.c, .agg ⟨[.int .i64 t54f0, .int .i64 t54f1, .int .i64 t54f2, .int .i64 t54f3, .int .i64 t54f4, .bool t54f5]⟩] w3 fun v_1 w4 =>
 destr.asArr' v_1 fun vs =>
 uncons vs fun v_2 r =>
 asSl v_2 fun t55 =>
 uncons r fun v_3 r_1 =>
 asI .i64 v_3 fun t55_1 =>
 uncons r_1 fun v_4 r_2 =>
 (r_2 = [] ∧
 ld_api_Grant p w4 fun t61f0 t61f1 t61f2 t61f3 t61f4 t61f5 =>
 callK Pr f_ref19_Add [.slice x.a x.n x.c, .agg ⟨[.int .i64 t61f0, .int .i64 t61f1, .int .i64 t61f2, .int .i64 t61f3, .int .i64 t61f4, .bool t61f5]⟩] w4 fun v_5 w5 =>
 destr.asArr' v_5 fun vs_1 =>
 uncons vs_1 fun v_6 r_3 =>
 asSl v_6 fun t62 =>
 uncons r_3 fun v_7 r_4 =>
 asI .i64 v_7 fun t62_1 =>
 uncons r_4 fun v_8 r_5 =>
 asI .i64 v_8 fun t62_2 =>
 (r_5 = [] ∧
 callK Pr f_grants_Revoke [.slice x.a x.n x.c, .int .i64 idv] w5 fun v_9 w6 =>
 destr.asArr' v_9 fun vs_2 =>
 uncons vs_2 fun v_10 r_6 =>
 asSl v_10 fun t69 =>
 uncons r_6 fun v_11 r_7 =>
 (r_7 = [] ∧
 callK Pr f_ref19_Revoke [.slice x.a x.n x.c, .int .i64 idv] w6 fun v_12 w7 =>
 destr.asArr' v_12 fun vs_3 =>
 uncons vs_3 fun v_13 r_8 =>
 asSl v_13 fun t75 =>
 uncons r_8 fun v_14 r_9 =>
 asI .i64 v_14 fun t75_1 =>
 (r_9 = [] ∧
 ld_api_Grant p w7 fun t79f0 t79f1 t79f2 t79f3 t79f4 t79f5 =>
 callK Pr f_grants_Token [.slice secret.a secret.n secret.c, .agg ⟨[.int .i64 t79f0, .int .i64 t79f1, .int .i64 t79f2, .int .i64 t79f3, .int .i64 t79f4, .bool t79f5]⟩] w7 fun v_15 w8 =>
 asSl v_15 fun t80 =>
 callK Pr f_grants_Check [.slice x.a x.n x.c, .slice secret.a secret.n secret.c, .slice token.a token.n token.c] w8 fun v_16 w9 =>
 destr.asArr' v_16 fun vs_4 =>
 uncons vs_4 fun v_17 r_10 =>
 as_api_Grant v_17 fun t85 t85_1 t85_2 t85_3 t85_4 t85_5 =>
 uncons r_10 fun v_18 r_11 =>
 (r_11 = [] ∧
 nw t_api_Grant (zc Pr t_api_Grant) w9 fun p_1 w10 =>
 sT_api_Grant p_1 t85 t85_1 t85_2 t85_3 t85_4 t85_5 w10 fun w11 =>
 callK Pr f_ref19_Check [.slice x.a x.n x.c, .slice secret.a secret.n secret.c, .slice token.a token.n token.c] w11 fun v_19 w12 =>
 destr.asArr' v_19 fun vs_5 =>
 uncons vs_5 fun v_20 r_12 =>
 as_api_Grant v_20 fun t92 t92_1 t92_2 t92_3 t92_4 t92_5 =>
 uncons r_12 fun v_21 r_13 =>
 asI .i64 v_21 fun t92_6 =>
 (r_13 = [] ∧
 nw t_api_Grant (zc Pr t_api_Grant) w12 fun p_2 w13 =>
 sT_api_Grant p_2 t92 t92_1 t92_2 t92_3 t92_4 t92_5 w13 fun w14 =>
 join1 (fun (okv : Bool) => [(35, some (.bool okv))])
 (fun okv w15 => callK Pr f_law0_OverGrants [.slice t55.a t55.n t55.c] w15 fun v_22 w16 =>
 callK Pr f_law0_OverGrants [.slice t69.a t69.n t69.c] w16 fun v_23 w17 =>
 iteP okv
 (callK Pr f_law0_SameGrants [.slice x.a x.n x.c, .slice t51.a t51.n t51.c] w17 fun v_24 w18 =>
 asB v_24 fun t169 =>
 iteP t169
 (callK Pr f_law19_awake [] w18 fun v_25 w19 =>
 asB v_25 fun t172 =>
 R (.bool t172) w19)
 (R (.bool false) w18))
 (R (.bool false) w17))
 (fun go =>
 callK Pr f_law0_SameGrants [.slice t55.a t55.n t55.c, .slice t62.a t62.n t62.c] (World.drew w14) fun v_26 w20 =>
 asB v_26 fun t97 =>
 iteP (t97 && (decide (t55_1 = t62_1)))
 (callK Pr f_law0_Num [v_4] w20 fun v_27 w21 =>
 asI .i64 v_27 fun t105 =>
 iteP (decide (t105 = t62_2))
 (callK Pr f_law0_SameGrants [.slice t69.a t69.n t69.c, .slice t75.a t75.n t75.c] w21 fun v_28 w22 =>
 asB v_28 fun t112 =>
 iteP t112
 (callK Pr f_law0_Num [v_11] w22 fun v_29 w23 =>
 asI .i64 v_29 fun t116 =>
 ld_api_Grant p w23 fun t123f0 t123f1 t123f2 t123f3 t123f4 t123f5 =>
 iteP (decide (t116 = t75_1))
 (callK Pr f_ref19_Token [.slice secret.a secret.n secret.c, .agg ⟨[.int .i64 t123f0, .int .i64 t123f1, .int .i64 t123f2, .int .i64 t123f3, .int .i64 t123f4, .bool t123f5]⟩] w23 fun v_30 w24 =>
 asSl v_30 fun t124 =>
 callK Pr f_law0_SameBytes [.slice t80.a t80.n t80.c, .slice t124.a t124.n t124.c] w24 fun v_31 w25 =>
 asB v_31 fun t125 =>
 ld_api_Grant p_1 w25 fun t128f0 t128f1 t128f2 t128f3 t128f4 t128f5 =>
 ld_api_Grant p_2 w25 fun t129f0 t129f1 t129f2 t129f3 t129f4 t129f5 =>
 iteP t125
 (eqK Pr .eql t_api_Grant [.int .i64 t128f0, .int .i64 t128f1, .int .i64 t128f2, .int .i64 t128f3, .int .i64 t128f4, .bool t128f5] [.int .i64 t129f0, .int .i64 t129f1, .int .i64 t129f2, .int .i64 t129f3, .int .i64 t129f4, .bool t129f5] w25 fun same w26 =>
 iteP same
 (callK Pr f_law0_Num [v_18] w26 fun v_32 w27 =>
 asI .i64 v_32 fun t134 =>
 ld_api_Grant p w27 fun t139f0 t139f1 t139f2 t139f3 t139f4 t139f5 =>
 ld_api_Grant p w27 fun t146f0 t146f1 t146f2 t146f3 t146f4 t146f5 =>
 iteP (decide (t134 = t92_6))
 (callK Pr f_grants_Allows [.agg ⟨[.int .i64 t139f0, .int .i64 t139f1, .int .i64 t139f2, .int .i64 t139f3, .int .i64 t139f4, .bool t139f5]⟩, .int .i64 key, .int .i64 who, .int .i64 op, .int .i64 clock] w27 fun v_33 w28 =>
 (kept p 6 w27 w28 ∧
 callK Pr f_law0_Num [v_33] w28 fun v_34 w29 =>
 asI .i64 v_34 fun t145 =>
 (kept p 6 w28 w29 ∧
 callK Pr f_ref19_Allows [.agg ⟨[.int .i64 t146f0, .int .i64 t146f1, .int .i64 t146f2, .int .i64 t146f3, .int .i64 t146f4, .bool t146f5]⟩, .int .i64 key, .int .i64 who, .int .i64 op, .int .i64 clock] w29 fun v_35 w30 =>
 asI .i64 v_35 fun t151 =>
 iteP (decide (t145 = t151))
 (callK Pr f_grants_May [.slice x.a x.n x.c] w30 fun v_36 w31 =>
 asB v_36 fun t156 =>
 callK Pr f_ref19_May [.slice x.a x.n x.c] w31 fun v_37 w32 =>
 asB v_37 fun t158 =>
 go (t156 == t158) w32)
 (go false w30))))
 ((kept p 6 w27 w27 ∧
 (kept p 6 w27 w27 ∧
 go false w27))))
 (ld_api_Grant p w26 fun t139f0_1 t139f1_1 t139f2_1 t139f3_1 t139f4_1 t139f5_1 =>
 ld_api_Grant p w26 fun t146f0_1 t146f1_1 t146f2_1 t146f3_1 t146f4_1 t146f5_1 =>
 (kept p 6 w26 w26 ∧
 (kept p 6 w26 w26 ∧
 go false w26))))
 (ld_api_Grant p w25 fun t139f0_2 t139f1_2 t139f2_2 t139f3_2 t139f4_2 t139f5_2 =>
 ld_api_Grant p w25 fun t146f0_2 t146f1_2 t146f2_2 t146f3_2 t146f4_2 t146f5_2 =>
 (kept p 6 w25 w25 ∧
 (kept p 6 w25 w25 ∧
 go false w25))))
 (ld_api_Grant p_1 w23 fun t128f0_1 t128f1_1 t128f2_1 t128f3_1 t128f4_1 t128f5_1 =>
 ld_api_Grant p_2 w23 fun t129f0_1 t129f1_1 t129f2_1 t129f3_1 t129f4_1 t129f5_1 =>
 ld_api_Grant p w23 fun t139f0_3 t139f1_3 t139f2_3 t139f3_3 t139f4_3 t139f5_3 =>
 ld_api_Grant p w23 fun t146f0_3 t146f1_3 t146f2_3 t146f3_3 t146f4_3 t146f5_3 =>
 (kept p 6 w23 w23 ∧
 (kept p 6 w23 w23 ∧
 go false w23))))
 (ld_api_Grant p w22 fun t123f0_1 t123f1_1 t123f2_1 t123f3_1 t123f4_1 t123f5_1 =>
 ld_api_Grant p_1 w22 fun t128f0_2 t128f1_2 t128f2_2 t128f3_2 t128f4_2 t128f5_2 =>
 ld_api_Grant p_2 w22 fun t129f0_2 t129f1_2 t129f2_2 t129f3_2 t129f4_2 t129f5_2 =>
 ld_api_Grant p w22 fun t139f0_4 t139f1_4 t139f2_4 t139f3_4 t139f4_4 t139f5_4 =>
 ld_api_Grant p w22 fun t146f0_4 t146f1_4 t146f2_4 t146f3_4 t146f4_4 t146f5_4 =>
 (kept p 6 w22 w22 ∧
 (kept p 6 w22 w22 ∧
 go false w22))))
 (ld_api_Grant p w21 fun t123f0_2 t123f1_2 t123f2_2 t123f3_2 t123f4_2 t123f5_2 =>
 ld_api_Grant p_1 w21 fun t128f0_3 t128f1_3 t128f2_3 t128f3_3 t128f4_3 t128f5_3 =>
 ld_api_Grant p_2 w21 fun t129f0_3 t129f1_3 t129f2_3 t129f3_3 t129f4_3 t129f5_3 =>
 ld_api_Grant p w21 fun t139f0_5 t139f1_5 t139f2_5 t139f3_5 t139f4_5 t139f5_5 =>
 ld_api_Grant p w21 fun t146f0_5 t146f1_5 t146f2_5 t146f3_5 t146f4_5 t146f5_5 =>
 (kept p 6 w21 w21 ∧
 (kept p 6 w21 w21 ∧
 go false w21))))
 (ld_api_Grant p w20 fun t123f0_3 t123f1_3 t123f2_3 t123f3_3 t123f4_3 t123f5_3 =>
 ld_api_Grant p_1 w20 fun t128f0_4 t128f1_4 t128f2_4 t128f3_4 t128f4_4 t128f5_4 =>
 ld_api_Grant p_2 w20 fun t129f0_4 t129f1_4 t129f2_4 t129f3_4 t129f4_4 t129f5_4 =>
 ld_api_Grant p w20 fun t139f0_6 t139f1_6 t139f2_6 t139f3_6 t139f4_6 t139f5_6 =>
 ld_api_Grant p w20 fun t146f0_6 t146f1_6 t146f2_6 t146f3_6 t146f4_6 t146f5_6 =>
 (kept p 6 w20 w20 ∧
 (kept p 6 w20 w20 ∧
 go false w20)))))))))))
theorem V_law19_GrantsTell_eq (x : SlV) (gc0 : Int) (gc1 : Int) (gc2 : Int) (gc3 : Int) (gc4 : Int) (gc5 : Bool) (idv : Int) (secret : SlV) (token : SlV) (key : Int) (who : Int) (op : Int) (clock : Int) (w : World) (R : Value → World → Prop) : evF Pr ⟨true, true⟩ [(12, [(35, .bool)])] [] Tryd.f10 [.slice x.a x.n x.c, .agg ⟨[.int .i64 gc0, .int .i64 gc1, .int .i64 gc2, .int .i64 gc3, .int .i64 gc4, .bool gc5]⟩, .int .i64 idv, .slice secret.a secret.n secret.c, .slice token.a token.n token.c, .int .i64 key, .int .i64 who, .int .i64 op, .int .i64 clock] w R = V_law19_GrantsTell x gc0 gc1 gc2 gc3 gc4 gc5 idv secret token key who op clock w R := by kernel_rfl
theorem V_law19_GrantsTell_of {x : SlV} {gc0 : Int} {gc1 : Int} {gc2 : Int} {gc3 : Int} {gc4 : Int} {gc5 : Bool} {idv : Int} {secret : SlV} {token : SlV} {key : Int} {who : Int} {op : Int} {clock : Int} {w : World} {R : Value → World → Prop} (h : V_law19_GrantsTell x gc0 gc1 gc2 gc3 gc4 gc5 idv secret token key who op clock w R) : Ok Pr f_law19_GrantsTell [.slice x.a x.n x.c, .agg ⟨[.int .i64 gc0, .int .i64 gc1, .int .i64 gc2, .int .i64 gc3, .int .i64 gc4, .bool gc5]⟩, .int .i64 idv, .slice secret.a secret.n secret.c, .slice token.a token.n token.c, .int .i64 key, .int .i64 who, .int .i64 op, .int .i64 clock] w R :=
  have g := (V_law19_GrantsTell_eq x gc0 gc1 gc2 gc3 gc4 gc5 idv secret token key who op clock w R).mpr h
  evF_ok good Tryd.func10 (by kernel_rfl) g

def V_law19_GrantsTokens (gs : SlV) (secret : SlV) (which : Int) (atv : Int) (byv : Int) (w : World) (R : Value → World → Prop) : Prop :=
 iteP ((decide ((8:Int) < ((gs.n : Nat) : Int))) || (decide ((100:Int) < ((secret.n : Nat) : Int))))
 (callK Pr f_law19_awake [] w fun v w1 =>
 asB v fun t36 =>
 R (.bool t36) w1)
 (loop2 (fun (x : SlV) (i : Int) => [(11, some (.slice x.a x.n x.c)), (12, some (.int .i64 i))])
 (fun again x i w2 => iteP (decide (i < ((gs.n : Nat) : Int)))
 (idxS gs.a i gs.n
 (ld_api_Grant (Addr.add (base gs.a) (Int.toNat i * 6)) w2 fun t48f0 t48f1 t48f2 t48f3 t48f4 t48f5 =>
 callK Pr f_grants_Add [.slice x.a x.n x.c, .agg ⟨[.int .i64 t48f0, .int .i64 t48f1, .int .i64 t48f2, .int .i64 t48f3, .int .i64 t48f4, .bool t48f5]⟩] w2 fun v_1 w3 =>
 destr.asArr' v_1 fun vs =>
 uncons vs fun v_2 r =>
 asSl v_2 fun t49 =>
 uncons r fun v_3 r_1 =>
 asI .i64 v_3 fun t49_1 =>
 uncons r_1 fun v_4 r_2 =>
 (r_2 = [] ∧
 ifaceNil v_4 fun nil =>
 iteP nil
 ((I64 (i + (1:Int)) ∧
 again t49 (i + (1:Int)) w3))
 ((I64 (i + (1:Int)) ∧
 again x (i + (1:Int)) w3)))))
 (iteP (decide (((x.n : Nat) : Int) = (0:Int)))
 (callK Pr f_law19_awake [] w2 fun v_5 w4 =>
 asB v_5 fun t59 =>
 R (.bool t59) w4)
 (callK Pr f_law0_Low [.int .i64 which, .int .i64 ((x.n : Nat) : Int)] w2 fun v_6 w5 =>
 asI .i64 v_6 fun t64 =>
 idxS x.a t64 x.n
 (ld_api_Grant (Addr.add (base x.a) (Int.toNat t64 * 6)) w5 fun t66f0 t66f1 t66f2 t66f3 t66f4 t66f5 =>
 nw t_api_Grant (zc Pr t_api_Grant) w5 fun p w6 =>
 sT_api_Grant p t66f0 t66f1 t66f2 t66f3 t66f4 t66f5 w6 fun w7 =>
 ldI .i64 (Addr.add p 0) w7 fun t68 =>
 ldI .i64 (Addr.add p 0) w7 fun t72 =>
 iteP ((decide (t68 < (1:Int))) || (decide (((x.n : Nat) : Int) < t72)))
 (R (.bool false) w7)
 (ld_api_Grant p w7 fun t78f0 t78f1 t78f2 t78f3 t78f4 t78f5 =>
 callK Pr f_grants_Token [.slice secret.a secret.n secret.c, .agg ⟨[.int .i64 t78f0, .int .i64 t78f1, .int .i64 t78f2, .int .i64 t78f3, .int .i64 t78f4, .bool t78f5]⟩] w7 fun v_7 w8 =>
 asSl v_7 fun t79 =>
 callK Pr f_grants_Check [.slice x.a x.n x.c, .slice secret.a secret.n secret.c, .slice t79.a t79.n t79.c] w8 fun v_8 w9 =>
 destr.asArr' v_8 fun vs_1 =>
 uncons vs_1 fun v_9 r_3 =>
 as_api_Grant v_9 fun t84 t84_1 t84_2 t84_3 t84_4 t84_5 =>
 uncons r_3 fun v_10 r_4 =>
 (r_4 = [] ∧
 nw t_api_Grant (zc Pr t_api_Grant) w9 fun p_1 w10 =>
 sT_api_Grant p_1 t84 t84_1 t84_2 t84_3 t84_4 t84_5 w10 fun w11 =>
 join0 []
 (fun w12 => callK Pr f_law0_Low [.int .i64 atv, .int .i64 (33:Int)] w12 fun v_11 w13 =>
 asI .i64 v_11 fun t104 =>
 idxS t79.a t104 t79.n
 (ldI .u8 (Addr.add (base t79.a) (Int.toNat t104 * 1)) w13 fun t106 =>
 idxS t79.a t104 t79.n
 (st (Addr.add (base t79.a) (Int.toNat t104 * 1)) (.int .u8 (xorI .u8 t106 byv)) w13 fun w14 =>
 callK Pr f_grants_Check [.slice x.a x.n x.c, .slice secret.a secret.n secret.c, .slice t79.a t79.n t79.c] w14 fun v_12 w15 =>
 destr.asArr' v_12 fun vs_2 =>
 uncons vs_2 fun v_13 r_5 =>
 as_api_Grant v_13 fun t114 t114_1 t114_2 t114_3 t114_4 t114_5 =>
 uncons r_5 fun v_14 r_6 =>
 (r_6 = [] ∧
 nw t_api_Grant (zc Pr t_api_Grant) w15 fun p_2 w16 =>
 sT_api_Grant p_2 t114 t114_1 t114_2 t114_3 t114_4 t114_5 w16 fun w17 =>
 callK Pr f_ref19_Check [.slice x.a x.n x.c, .slice secret.a secret.n secret.c, .slice t79.a t79.n t79.c] w17 fun v_15 w18 =>
 destr.asArr' v_15 fun vs_3 =>
 uncons vs_3 fun v_16 r_7 =>
 as_api_Grant v_16 fun t121 t121_1 t121_2 t121_3 t121_4 t121_5 =>
 uncons r_7 fun v_17 r_8 =>
 asI .i64 v_17 fun t121_6 =>
 (r_8 = [] ∧
 nw t_api_Grant (zc Pr t_api_Grant) w18 fun p_3 w19 =>
 sT_api_Grant p_3 t121 t121_1 t121_2 t121_3 t121_4 t121_5 w19 fun w20 =>
 ldI .i64 (Addr.add p 0) w20 fun t127 =>
 callK Pr f_grants_Revoke [.slice x.a x.n x.c, .int .i64 t127] w20 fun v_18 w21 =>
 destr.asArr' v_18 fun vs_4 =>
 uncons vs_4 fun v_19 r_9 =>
 asSl v_19 fun t128 =>
 uncons r_9 fun v_20 r_10 =>
 (r_10 = [] ∧
 join0 []
 (fun w22 => ldI .i64 (Addr.add p 0) w22 fun t154 =>
 callK Pr f_grants_Revoke [.slice t128.a t128.n t128.c, .int .i64 t154] w22 fun v_21 w23 =>
 destr.asArr' v_21 fun vs_5 =>
 uncons vs_5 fun v_22 r_11 =>
 asSl v_22 fun t155 =>
 uncons r_11 fun v_23 r_12 =>
 (r_12 = [] ∧
 ldI .i64 (Addr.add p 0) (World.drew w23) fun t160 =>
 (I64 (t160 - (1:Int)) ∧
 idxS t128.a (t160 - (1:Int)) t128.n
 (ld_api_Grant (Addr.add (base t128.a) (Int.toNat (t160 - (1:Int)) * 6)) (World.drew w23) fun t163f0 t163f1 t163f2 t163f3 t163f4 t163f5 =>
 ldI .i64 (Addr.add p 1) (World.drew w23) fun t165 =>
 ldI .i64 (Addr.add p 2) (World.drew w23) fun t167 =>
 callK Pr f_grants_Allows [.agg ⟨[.int .i64 t163f0, .int .i64 t163f1, .int .i64 t163f2, .int .i64 t163f3, .int .i64 t163f4, .bool t163f5]⟩, .int .i64 t165, .int .i64 t167, .int .i64 (10:Int), .int .i64 (0:Int)] (World.drew w23) fun v_24 w24 =>
 callK Pr f_law0_Num [v_24] w24 fun v_25 w25 =>
 asI .i64 v_25 fun t169 =>
 iteP (decide (t169 = (10:Int)))
 (callK Pr f_law0_Num [v_23] w25 fun v_26 w26 =>
 asI .i64 v_26 fun t173 =>
 iteP (decide (t173 = (11:Int)))
 (callK Pr f_law19_awake [] w26 fun v_27 w27 =>
 asB v_27 fun t177 =>
 R (.bool t177) w27)
 (R (.bool false) w26))
 (R (.bool false) w25)))))
 (fun go =>
 ld_api_Grant p_2 w21 fun t131f0 t131f1 t131f2 t131f3 t131f4 t131f5 =>
 ld_api_Grant p_3 w21 fun t132f0 t132f1 t132f2 t132f3 t132f4 t132f5 =>
 eqK Pr .neq t_api_Grant [.int .i64 t131f0, .int .i64 t131f1, .int .i64 t131f2, .int .i64 t131f3, .int .i64 t131f4, .bool t131f5] [.int .i64 t132f0, .int .i64 t132f1, .int .i64 t132f2, .int .i64 t132f3, .int .i64 t132f4, .bool t132f5] w21 fun same w28 =>
 iteP same
 (R (.bool false) w28)
 (callK Pr f_law0_Num [v_14] w28 fun v_28 w29 =>
 asI .i64 v_28 fun t136 =>
 iteP (!decide (t136 = t121_6))
 (R (.bool false) w29)
 (ifaceNil v_20 fun nil_1 =>
 iteP ((!nil_1) || (!decide (((t128.n : Nat) : Int) = ((x.n : Nat) : Int))))
 (R (.bool false) w29)
 (go w29))))))))))
 (fun go_1 =>
 iteP (!decide (((t79.n : Nat) : Int) = (33:Int)))
 (ld_api_Grant p_1 w11 fun t96f0 t96f1 t96f2 t96f3 t96f4 t96f5 =>
 R (.bool false) w11)
 (ifaceNil v_10 fun nil_2 =>
 ld_api_Grant p_1 w11 fun t96f0_1 t96f1_1 t96f2_1 t96f3_1 t96f4_1 t96f5_1 =>
 iteP (!nil_2)
 (R (.bool false) w11)
 (callK Pr f_grants_Token [.slice secret.a secret.n secret.c, .agg ⟨[.int .i64 t96f0_1, .int .i64 t96f1_1, .int .i64 t96f2_1, .int .i64 t96f3_1, .int .i64 t96f4_1, .bool t96f5_1]⟩] w11 fun v_29 w30 =>
 asSl v_29 fun t97 =>
 callK Pr f_law0_SameBytes [.slice t97.a t97.n t97.c, .slice t79.a t79.n t79.c] w30 fun v_30 w31 =>
 asB v_30 fun t99 =>
 iteP (!t99)
 (R (.bool false) w31)
 (go_1 w31))))))))))
 ⟨none, 0, 0⟩ (0:Int) w)
theorem V_law19_GrantsTokens_eq (gs : SlV) (secret : SlV) (which : Int) (atv : Int) (byv : Int) (w : World) (R : Value → World → Prop) : evF Pr ⟨true, true⟩ [(19, []), (25, [])] [(5, [(11, .sl), (12, .int .i64)])] Tryd.f11 [.slice gs.a gs.n gs.c, .slice secret.a secret.n secret.c, .int .i64 which, .int .i64 atv, .int .u8 byv] w R = V_law19_GrantsTokens gs secret which atv byv w R := by kernel_rfl
theorem V_law19_GrantsTokens_of {gs : SlV} {secret : SlV} {which : Int} {atv : Int} {byv : Int} {w : World} {R : Value → World → Prop} (h : V_law19_GrantsTokens gs secret which atv byv w R) : Ok Pr f_law19_GrantsTokens [.slice gs.a gs.n gs.c, .slice secret.a secret.n secret.c, .int .i64 which, .int .i64 atv, .int .u8 byv] w R :=
  have g := (V_law19_GrantsTokens_eq gs secret which atv byv w R).mpr h
  evF_ok good Tryd.func11 (by kernel_rfl) g

def V_law19_awake (w : World) (R : Value → World → Prop) : Prop :=
 callK Pr f_law19_one [] w fun v w1 =>
 as_api_Grant v fun t10 t10_1 t10_2 t10_3 t10_4 t10_5 =>
 callK Pr f_grants_Add [.slice none 0 0, .agg ⟨[.int .i64 t10, .int .i64 t10_1, .int .i64 t10_2, .int .i64 t10_3, .int .i64 t10_4, .bool t10_5]⟩] w1 fun v_1 w2 =>
 destr.asArr' v_1 fun vs =>
 uncons vs fun v_2 r =>
 asSl v_2 fun t11 =>
 uncons r fun v_3 r_1 =>
 asI .i64 v_3 fun t11_1 =>
 uncons r_1 fun v_4 r_2 =>
 (r_2 = [] ∧
 join1 (fun (t : SlV) => [(4, some (.slice t.a t.n t.c))])
 (fun t w3 => mkSl Pr t_uint8 (32:Int) (32:Int) w3 fun t20 w4 =>
 callK Pr f_grants_Check [.slice t11.a t11.n t11.c, .slice t20.a t20.n t20.c, .slice t.a t.n t.c] w4 fun v_5 w5 =>
 destr.asArr' v_5 fun vs_1 =>
 uncons vs_1 fun v_6 r_3 =>
 as_api_Grant v_6 fun t22 t22_1 t22_2 t22_3 t22_4 t22_5 =>
 uncons r_3 fun v_7 r_4 =>
 (r_4 = [] ∧
 nw t_api_Grant (zc Pr t_api_Grant) w5 fun p w6 =>
 sT_api_Grant p t22 t22_1 t22_2 t22_3 t22_4 t22_5 w6 fun w7 =>
 callK Pr f_grants_Check [.slice t11.a t11.n t11.c, .slice none 0 0, .slice t.a t.n t.c] w7 fun v_8 w8 =>
 destr.asArr' v_8 fun vs_2 =>
 uncons vs_2 fun v_9 r_5 =>
 as_api_Grant v_9 fun t28 t28_1 t28_2 t28_3 t28_4 t28_5 =>
 uncons r_5 fun v_10 r_6 =>
 (r_6 = [] ∧
 nw t_api_Grant (zc Pr t_api_Grant) w8 fun p_1 w9 =>
 sT_api_Grant p_1 t28 t28_1 t28_2 t28_3 t28_4 t28_5 w9 fun w10 =>
 iteP (decide (t11_1 = (1:Int)))
 (ifaceNil v_4 fun nil =>
 ld_api_Grant p (World.drew w10) fun t43f0 t43f1 t43f2 t43f3 t43f4 t43f5 =>
 iteP (nil && (decide (((t.n : Nat) : Int) = (33:Int))))
 (callK Pr f_law19_one [] (World.drew w10) fun v_11 w11 =>
 as_api_Grant v_11 fun t44 t44_1 t44_2 t44_3 t44_4 t44_5 =>
 (kept p 6 (World.drew w10) w11 ∧
 eqK Pr .eql t_api_Grant [.int .i64 t43f0, .int .i64 t43f1, .int .i64 t43f2, .int .i64 t43f3, .int .i64 t43f4, .bool t43f5] [.int .i64 t44, .int .i64 t44_1, .int .i64 t44_2, .int .i64 t44_3, .int .i64 t44_4, .bool t44_5] w11 fun same w12 =>
 iteP same
 (ifaceNil v_7 fun nil_1 =>
 iteP nil_1
 (callK Pr f_law0_Num [v_10] w12 fun v_12 w13 =>
 asI .i64 v_12 fun t53 =>
 ld_api_Grant p w13 fun t57f0 t57f1 t57f2 t57f3 t57f4 t57f5 =>
 iteP (decide (t53 = (15:Int)))
 (callK Pr f_grants_Allows [.agg ⟨[.int .i64 t57f0, .int .i64 t57f1, .int .i64 t57f2, .int .i64 t57f3, .int .i64 t57f4, .bool t57f5]⟩, .int .i64 (1:Int), .int .i64 (2:Int), .int .i64 (10:Int), .int .i64 (9:Int)] w13 fun v_13 w14 =>
 ifaceNil v_13 fun nil_2 =>
 ld_api_Grant p w14 fun t62f0 t62f1 t62f2 t62f3 t62f4 t62f5 =>
 iteP nil_2
 (callK Pr f_grants_Allows [.agg ⟨[.int .i64 t62f0, .int .i64 t62f1, .int .i64 t62f2, .int .i64 t62f3, .int .i64 t62f4, .bool t62f5]⟩, .int .i64 (1:Int), .int .i64 (2:Int), .int .i64 (10:Int), .int .i64 (10:Int)] w14 fun v_14 w15 =>
 callK Pr f_law0_Num [v_14] w15 fun v_15 w16 =>
 asI .i64 v_15 fun t64 =>
 iteP (decide (t64 = (10:Int)))
 (callK Pr f_grants_May [.slice t11.a t11.n t11.c] w16 fun v_16 w17 =>
 asB v_16 fun t69 =>
 R (.bool t69) w17)
 (R (.bool false) w16))
 (R (.bool false) w14))
 (ld_api_Grant p w13 fun t62f0_1 t62f1_1 t62f2_1 t62f3_1 t62f4_1 t62f5_1 =>
 R (.bool false) w13))
 (ld_api_Grant p w12 fun t57f0_1 t57f1_1 t57f2_1 t57f3_1 t57f4_1 t57f5_1 =>
 ld_api_Grant p w12 fun t62f0_2 t62f1_2 t62f2_2 t62f3_2 t62f4_2 t62f5_2 =>
 R (.bool false) w12))
 (ld_api_Grant p w12 fun t57f0_2 t57f1_2 t57f2_2 t57f3_2 t57f4_2 t57f5_2 =>
 ld_api_Grant p w12 fun t62f0_3 t62f1_3 t62f2_3 t62f3_3 t62f4_3 t62f5_3 =>
 R (.bool false) w12)))
 ((kept p 6 (World.drew w10) (World.drew w10) ∧
 ld_api_Grant p (World.drew w10) fun t57f0_3 t57f1_3 t57f2_3 t57f3_3 t57f4_3 t57f5_3 =>
 ld_api_Grant p (World.drew w10) fun t62f0_4 t62f1_4 t62f2_4 t62f3_4 t62f4_4 t62f5_4 =>
 R (.bool false) (World.drew w10))))
 (ld_api_Grant p (World.drew w10) fun t43f0_1 t43f1_1 t43f2_1 t43f3_1 t43f4_1 t43f5_1 =>
 (kept p 6 (World.drew w10) (World.drew w10) ∧
 ld_api_Grant p (World.drew w10) fun t57f0_4 t57f1_4 t57f2_4 t57f3_4 t57f4_4 t57f5_4 =>
 ld_api_Grant p (World.drew w10) fun t62f0_5 t62f1_5 t62f2_5 t62f3_5 t62f4_5 t62f5_5 =>
 R (.bool false) (World.drew w10))))))
 (fun go =>
 ((mkSl Pr t_uint8 (32:Int) (32:Int) (World.drew w2) fun t15 w18 =>
 callK Pr f_law19_one [] w18 fun v_17 w19 =>
 as_api_Grant v_17 fun t16 t16_1 t16_2 t16_3 t16_4 t16_5 =>
 callK Pr f_grants_Token [.slice t15.a t15.n t15.c, .agg ⟨[.int .i64 t16, .int .i64 t16_1, .int .i64 t16_2, .int .i64 t16_3, .int .i64 t16_4, .bool t16_5]⟩] w19 fun v_18 w20 =>
 asSl v_18 fun t17 =>
 go t17 w20) ∧
 (callK Pr f_law19_one [] (World.drew w2) fun v_19 w21 =>
 as_api_Grant v_19 fun t16_6 t16_7 t16_8 t16_9 t16_10 t16_11 =>
 mkSl Pr t_uint8 (32:Int) (32:Int) w21 fun t15_1 w22 =>
 callK Pr f_grants_Token [.slice t15_1.a t15_1.n t15_1.c, .agg ⟨[.int .i64 t16_6, .int .i64 t16_7, .int .i64 t16_8, .int .i64 t16_9, .int .i64 t16_10, .bool t16_11]⟩] w22 fun v_20 w23 =>
 asSl v_20 fun t17_1 =>
 go t17_1 w23))))
theorem V_law19_awake_eq (w : World) (R : Value → World → Prop) : evF Pr ⟨true, true⟩ [(3, [(4, .sl)])] [] Tryd.f40 [] w R = V_law19_awake w R := by kernel_rfl
theorem V_law19_awake_of {w : World} {R : Value → World → Prop} (h : V_law19_awake w R) : Ok Pr f_law19_awake [] w R :=
  have g := (V_law19_awake_eq w R).mpr h
  evF_ok good Tryd.func40 (by kernel_rfl) g

def V_grants_Token (secret : SlV) (gc0 : Int) (gc1 : Int) (gc2 : Int) (gc3 : Int) (gc4 : Int) (gc5 : Bool) (w : World) (R : Value → World → Prop) : Prop :=
 nw t_api_Grant [.int .i64 gc0, .int .i64 gc1, .int .i64 gc2, .int .i64 gc3, .int .i64 gc4, .bool gc5] w fun p w1 =>
 ldI .i64 (Addr.add p 0) w1 fun t7 =>
 ldI .i64 (Addr.add p 1) w1 fun t9 =>
 ldI .i64 (Addr.add p 2) w1 fun t11 =>
 ldI .i64 (Addr.add p 3) w1 fun t13 =>
 ldI .i64 (Addr.add p 4) w1 fun t15 =>
 nw t_int [.int .i64 t7, .int .i64 t9, .int .i64 t11, .int .i64 t13, .int .i64 t15] w1 fun p_1 w2 =>
 callK Pr f_code_Number [.slice none 0 0, .slice (some p_1) 5 5] w2 fun v w3 =>
 asSl v fun t17 =>
 ldI .i64 (Addr.add p 0) (World.drew w3) fun t19 =>
 ((nw t_uint8 [.int .u8 (IntKind.wrap .u8 (t19))] (World.drew w3) fun p_2 w4 =>
 nw t_s_uint8 [.slice secret.a secret.n secret.c] w4 fun p_3 w5 =>
 (kept (Addr.add p 0) 1 w4 w5 ∧
 callK Pr f_code_Bytes [.slice none 0 0, .slice (some p_3) 1 1] w5 fun v_1 w6 =>
 asSl v_1 fun t24 =>
 (kept (Addr.add p 0) 1 w5 w6 ∧
 nw t_s_uint8 [.slice t24.a t24.n t24.c, .slice t17.a t17.n t17.c] w6 fun p_4 w7 =>
 (kept (Addr.add p 0) 1 w6 w7 ∧
 callK Pr f_sponge_Shake256 [.int .i64 (32:Int), .slice (some p_4) 2 2] w7 fun v_2 w8 =>
 asSl v_2 fun t27 =>
 (kept (Addr.add p 0) 1 w7 w8 ∧
 appK Pr [t_s_uint8, t_s_uint8] t_s_uint8 [.slice (some p_2) 1 1, .slice t27.a t27.n t27.c] w8 fun t28 w9 =>
 R (.slice t28.a t28.n t28.c) w9))))) ∧
 (nw t_s_uint8 [.slice secret.a secret.n secret.c] (World.drew w3) fun p_5 w10 =>
 (kept (Addr.add p 0) 1 (World.drew w3) w10 ∧
 ((nw t_uint8 [.int .u8 (IntKind.wrap .u8 (t19))] w10 fun p_6 w11 =>
 callK Pr f_code_Bytes [.slice none 0 0, .slice (some p_5) 1 1] w11 fun v_3 w12 =>
 asSl v_3 fun t24_1 =>
 (kept (Addr.add p 0) 1 w11 w12 ∧
 nw t_s_uint8 [.slice t24_1.a t24_1.n t24_1.c, .slice t17.a t17.n t17.c] w12 fun p_7 w13 =>
 (kept (Addr.add p 0) 1 w12 w13 ∧
 callK Pr f_sponge_Shake256 [.int .i64 (32:Int), .slice (some p_7) 2 2] w13 fun v_4 w14 =>
 asSl v_4 fun t27_1 =>
 (kept (Addr.add p 0) 1 w13 w14 ∧
 appK Pr [t_s_uint8, t_s_uint8] t_s_uint8 [.slice (some p_6) 1 1, .slice t27_1.a t27_1.n t27_1.c] w14 fun t28_1 w15 =>
 R (.slice t28_1.a t28_1.n t28_1.c) w15)))) ∧
 (callK Pr f_code_Bytes [.slice none 0 0, .slice (some p_5) 1 1] w10 fun v_5 w16 =>
 asSl v_5 fun t24_2 =>
 (kept (Addr.add p 0) 1 w10 w16 ∧
 ((nw t_uint8 [.int .u8 (IntKind.wrap .u8 (t19))] w16 fun p_8 w17 =>
 nw t_s_uint8 [.slice t24_2.a t24_2.n t24_2.c, .slice t17.a t17.n t17.c] w17 fun p_9 w18 =>
 (kept (Addr.add p 0) 1 w17 w18 ∧
 callK Pr f_sponge_Shake256 [.int .i64 (32:Int), .slice (some p_9) 2 2] w18 fun v_6 w19 =>
 asSl v_6 fun t27_2 =>
 (kept (Addr.add p 0) 1 w18 w19 ∧
 appK Pr [t_s_uint8, t_s_uint8] t_s_uint8 [.slice (some p_8) 1 1, .slice t27_2.a t27_2.n t27_2.c] w19 fun t28_2 w20 =>
 R (.slice t28_2.a t28_2.n t28_2.c) w20))) ∧
 (nw t_s_uint8 [.slice t24_2.a t24_2.n t24_2.c, .slice t17.a t17.n t17.c] w16 fun p_10 w21 =>
 (kept (Addr.add p 0) 1 w16 w21 ∧
 ((nw t_uint8 [.int .u8 (IntKind.wrap .u8 (t19))] w21 fun p_11 w22 =>
 callK Pr f_sponge_Shake256 [.int .i64 (32:Int), .slice (some p_10) 2 2] w22 fun v_7 w23 =>
 asSl v_7 fun t27_3 =>
 (kept (Addr.add p 0) 1 w22 w23 ∧
 appK Pr [t_s_uint8, t_s_uint8] t_s_uint8 [.slice (some p_11) 1 1, .slice t27_3.a t27_3.n t27_3.c] w23 fun t28_3 w24 =>
 R (.slice t28_3.a t28_3.n t28_3.c) w24)) ∧
 (callK Pr f_sponge_Shake256 [.int .i64 (32:Int), .slice (some p_10) 2 2] w21 fun v_8 w25 =>
 asSl v_8 fun t27_4 =>
 (kept (Addr.add p 0) 1 w21 w25 ∧
 nw t_uint8 [.int .u8 (IntKind.wrap .u8 (t19))] w25 fun p_12 w26 =>
 appK Pr [t_s_uint8, t_s_uint8] t_s_uint8 [.slice (some p_12) 1 1, .slice t27_4.a t27_4.n t27_4.c] w26 fun t28_4 w27 =>
 R (.slice t28_4.a t28_4.n t28_4.c) w27))))))))))))
theorem V_grants_Token_eq (secret : SlV) (gc0 : Int) (gc1 : Int) (gc2 : Int) (gc3 : Int) (gc4 : Int) (gc5 : Bool) (w : World) (R : Value → World → Prop) : evF Pr ⟨true, true⟩ [] [] Tryd.f41 [.slice secret.a secret.n secret.c, .agg ⟨[.int .i64 gc0, .int .i64 gc1, .int .i64 gc2, .int .i64 gc3, .int .i64 gc4, .bool gc5]⟩] w R = V_grants_Token secret gc0 gc1 gc2 gc3 gc4 gc5 w R := by kernel_rfl
theorem V_grants_Token_of {secret : SlV} {gc0 : Int} {gc1 : Int} {gc2 : Int} {gc3 : Int} {gc4 : Int} {gc5 : Bool} {w : World} {R : Value → World → Prop} (h : V_grants_Token secret gc0 gc1 gc2 gc3 gc4 gc5 w R) : Ok Pr f_grants_Token [.slice secret.a secret.n secret.c, .agg ⟨[.int .i64 gc0, .int .i64 gc1, .int .i64 gc2, .int .i64 gc3, .int .i64 gc4, .bool gc5]⟩] w R :=
  have g := (V_grants_Token_eq secret gc0 gc1 gc2 gc3 gc4 gc5 w R).mpr h
  evF_ok good Tryd.func41 (by kernel_rfl) g

def V_grants_Add (l : SlV) (gc0 : Int) (gc1 : Int) (gc2 : Int) (gc3 : Int) (gc4 : Int) (gc5 : Bool) (w : World) (R : Value → World → Prop) : Prop :=
 nw t_api_Grant [.int .i64 gc0, .int .i64 gc1, .int .i64 gc2, .int .i64 gc3, .int .i64 gc4, .bool gc5] w fun p w1 =>
 join0 []
 (fun w2 => (I64 (((l.n : Nat) : Int) + (1:Int)) ∧
 st (Addr.add p 0) (.int .i64 (((l.n : Nat) : Int) + (1:Int))) w2 fun w3 =>
 st (Addr.add p 5) (.bool false) w3 fun w4 =>
 ld_api_Grant p (World.drew w4) fun t27f0 t27f1 t27f2 t27f3 t27f4 t27f5 =>
 ldI .i64 (Addr.add p 0) (World.drew w4) fun t31 =>
 ((callK Pr f_slices_Clone_api_Grant_api_Grant [.slice l.a l.n l.c] (World.drew w4) fun v w5 =>
 asSl v fun t26 =>
 (kept (Addr.add p 0) 1 (World.drew w4) w5 ∧
 (kept p 6 (World.drew w4) w5 ∧
 nw t_api_Grant [.int .i64 t27f0, .int .i64 t27f1, .int .i64 t27f2, .int .i64 t27f3, .int .i64 t27f4, .bool t27f5] w5 fun p_1 w6 =>
 (kept (Addr.add p 0) 1 w5 w6 ∧
 appK Pr [t_s_api_Grant, t_s_api_Grant] t_s_api_Grant [.slice t26.a t26.n t26.c, .slice (some p_1) 1 1] w6 fun t29 w7 =>
 (kept (Addr.add p 0) 1 w6 w7 ∧
 R (.tuple ⟨[.slice t29.a t29.n t29.c, .int .i64 t31, .nilIface]⟩) w7))))) ∧
 (nw t_api_Grant [.int .i64 t27f0, .int .i64 t27f1, .int .i64 t27f2, .int .i64 t27f3, .int .i64 t27f4, .bool t27f5] (World.drew w4) fun p_2 w8 =>
 (kept (Addr.add p 0) 1 (World.drew w4) w8 ∧
 callK Pr f_slices_Clone_api_Grant_api_Grant [.slice l.a l.n l.c] w8 fun v_1 w9 =>
 asSl v_1 fun t26_1 =>
 (kept (Addr.add p 0) 1 w8 w9 ∧
 (kept p 6 w8 w9 ∧
 appK Pr [t_s_api_Grant, t_s_api_Grant] t_s_api_Grant [.slice t26_1.a t26_1.n t26_1.c, .slice (some p_2) 1 1] w9 fun t29_1 w10 =>
 (kept (Addr.add p 0) 1 w9 w10 ∧
 R (.tuple ⟨[.slice t29_1.a t29_1.n t29_1.c, .int .i64 t31, .nilIface]⟩) w10))))))))
 (fun go =>
 join1 (fun (t7 : Bool) => [(7, some (.bool t7))])
 (fun t7 w11 => iteP t7
 (callK Pr f_grants_fault [.int .i64 (2:Int)] w11 fun v_2 w12 =>
 R (.tuple ⟨[.slice none 0 0, .int .i64 (0:Int), v_2]⟩) w12)
 (iteP (decide (((l.n : Nat) : Int) = (8:Int)))
 (callK Pr f_grants_fault [.int .i64 (12:Int)] w11 fun v_3 w13 =>
 R (.tuple ⟨[.slice none 0 0, .int .i64 (0:Int), v_3]⟩) w13)
 (go w11)))
 (fun go_1 =>
 callK Pr f_grants_May [.slice l.a l.n l.c] w1 fun v_4 w14 =>
 asB v_4 fun t9 =>
 iteP (!t9)
 (go_1 (!t9) w14)
 (ld_api_Grant p w14 fun t11f0 t11f1 t11f2 t11f3 t11f4 t11f5 =>
 callK Pr f_grants_good [.agg ⟨[.int .i64 t11f0, .int .i64 t11f1, .int .i64 t11f2, .int .i64 t11f3, .int .i64 t11f4, .bool t11f5]⟩] w14 fun v_5 w15 =>
 asB v_5 fun t12 =>
 go_1 (!t12) w15)))
theorem V_grants_Add_eq (l : SlV) (gc0 : Int) (gc1 : Int) (gc2 : Int) (gc3 : Int) (gc4 : Int) (gc5 : Bool) (w : World) (R : Value → World → Prop) : evF Pr ⟨true, true⟩ [(6, []), (3, [(7, .bool)])] [] Tryd.f42 [.slice l.a l.n l.c, .agg ⟨[.int .i64 gc0, .int .i64 gc1, .int .i64 gc2, .int .i64 gc3, .int .i64 gc4, .bool gc5]⟩] w R = V_grants_Add l gc0 gc1 gc2 gc3 gc4 gc5 w R := by kernel_rfl
theorem V_grants_Add_of {l : SlV} {gc0 : Int} {gc1 : Int} {gc2 : Int} {gc3 : Int} {gc4 : Int} {gc5 : Bool} {w : World} {R : Value → World → Prop} (h : V_grants_Add l gc0 gc1 gc2 gc3 gc4 gc5 w R) : Ok Pr f_grants_Add [.slice l.a l.n l.c, .agg ⟨[.int .i64 gc0, .int .i64 gc1, .int .i64 gc2, .int .i64 gc3, .int .i64 gc4, .bool gc5]⟩] w R :=
  have g := (V_grants_Add_eq l gc0 gc1 gc2 gc3 gc4 gc5 w R).mpr h
  evF_ok good Tryd.func42 (by kernel_rfl) g

def V_law19_one (w : World) (R : Value → World → Prop) : Prop :=
 nw t_api_Grant (zc Pr t_api_Grant) w fun p w1 =>
 sT_api_Grant p (1:Int) (1:Int) (2:Int) (1024:Int) (9:Int) false w1 fun w2 =>
 ld_api_Grant p w2 fun resf0 resf1 resf2 resf3 resf4 resf5 =>
 R (.agg ⟨[.int .i64 resf0, .int .i64 resf1, .int .i64 resf2, .int .i64 resf3, .int .i64 resf4, .bool resf5]⟩) w2
theorem V_law19_one_eq (w : World) (R : Value → World → Prop) : evF Pr ⟨true, true⟩ [] [] Tryd.f43 [] w R = V_law19_one w R := by kernel_rfl
theorem V_law19_one_of {w : World} {R : Value → World → Prop} (h : V_law19_one w R) : Ok Pr f_law19_one [] w R :=
  have g := (V_law19_one_eq w R).mpr h
  evF_ok good Tryd.func43 (by kernel_rfl) g

def V_grants_May (l : SlV) (w : World) (R : Value → World → Prop) : Prop :=
 loop1 (fun (t7 : Int) => [(7, some (.int .i64 t7))])
 (fun again t7 w1 => iteP (decide (t7 < ((l.n : Nat) : Int)))
 (idxS l.a t7 l.n
 (ld_api_Grant (Addr.add (base l.a) (Int.toNat t7 * 6)) w1 fun t11f0 t11f1 t11f2 t11f3 t11f4 t11f5 =>
 nw t_api_Grant (zc Pr t_api_Grant) w1 fun p w2 =>
 sT_api_Grant p t11f0 t11f1 t11f2 t11f3 t11f4 t11f5 w2 fun w3 =>
 ldI .i64 (Addr.add p 0) w3 fun t13 =>
 (I64 (t7 + (1:Int)) ∧
 ld_api_Grant p w3 fun t18f0 t18f1 t18f2 t18f3 t18f4 t18f5 =>
 iteP (!decide (t13 = t7 + (1:Int)))
 (R (.bool false) w3)
 (callK Pr f_grants_good [.agg ⟨[.int .i64 t18f0, .int .i64 t18f1, .int .i64 t18f2, .int .i64 t18f3, .int .i64 t18f4, .bool t18f5]⟩] w3 fun v w4 =>
 asB v fun t19 =>
 iteP (!t19)
 (R (.bool false) w4)
 ((I64 (t7 + (1:Int)) ∧
 again (t7 + (1:Int)) w4))))))
 (R (.bool (decide (((l.n : Nat) : Int) ≤ (8:Int)))) w1))
 (0:Int) w
theorem V_grants_May_eq (l : SlV) (w : World) (R : Value → World → Prop) : evF Pr ⟨true, true⟩ [] [(2, [(7, .int .i64)])] Tryd.f44 [.slice l.a l.n l.c] w R = V_grants_May l w R := by kernel_rfl
theorem V_grants_May_of {l : SlV} {w : World} {R : Value → World → Prop} (h : V_grants_May l w R) : Ok Pr f_grants_May [.slice l.a l.n l.c] w R :=
  have g := (V_grants_May_eq l w R).mpr h
  evF_ok good Tryd.func44 (by kernel_rfl) g

def V_ref19_Add (l : SlV) (gc0 : Int) (gc1 : Int) (gc2 : Int) (gc3 : Int) (gc4 : Int) (gc5 : Bool) (w : World) (R : Value → World → Prop) : Prop :=
 nw t_api_Grant [.int .i64 gc0, .int .i64 gc1, .int .i64 gc2, .int .i64 gc3, .int .i64 gc4, .bool gc5] w fun p w1 =>
 join0 []
 (fun w2 => iteP (decide ((8:Int) ≤ ((l.n : Nat) : Int)))
 (R (.tuple ⟨[.slice none 0 0, .int .i64 (0:Int), .int .i64 (12:Int)]⟩) w2)
 ((I64 (((l.n : Nat) : Int) + (1:Int)) ∧
 st (Addr.add p 0) (.int .i64 (((l.n : Nat) : Int) + (1:Int))) w2 fun w3 =>
 st (Addr.add p 5) (.bool false) w3 fun w4 =>
 ld_api_Grant p (World.drew w4) fun t25f0 t25f1 t25f2 t25f3 t25f4 t25f5 =>
 ldI .i64 (Addr.add p 0) (World.drew w4) fun t29 =>
 ((appK Pr [t_s_api_Grant, t_s_api_Grant] t_s_api_Grant [.slice none 0 0, .slice l.a l.n l.c] (World.drew w4) fun t24 w5 =>
 (kept (Addr.add p 0) 1 (World.drew w4) w5 ∧
 (kept p 6 (World.drew w4) w5 ∧
 nw t_api_Grant [.int .i64 t25f0, .int .i64 t25f1, .int .i64 t25f2, .int .i64 t25f3, .int .i64 t25f4, .bool t25f5] w5 fun p_1 w6 =>
 (kept (Addr.add p 0) 1 w5 w6 ∧
 appK Pr [t_s_api_Grant, t_s_api_Grant] t_s_api_Grant [.slice t24.a t24.n t24.c, .slice (some p_1) 1 1] w6 fun t27 w7 =>
 (kept (Addr.add p 0) 1 w6 w7 ∧
 R (.tuple ⟨[.slice t27.a t27.n t27.c, .int .i64 t29, .int .i64 (0:Int)]⟩) w7))))) ∧
 (nw t_api_Grant [.int .i64 t25f0, .int .i64 t25f1, .int .i64 t25f2, .int .i64 t25f3, .int .i64 t25f4, .bool t25f5] (World.drew w4) fun p_2 w8 =>
 (kept (Addr.add p 0) 1 (World.drew w4) w8 ∧
 appK Pr [t_s_api_Grant, t_s_api_Grant] t_s_api_Grant [.slice none 0 0, .slice l.a l.n l.c] w8 fun t24_1 w9 =>
 (kept (Addr.add p 0) 1 w8 w9 ∧
 (kept p 6 w8 w9 ∧
 appK Pr [t_s_api_Grant, t_s_api_Grant] t_s_api_Grant [.slice t24_1.a t24_1.n t24_1.c, .slice (some p_2) 1 1] w9 fun t27_1 w10 =>
 (kept (Addr.add p 0) 1 w9 w10 ∧
 R (.tuple ⟨[.slice t27_1.a t27_1.n t27_1.c, .int .i64 t29, .int .i64 (0:Int)]⟩) w10)))))))))
 (fun go =>
 join1 (fun (t14 : Bool) => [(14, some (.bool t14))])
 (fun t14 w11 => iteP t14
 (R (.tuple ⟨[.slice none 0 0, .int .i64 (0:Int), .int .i64 (2:Int)]⟩) w11)
 (go w11))
 (fun go_1 =>
 callK Pr f_ref19_May [.slice l.a l.n l.c] w1 fun v w12 =>
 asB v fun t8 =>
 ld_api_Grant p w12 fun t11f0 t11f1 t11f2 t11f3 t11f4 t11f5 =>
 iteP (!t8)
 (go_1 true w12)
 (callK Pr f_ref19_one [.agg ⟨[.int .i64 t11f0, .int .i64 t11f1, .int .i64 t11f2, .int .i64 t11f3, .int .i64 t11f4, .bool t11f5]⟩] w12 fun v_1 w13 =>
 asB v_1 fun t12 =>
 go_1 (!t12) w13)))
theorem V_ref19_Add_eq (l : SlV) (gc0 : Int) (gc1 : Int) (gc2 : Int) (gc3 : Int) (gc4 : Int) (gc5 : Bool) (w : World) (R : Value → World → Prop) : evF Pr ⟨true, true⟩ [(3, []), (2, [(14, .bool)])] [] Tryd.f45 [.slice l.a l.n l.c, .agg ⟨[.int .i64 gc0, .int .i64 gc1, .int .i64 gc2, .int .i64 gc3, .int .i64 gc4, .bool gc5]⟩] w R = V_ref19_Add l gc0 gc1 gc2 gc3 gc4 gc5 w R := by kernel_rfl
theorem V_ref19_Add_of {l : SlV} {gc0 : Int} {gc1 : Int} {gc2 : Int} {gc3 : Int} {gc4 : Int} {gc5 : Bool} {w : World} {R : Value → World → Prop} (h : V_ref19_Add l gc0 gc1 gc2 gc3 gc4 gc5 w R) : Ok Pr f_ref19_Add [.slice l.a l.n l.c, .agg ⟨[.int .i64 gc0, .int .i64 gc1, .int .i64 gc2, .int .i64 gc3, .int .i64 gc4, .bool gc5]⟩] w R :=
  have g := (V_ref19_Add_eq l gc0 gc1 gc2 gc3 gc4 gc5 w R).mpr h
  evF_ok good Tryd.func45 (by kernel_rfl) g

def V_grants_Revoke (l : SlV) (idv : Int) (w : World) (R : Value → World → Prop) : Prop :=
 callK Pr f_grants_May [.slice l.a l.n l.c] w fun v w1 =>
 asB v fun t8 =>
 iteP (!t8)
 (callK Pr f_grants_fault [.int .i64 (2:Int)] w1 fun v_1 w2 =>
 R (.tuple ⟨[.slice none 0 0, v_1]⟩) w2)
 (callK Pr f_grants_in [.int .i64 idv, .int .i64 (1:Int), .int .i64 ((l.n : Nat) : Int)] w1 fun v_2 w3 =>
 asB v_2 fun t15 =>
 iteP (!t15)
 (callK Pr f_grants_fault [.int .i64 (9:Int)] w3 fun v_3 w4 =>
 R (.tuple ⟨[.slice none 0 0, v_3]⟩) w4)
 ((I64 (idv - (1:Int)) ∧
 idxS l.a (idv - (1:Int)) l.n
 (ldB (Addr.add (Addr.add (base l.a) (Int.toNat (idv - (1:Int)) * 6)) 5) w3 fun t24 =>
 iteP t24
 (callK Pr f_grants_fault [.int .i64 (11:Int)] w3 fun v_4 w5 =>
 R (.tuple ⟨[.slice none 0 0, v_4]⟩) w5)
 (callK Pr f_slices_Clone_api_Grant_api_Grant [.slice l.a l.n l.c] w3 fun v_5 w6 =>
 asSl v_5 fun t27 =>
 (I64 (idv - (1:Int)) ∧
 idxS t27.a (idv - (1:Int)) t27.n
 (st (Addr.add (Addr.add (base t27.a) (Int.toNat (idv - (1:Int)) * 6)) 5) (.bool true) w6 fun w7 =>
 R (.tuple ⟨[.slice t27.a t27.n t27.c, .nilIface]⟩) w7)))))))
theorem V_grants_Revoke_eq (l : SlV) (idv : Int) (w : World) (R : Value → World → Prop) : evF Pr ⟨true, true⟩ [] [] Tryd.f46 [.slice l.a l.n l.c, .int .i64 idv] w R = V_grants_Revoke l idv w R := by kernel_rfl
theorem V_grants_Revoke_of {l : SlV} {idv : Int} {w : World} {R : Value → World → Prop} (h : V_grants_Revoke l idv w R) : Ok Pr f_grants_Revoke [.slice l.a l.n l.c, .int .i64 idv] w R :=
  have g := (V_grants_Revoke_eq l idv w R).mpr h
  evF_ok good Tryd.func46 (by kernel_rfl) g

def V_ref19_Revoke (l : SlV) (idv : Int) (w : World) (R : Value → World → Prop) : Prop :=
 callK Pr f_ref19_May [.slice l.a l.n l.c] w fun v w1 =>
 asB v fun t9 =>
 iteP (!t9)
 (R (.tuple ⟨[.slice none 0 0, .int .i64 (2:Int)]⟩) w1)
 (iteP ((decide (idv < (1:Int))) || (decide (((l.n : Nat) : Int) < idv)))
 (R (.tuple ⟨[.slice none 0 0, .int .i64 (9:Int)]⟩) w1)
 ((I64 (idv - (1:Int)) ∧
 idxS l.a (idv - (1:Int)) l.n
 (ldB (Addr.add (Addr.add (base l.a) (Int.toNat (idv - (1:Int)) * 6)) 5) w1 fun t26 =>
 iteP t26
 (R (.tuple ⟨[.slice none 0 0, .int .i64 (11:Int)]⟩) w1)
 (appK Pr [t_s_api_Grant, t_s_api_Grant] t_s_api_Grant [.slice none 0 0, .slice l.a l.n l.c] w1 fun t28 w2 =>
 (I64 (idv - (1:Int)) ∧
 idxS t28.a (idv - (1:Int)) t28.n
 (st (Addr.add (Addr.add (base t28.a) (Int.toNat (idv - (1:Int)) * 6)) 5) (.bool true) w2 fun w3 =>
 R (.tuple ⟨[.slice t28.a t28.n t28.c, .int .i64 (0:Int)]⟩) w3)))))))
theorem V_ref19_Revoke_eq (l : SlV) (idv : Int) (w : World) (R : Value → World → Prop) : evF Pr ⟨true, true⟩ [] [] Tryd.f47 [.slice l.a l.n l.c, .int .i64 idv] w R = V_ref19_Revoke l idv w R := by kernel_rfl
theorem V_ref19_Revoke_of {l : SlV} {idv : Int} {w : World} {R : Value → World → Prop} (h : V_ref19_Revoke l idv w R) : Ok Pr f_ref19_Revoke [.slice l.a l.n l.c, .int .i64 idv] w R :=
  have g := (V_ref19_Revoke_eq l idv w R).mpr h
  evF_ok good Tryd.func47 (by kernel_rfl) g

def V_grants_Check (l : SlV) (secret : SlV) (token : SlV) (w : World) (R : Value → World → Prop) : Prop :=
 nw t_s_uint8 [.slice secret.a secret.n secret.c] w fun p w1 =>
 nw t_s_uint8 [.slice token.a token.n token.c] w1 fun p_1 w2 =>
 nw t_api_Grant (zc Pr t_api_Grant) w2 fun p_2 w3 =>
 callK Pr f_grants_May [.slice l.a l.n l.c] w3 fun v w4 =>
 asB v fun t10 =>
 iteP (!t10)
 (callK Pr f_grants_fault [.int .i64 (2:Int)] w4 fun v_1 w5 =>
 sT_api_Grant p_2 (0:Int) (0:Int) (0:Int) (0:Int) (0:Int) false w5 fun w6 =>
 ld_api_Grant p_2 w6 fun resf0 resf1 resf2 resf3 resf4 resf5 =>
 R (.tuple ⟨[.agg ⟨[.int .i64 resf0, .int .i64 resf1, .int .i64 resf2, .int .i64 resf3, .int .i64 resf4, .bool resf5]⟩, v_1]⟩) w6)
 (callK Pr f_slices_IndexFunc_api_Grant_api_Grant [.slice l.a l.n l.c, .func (.func f_grants_Check_1) ⟨[]⟩ ⟨[.pointer (some p), .pointer (some p_1)]⟩] w4 fun v_2 w7 =>
 asI .i64 v_2 fun t16 =>
 iteP (decide (t16 < (0:Int)))
 (callK Pr f_grants_fault [.int .i64 (15:Int)] w7 fun v_3 w8 =>
 sT_api_Grant p_2 (0:Int) (0:Int) (0:Int) (0:Int) (0:Int) false w8 fun w9 =>
 ld_api_Grant p_2 w9 fun resf0_1 resf1_1 resf2_1 resf3_1 resf4_1 resf5_1 =>
 R (.tuple ⟨[.agg ⟨[.int .i64 resf0_1, .int .i64 resf1_1, .int .i64 resf2_1, .int .i64 resf3_1, .int .i64 resf4_1, .bool resf5_1]⟩, v_3]⟩) w9)
 (idxS l.a t16 l.n
 (ld_api_Grant (Addr.add (base l.a) (Int.toNat t16 * 6)) w7 fun t24f0 t24f1 t24f2 t24f3 t24f4 t24f5 =>
 sT_api_Grant p_2 t24f0 t24f1 t24f2 t24f3 t24f4 t24f5 w7 fun w10 =>
 ld_api_Grant p_2 w10 fun resf0_2 resf1_2 resf2_2 resf3_2 resf4_2 resf5_2 =>
 R (.tuple ⟨[.agg ⟨[.int .i64 resf0_2, .int .i64 resf1_2, .int .i64 resf2_2, .int .i64 resf3_2, .int .i64 resf4_2, .bool resf5_2]⟩, .nilIface]⟩) w10)))
theorem V_grants_Check_eq (l : SlV) (secret : SlV) (token : SlV) (w : World) (R : Value → World → Prop) : evF Pr ⟨true, true⟩ [] [] Tryd.f48 [.slice l.a l.n l.c, .slice secret.a secret.n secret.c, .slice token.a token.n token.c] w R = V_grants_Check l secret token w R := by kernel_rfl
theorem V_grants_Check_of {l : SlV} {secret : SlV} {token : SlV} {w : World} {R : Value → World → Prop} (h : V_grants_Check l secret token w R) : Ok Pr f_grants_Check [.slice l.a l.n l.c, .slice secret.a secret.n secret.c, .slice token.a token.n token.c] w R :=
  have g := (V_grants_Check_eq l secret token w R).mpr h
  evF_ok good Tryd.func48 (by kernel_rfl) g

def V_ref19_Check (l : SlV) (secret : SlV) (token : SlV) (w : World) (R : Value → World → Prop) : Prop :=
 nw t_api_Grant (zc Pr t_api_Grant) w fun p w1 =>
 callK Pr f_ref19_May [.slice l.a l.n l.c] w1 fun v w2 =>
 asB v fun t10 =>
 iteP (!t10)
 (sT_api_Grant p (0:Int) (0:Int) (0:Int) (0:Int) (0:Int) false w2 fun w3 =>
 ld_api_Grant p w3 fun resf0 resf1 resf2 resf3 resf4 resf5 =>
 R (.tuple ⟨[.agg ⟨[.int .i64 resf0, .int .i64 resf1, .int .i64 resf2, .int .i64 resf3, .int .i64 resf4, .bool resf5]⟩, .int .i64 (2:Int)]⟩) w3)
 (loop1 (fun (i : Int) => [(8, some (.int .i64 i))])
 (fun again i w4 => iteP (decide (i < ((l.n : Nat) : Int)))
 (join1 (fun (t28 : Bool) => [(28, some (.bool t28))])
 (fun t28 w5 => iteP t28
 (idxS l.a i l.n
 (ld_api_Grant (Addr.add (base l.a) (Int.toNat i * 6)) w5 fun t32f0 t32f1 t32f2 t32f3 t32f4 t32f5 =>
 sT_api_Grant p t32f0 t32f1 t32f2 t32f3 t32f4 t32f5 w5 fun w6 =>
 ld_api_Grant p w6 fun resf0_1 resf1_1 resf2_1 resf3_1 resf4_1 resf5_1 =>
 R (.tuple ⟨[.agg ⟨[.int .i64 resf0_1, .int .i64 resf1_1, .int .i64 resf2_1, .int .i64 resf3_1, .int .i64 resf4_1, .bool resf5_1]⟩, .int .i64 (0:Int)]⟩) w6))
 ((I64 (i + (1:Int)) ∧
 again (i + (1:Int)) w5)))
 (fun go =>
 idxS l.a i l.n
 (ld_api_Grant (Addr.add (base l.a) (Int.toNat i * 6)) (World.drew w4) fun t23f0 t23f1 t23f2 t23f3 t23f4 t23f5 =>
 ((callK Pr f_ref19_Token [.slice secret.a secret.n secret.c, .agg ⟨[.int .i64 t23f0, .int .i64 t23f1, .int .i64 t23f2, .int .i64 t23f3, .int .i64 t23f4, .bool t23f5]⟩] (World.drew w4) fun v_1 w7 =>
 asSl v_1 fun t24 =>
 ((b2sK Pr t24 w7 fun t25 w8 =>
 b2sK Pr token w8 fun t27 w9 =>
 (kept (Addr.add (base l.a) (Int.toNat i * 6)) 6 w8 w9 ∧
 go (decide (t25 = t27)) w9)) ∧
 (b2sK Pr token w7 fun t27_1 w10 =>
 (kept (Addr.add (base l.a) (Int.toNat i * 6)) 6 w7 w10 ∧
 b2sK Pr t24 w10 fun t25_1 w11 =>
 go (decide (t25_1 = t27_1)) w11)))) ∧
 (b2sK Pr token (World.drew w4) fun t27_2 w12 =>
 (kept (Addr.add (base l.a) (Int.toNat i * 6)) 6 (World.drew w4) w12 ∧
 callK Pr f_ref19_Token [.slice secret.a secret.n secret.c, .agg ⟨[.int .i64 t23f0, .int .i64 t23f1, .int .i64 t23f2, .int .i64 t23f3, .int .i64 t23f4, .bool t23f5]⟩] w12 fun v_2 w13 =>
 asSl v_2 fun t24_1 =>
 b2sK Pr t24_1 w13 fun t25_2 w14 =>
 go (decide (t25_2 = t27_2)) w14))))))
 (sT_api_Grant p (0:Int) (0:Int) (0:Int) (0:Int) (0:Int) false w4 fun w15 =>
 ld_api_Grant p w15 fun resf0_2 resf1_2 resf2_2 resf3_2 resf4_2 resf5_2 =>
 R (.tuple ⟨[.agg ⟨[.int .i64 resf0_2, .int .i64 resf1_2, .int .i64 resf2_2, .int .i64 resf3_2, .int .i64 resf4_2, .bool resf5_2]⟩, .int .i64 (15:Int)]⟩) w15))
 (0:Int) w2)
theorem V_ref19_Check_eq (l : SlV) (secret : SlV) (token : SlV) (w : World) (R : Value → World → Prop) : evF Pr ⟨true, true⟩ [(7, [(28, .bool)])] [(4, [(8, .int .i64)])] Tryd.f49 [.slice l.a l.n l.c, .slice secret.a secret.n secret.c, .slice token.a token.n token.c] w R = V_ref19_Check l secret token w R := by kernel_rfl
theorem V_ref19_Check_of {l : SlV} {secret : SlV} {token : SlV} {w : World} {R : Value → World → Prop} (h : V_ref19_Check l secret token w R) : Ok Pr f_ref19_Check [.slice l.a l.n l.c, .slice secret.a secret.n secret.c, .slice token.a token.n token.c] w R :=
  have g := (V_ref19_Check_eq l secret token w R).mpr h
  evF_ok good Tryd.func49 (by kernel_rfl) g

def V_ref19_Token (secret : SlV) (gc0 : Int) (gc1 : Int) (gc2 : Int) (gc3 : Int) (gc4 : Int) (gc5 : Bool) (w : World) (R : Value → World → Prop) : Prop :=
 nw t_api_Grant [.int .i64 gc0, .int .i64 gc1, .int .i64 gc2, .int .i64 gc3, .int .i64 gc4, .bool gc5] w fun p w1 =>
 join1 (fun (b : SlV) => [(5, some (.slice b.a b.n b.c))])
 (fun b w2 => ldI .i64 (Addr.add p 0) (World.drew w2) fun t22 =>
 ((nw t_uint8 [.int .u8 (IntKind.wrap .u8 (t22))] (World.drew w2) fun p_1 w3 =>
 callK Pr f_ref2_Shake256 [.int .i64 (32:Int), .slice b.a b.n b.c] w3 fun v w4 =>
 asSl v fun t26 =>
 (kept (Addr.add p 0) 1 w3 w4 ∧
 appK Pr [t_s_uint8, t_s_uint8] t_s_uint8 [.slice (some p_1) 1 1, .slice t26.a t26.n t26.c] w4 fun t27 w5 =>
 R (.slice t27.a t27.n t27.c) w5)) ∧
 (callK Pr f_ref2_Shake256 [.int .i64 (32:Int), .slice b.a b.n b.c] (World.drew w2) fun v_1 w6 =>
 asSl v_1 fun t26_1 =>
 (kept (Addr.add p 0) 1 (World.drew w2) w6 ∧
 nw t_uint8 [.int .u8 (IntKind.wrap .u8 (t22))] w6 fun p_2 w7 =>
 appK Pr [t_s_uint8, t_s_uint8] t_s_uint8 [.slice (some p_2) 1 1, .slice t26_1.a t26_1.n t26_1.c] w7 fun t27_1 w8 =>
 R (.slice t27_1.a t27_1.n t27_1.c) w8))))
 (fun go =>
 ldI .i64 (Addr.add p 0) (World.drew w1) fun t10 =>
 ldI .i64 (Addr.add p 1) (World.drew w1) fun t12 =>
 ldI .i64 (Addr.add p 2) (World.drew w1) fun t14 =>
 ldI .i64 (Addr.add p 3) (World.drew w1) fun t16 =>
 ldI .i64 (Addr.add p 4) (World.drew w1) fun t18 =>
 ((nw t_s_uint8 [.slice secret.a secret.n secret.c] (World.drew w1) fun p_3 w9 =>
 (kept (Addr.add p 4) 1 (World.drew w1) w9 ∧
 (kept (Addr.add p 3) 1 (World.drew w1) w9 ∧
 (kept (Addr.add p 2) 1 (World.drew w1) w9 ∧
 (kept (Addr.add p 1) 1 (World.drew w1) w9 ∧
 (kept (Addr.add p 0) 1 (World.drew w1) w9 ∧
 ((callK Pr f_ref14_Bytes [.slice none 0 0, .slice (some p_3) 1 1] w9 fun v_2 w10 =>
 asSl v_2 fun t8 =>
 (kept (Addr.add p 4) 1 w9 w10 ∧
 (kept (Addr.add p 3) 1 w9 w10 ∧
 (kept (Addr.add p 2) 1 w9 w10 ∧
 (kept (Addr.add p 1) 1 w9 w10 ∧
 (kept (Addr.add p 0) 1 w9 w10 ∧
 nw t_int [.int .i64 t10, .int .i64 t12, .int .i64 t14, .int .i64 t16, .int .i64 t18] w10 fun p_4 w11 =>
 callK Pr f_ref14_Number [.slice t8.a t8.n t8.c, .slice (some p_4) 5 5] w11 fun v_3 w12 =>
 asSl v_3 fun t20 =>
 go t20 w12)))))) ∧
 (nw t_int [.int .i64 t10, .int .i64 t12, .int .i64 t14, .int .i64 t16, .int .i64 t18] w9 fun p_5 w13 =>
 callK Pr f_ref14_Bytes [.slice none 0 0, .slice (some p_3) 1 1] w13 fun v_4 w14 =>
 asSl v_4 fun t8_1 =>
 (kept (Addr.add p 4) 1 w13 w14 ∧
 (kept (Addr.add p 3) 1 w13 w14 ∧
 (kept (Addr.add p 2) 1 w13 w14 ∧
 (kept (Addr.add p 1) 1 w13 w14 ∧
 (kept (Addr.add p 0) 1 w13 w14 ∧
 callK Pr f_ref14_Number [.slice t8_1.a t8_1.n t8_1.c, .slice (some p_5) 5 5] w14 fun v_5 w15 =>
 asSl v_5 fun t20_1 =>
 go t20_1 w15))))))))))))) ∧
 (nw t_int [.int .i64 t10, .int .i64 t12, .int .i64 t14, .int .i64 t16, .int .i64 t18] (World.drew w1) fun p_6 w16 =>
 nw t_s_uint8 [.slice secret.a secret.n secret.c] w16 fun p_7 w17 =>
 (kept (Addr.add p 4) 1 w16 w17 ∧
 (kept (Addr.add p 3) 1 w16 w17 ∧
 (kept (Addr.add p 2) 1 w16 w17 ∧
 (kept (Addr.add p 1) 1 w16 w17 ∧
 (kept (Addr.add p 0) 1 w16 w17 ∧
 callK Pr f_ref14_Bytes [.slice none 0 0, .slice (some p_7) 1 1] w17 fun v_6 w18 =>
 asSl v_6 fun t8_2 =>
 (kept (Addr.add p 4) 1 w17 w18 ∧
 (kept (Addr.add p 3) 1 w17 w18 ∧
 (kept (Addr.add p 2) 1 w17 w18 ∧
 (kept (Addr.add p 1) 1 w17 w18 ∧
 (kept (Addr.add p 0) 1 w17 w18 ∧
 callK Pr f_ref14_Number [.slice t8_2.a t8_2.n t8_2.c, .slice (some p_6) 5 5] w18 fun v_7 w19 =>
 asSl v_7 fun t20_2 =>
 go t20_2 w19)))))))))))))
theorem V_ref19_Token_eq (secret : SlV) (gc0 : Int) (gc1 : Int) (gc2 : Int) (gc3 : Int) (gc4 : Int) (gc5 : Bool) (w : World) (R : Value → World → Prop) : evF Pr ⟨true, true⟩ [(2, [(5, .sl)])] [] Tryd.f51 [.slice secret.a secret.n secret.c, .agg ⟨[.int .i64 gc0, .int .i64 gc1, .int .i64 gc2, .int .i64 gc3, .int .i64 gc4, .bool gc5]⟩] w R = V_ref19_Token secret gc0 gc1 gc2 gc3 gc4 gc5 w R := by kernel_rfl
theorem V_ref19_Token_of {secret : SlV} {gc0 : Int} {gc1 : Int} {gc2 : Int} {gc3 : Int} {gc4 : Int} {gc5 : Bool} {w : World} {R : Value → World → Prop} (h : V_ref19_Token secret gc0 gc1 gc2 gc3 gc4 gc5 w R) : Ok Pr f_ref19_Token [.slice secret.a secret.n secret.c, .agg ⟨[.int .i64 gc0, .int .i64 gc1, .int .i64 gc2, .int .i64 gc3, .int .i64 gc4, .bool gc5]⟩] w R :=
  have g := (V_ref19_Token_eq secret gc0 gc1 gc2 gc3 gc4 gc5 w R).mpr h
  evF_ok good Tryd.func51 (by kernel_rfl) g

def V_grants_Allows (gc0 : Int) (gc1 : Int) (gc2 : Int) (gc3 : Int) (gc4 : Int) (gc5 : Bool) (key : Int) (who : Int) (op : Int) (clock : Int) (w : World) (R : Value → World → Prop) : Prop :=
 nw t_api_Grant [.int .i64 gc0, .int .i64 gc1, .int .i64 gc2, .int .i64 gc3, .int .i64 gc4, .bool gc5] w fun p w1 =>
 join1 (fun (t43 : Bool) => [(43, some (.bool t43))])
 (fun t43 w2 => iteP t43
 (callK Pr f_grants_fault [.int .i64 (10:Int)] w2 fun v w3 =>
 R v w3)
 (R (.nilIface) w2))
 (fun go =>
 ldB (Addr.add p 5) w1 fun t12 =>
 ldI .i64 (Addr.add p 1) w1 fun t15 =>
 ldI .i64 (Addr.add p 2) w1 fun t21 =>
 iteP ((t12 || (!decide (t15 = key))) || (!decide (t21 = who)))
 (ldI .i64 (Addr.add p 3) w1 fun t32 =>
 ldI .i64 (Addr.add p 4) w1 fun t40 =>
 go true w1)
 (callK Pr f_grants_in [.int .i64 op, .int .i64 (1:Int), .int .i64 (13:Int)] w1 fun v_1 w4 =>
 asB v_1 fun t27 =>
 ldI .i64 (Addr.add p 3) w4 fun t32_1 =>
 iteP (!t27)
 (ldI .i64 (Addr.add p 4) w4 fun t40_1 =>
 go true w4)
 (cnt op (ldI .i64 (Addr.add p 4) w4 fun t40_2 =>
 go ((decide (andI .i64 (shr .i64 t32_1 op) (1:Int) = (0:Int))) || (decide (t40_2 < clock))) w4))))
theorem V_grants_Allows_eq (gc0 : Int) (gc1 : Int) (gc2 : Int) (gc3 : Int) (gc4 : Int) (gc5 : Bool) (key : Int) (who : Int) (op : Int) (clock : Int) (w : World) (R : Value → World → Prop) : evF Pr ⟨true, true⟩ [(2, [(43, .bool)])] [] Tryd.f52 [.agg ⟨[.int .i64 gc0, .int .i64 gc1, .int .i64 gc2, .int .i64 gc3, .int .i64 gc4, .bool gc5]⟩, .int .i64 key, .int .i64 who, .int .i64 op, .int .i64 clock] w R = V_grants_Allows gc0 gc1 gc2 gc3 gc4 gc5 key who op clock w R := by kernel_rfl
theorem V_grants_Allows_of {gc0 : Int} {gc1 : Int} {gc2 : Int} {gc3 : Int} {gc4 : Int} {gc5 : Bool} {key : Int} {who : Int} {op : Int} {clock : Int} {w : World} {R : Value → World → Prop} (h : V_grants_Allows gc0 gc1 gc2 gc3 gc4 gc5 key who op clock w R) : Ok Pr f_grants_Allows [.agg ⟨[.int .i64 gc0, .int .i64 gc1, .int .i64 gc2, .int .i64 gc3, .int .i64 gc4, .bool gc5]⟩, .int .i64 key, .int .i64 who, .int .i64 op, .int .i64 clock] w R :=
  have g := (V_grants_Allows_eq gc0 gc1 gc2 gc3 gc4 gc5 key who op clock w R).mpr h
  evF_ok good Tryd.func52 (by kernel_rfl) g

def V_ref19_Allows (gc0 : Int) (gc1 : Int) (gc2 : Int) (gc3 : Int) (gc4 : Int) (gc5 : Bool) (key : Int) (who : Int) (op : Int) (clock : Int) (w : World) (R : Value → World → Prop) : Prop :=
 nw t_api_Grant [.int .i64 gc0, .int .i64 gc1, .int .i64 gc2, .int .i64 gc3, .int .i64 gc4, .bool gc5] w fun p w1 =>
 ldB (Addr.add p 5) w1 fun t12 =>
 ldI .i64 (Addr.add p 1) w1 fun t15 =>
 ldI .i64 (Addr.add p 2) w1 fun t21 =>
 ldI .i64 (Addr.add p 3) w1 fun t35 =>
 iteP ((((t12 || (!decide (t15 = key))) || (!decide (t21 = who))) || (decide (op < (1:Int)))) || (decide ((13:Int) < op)))
 (ldI .i64 (Addr.add p 4) w1 fun t43 =>
 R (.int .i64 (10:Int)) w1)
 (cnt op (ldI .i64 (Addr.add p 4) w1 fun t43_1 =>
 iteP ((decide (andI .i64 (shr .i64 t35 op) (1:Int) = (0:Int))) || (decide (t43_1 < clock)))
 (R (.int .i64 (10:Int)) w1)
 (R (.int .i64 (0:Int)) w1)))
theorem V_ref19_Allows_eq (gc0 : Int) (gc1 : Int) (gc2 : Int) (gc3 : Int) (gc4 : Int) (gc5 : Bool) (key : Int) (who : Int) (op : Int) (clock : Int) (w : World) (R : Value → World → Prop) : evF Pr ⟨true, true⟩ [] [] Tryd.f53 [.agg ⟨[.int .i64 gc0, .int .i64 gc1, .int .i64 gc2, .int .i64 gc3, .int .i64 gc4, .bool gc5]⟩, .int .i64 key, .int .i64 who, .int .i64 op, .int .i64 clock] w R = V_ref19_Allows gc0 gc1 gc2 gc3 gc4 gc5 key who op clock w R := by kernel_rfl
theorem V_ref19_Allows_of {gc0 : Int} {gc1 : Int} {gc2 : Int} {gc3 : Int} {gc4 : Int} {gc5 : Bool} {key : Int} {who : Int} {op : Int} {clock : Int} {w : World} {R : Value → World → Prop} (h : V_ref19_Allows gc0 gc1 gc2 gc3 gc4 gc5 key who op clock w R) : Ok Pr f_ref19_Allows [.agg ⟨[.int .i64 gc0, .int .i64 gc1, .int .i64 gc2, .int .i64 gc3, .int .i64 gc4, .bool gc5]⟩, .int .i64 key, .int .i64 who, .int .i64 op, .int .i64 clock] w R :=
  have g := (V_ref19_Allows_eq gc0 gc1 gc2 gc3 gc4 gc5 key who op clock w R).mpr h
  evF_ok good Tryd.func53 (by kernel_rfl) g

def V_ref19_May (l : SlV) (w : World) (R : Value → World → Prop) : Prop :=
 loop1 (fun (i : Int) => [(3, some (.int .i64 i))])
 (fun again i w1 => iteP ((decide (i < ((l.n : Nat) : Int))) && (decide (((l.n : Nat) : Int) ≤ (8:Int))))
 (idxS l.a i l.n
 (ldI .i64 (Addr.add (Addr.add (base l.a) (Int.toNat i * 6)) 0) w1 fun t19 =>
 (I64 (i + (1:Int)) ∧
 iteP (!decide (t19 = i + (1:Int)))
 (R (.bool false) w1)
 (idxS l.a i l.n
 (ld_api_Grant (Addr.add (base l.a) (Int.toNat i * 6)) w1 fun t27f0 t27f1 t27f2 t27f3 t27f4 t27f5 =>
 callK Pr f_ref19_one [.agg ⟨[.int .i64 t27f0, .int .i64 t27f1, .int .i64 t27f2, .int .i64 t27f3, .int .i64 t27f4, .bool t27f5]⟩] w1 fun v w2 =>
 asB v fun t28 =>
 iteP (!t28)
 (R (.bool false) w2)
 ((I64 (i + (1:Int)) ∧
 again (i + (1:Int)) w2)))))))
 (R (.bool (decide (((l.n : Nat) : Int) ≤ (8:Int)))) w1))
 (0:Int) w
theorem V_ref19_May_eq (l : SlV) (w : World) (R : Value → World → Prop) : evF Pr ⟨true, true⟩ [] [(2, [(3, .int .i64)])] Tryd.f54 [.slice l.a l.n l.c] w R = V_ref19_May l w R := by kernel_rfl
theorem V_ref19_May_of {l : SlV} {w : World} {R : Value → World → Prop} (h : V_ref19_May l w R) : Ok Pr f_ref19_May [.slice l.a l.n l.c] w R :=
  have g := (V_ref19_May_eq l w R).mpr h
  evF_ok good Tryd.func54 (by kernel_rfl) g

def V_grants_good (gc0 : Int) (gc1 : Int) (gc2 : Int) (gc3 : Int) (gc4 : Int) (gc5 : Bool) (w : World) (R : Value → World → Prop) : Prop :=
 nw t_api_Grant [.int .i64 gc0, .int .i64 gc1, .int .i64 gc2, .int .i64 gc3, .int .i64 gc4, .bool gc5] w fun p w1 =>
 ldI .i64 (Addr.add p 1) w1 fun t4 =>
 callK Pr f_grants_in [.int .i64 t4, .int .i64 (1:Int), .int .i64 (6:Int)] w1 fun v w2 =>
 asB v fun t5 =>
 ldI .i64 (Addr.add p 2) w2 fun t8 =>
 iteP t5
 (callK Pr f_grants_in [.int .i64 t8, .int .i64 (1:Int), .int .i64 (6:Int)] w2 fun v_1 w3 =>
 asB v_1 fun t9 =>
 ldI .i64 (Addr.add p 4) w3 fun t13 =>
 iteP t9
 (callK Pr f_grants_in [.int .i64 t13, .int .i64 (1:Int), .int .i64 (1099511627776:Int)] w3 fun v_2 w4 =>
 asB v_2 fun t14 =>
 ldI .i64 (Addr.add p 3) w4 fun t18 =>
 ldI .i64 (Addr.add p 3) w4 fun t23 =>
 R (.bool ((t14 && (!decide (t18 = (0:Int)))) && (decide (clrI .i64 t23 (3584:Int) = (0:Int))))) w4)
 (ldI .i64 (Addr.add p 3) w3 fun t18_1 =>
 ldI .i64 (Addr.add p 3) w3 fun t23_1 =>
 R (.bool false) w3))
 (ldI .i64 (Addr.add p 4) w2 fun t13_1 =>
 ldI .i64 (Addr.add p 3) w2 fun t18_2 =>
 ldI .i64 (Addr.add p 3) w2 fun t23_2 =>
 R (.bool false) w2)
theorem V_grants_good_eq (gc0 : Int) (gc1 : Int) (gc2 : Int) (gc3 : Int) (gc4 : Int) (gc5 : Bool) (w : World) (R : Value → World → Prop) : evF Pr ⟨true, true⟩ [] [] Tryd.f89 [.agg ⟨[.int .i64 gc0, .int .i64 gc1, .int .i64 gc2, .int .i64 gc3, .int .i64 gc4, .bool gc5]⟩] w R = V_grants_good gc0 gc1 gc2 gc3 gc4 gc5 w R := by kernel_rfl
theorem V_grants_good_of {gc0 : Int} {gc1 : Int} {gc2 : Int} {gc3 : Int} {gc4 : Int} {gc5 : Bool} {w : World} {R : Value → World → Prop} (h : V_grants_good gc0 gc1 gc2 gc3 gc4 gc5 w R) : Ok Pr f_grants_good [.agg ⟨[.int .i64 gc0, .int .i64 gc1, .int .i64 gc2, .int .i64 gc3, .int .i64 gc4, .bool gc5]⟩] w R :=
  have g := (V_grants_good_eq gc0 gc1 gc2 gc3 gc4 gc5 w R).mpr h
  evF_ok good Tryd.func89 (by kernel_rfl) g

def V_grants_fault (code : Int) (w : World) (R : Value → World → Prop) : Prop :=
 nw t_api_Fault [.int .i64 code, .string S_grants] w fun p w1 =>
 R (.iface t_p_api_Fault (.pointer (some p))) w1
theorem V_grants_fault_eq (code : Int) (w : World) (R : Value → World → Prop) : evF Pr ⟨true, true⟩ [] [] Tryd.f90 [.int .i64 code] w R = V_grants_fault code w R := by kernel_rfl
theorem V_grants_fault_of {code : Int} {w : World} {R : Value → World → Prop} (h : V_grants_fault code w R) : Ok Pr f_grants_fault [.int .i64 code] w R :=
  have g := (V_grants_fault_eq code w R).mpr h
  evF_ok good Tryd.func90 (by kernel_rfl) g

def V_slices_Clone_api_Grant_api_Grant (s : SlV) (w : World) (R : Value → World → Prop) : Prop :=
 iteP (Option.isNone (α := Addr) s.a)
 (R (.slice none 0 0) w)
 (nw t_api_Grant [] w fun p w1 =>
 appK Pr [t_s_api_Grant, t_s_api_Grant] t_s_api_Grant [.slice (some p) 0 0, .slice s.a s.n s.c] w1 fun t7 w2 =>
 R (.slice t7.a t7.n t7.c) w2)
theorem V_slices_Clone_api_Grant_api_Grant_eq (s : SlV) (w : World) (R : Value → World → Prop) : evF Pr ⟨true, true⟩ [] [] Tryd.f91 [.slice s.a s.n s.c] w R = V_slices_Clone_api_Grant_api_Grant s w R := by kernel_rfl
theorem V_slices_Clone_api_Grant_api_Grant_of {s : SlV} {w : World} {R : Value → World → Prop} (h : V_slices_Clone_api_Grant_api_Grant s w R) : Ok Pr f_slices_Clone_api_Grant_api_Grant [.slice s.a s.n s.c] w R :=
  have g := (V_slices_Clone_api_Grant_api_Grant_eq s w R).mpr h
  evF_ok good Tryd.func91 (by kernel_rfl) g

def V_ref19_one (gc0 : Int) (gc1 : Int) (gc2 : Int) (gc3 : Int) (gc4 : Int) (gc5 : Bool) (w : World) (R : Value → World → Prop) : Prop :=
 nw t_api_Grant [.int .i64 gc0, .int .i64 gc1, .int .i64 gc2, .int .i64 gc3, .int .i64 gc4, .bool gc5] w fun p w1 =>
 ldI .i64 (Addr.add p 1) w1 fun t4 =>
 ldI .i64 (Addr.add p 1) w1 fun t8 =>
 ldI .i64 (Addr.add p 2) w1 fun t13 =>
 ldI .i64 (Addr.add p 2) w1 fun t18 =>
 ldI .i64 (Addr.add p 4) w1 fun t23 =>
 ldI .i64 (Addr.add p 4) w1 fun t28 =>
 ldI .i64 (Addr.add p 3) w1 fun t33 =>
 ldI .i64 (Addr.add p 3) w1 fun t38 =>
 R (.bool ((((((((decide ((1:Int) ≤ t4)) && (decide (t8 ≤ (6:Int)))) && (decide ((1:Int) ≤ t13))) && (decide (t18 ≤ (6:Int)))) && (decide ((1:Int) ≤ t23))) && (decide (t28 ≤ (1099511627776:Int)))) && (decide ((0:Int) < t33))) && (decide (clrI .i64 t38 (3584:Int) = (0:Int))))) w1
theorem V_ref19_one_eq (gc0 : Int) (gc1 : Int) (gc2 : Int) (gc3 : Int) (gc4 : Int) (gc5 : Bool) (w : World) (R : Value → World → Prop) : evF Pr ⟨true, true⟩ [] [] Tryd.f92 [.agg ⟨[.int .i64 gc0, .int .i64 gc1, .int .i64 gc2, .int .i64 gc3, .int .i64 gc4, .bool gc5]⟩] w R = V_ref19_one gc0 gc1 gc2 gc3 gc4 gc5 w R := by kernel_rfl
theorem V_ref19_one_of {gc0 : Int} {gc1 : Int} {gc2 : Int} {gc3 : Int} {gc4 : Int} {gc5 : Bool} {w : World} {R : Value → World → Prop} (h : V_ref19_one gc0 gc1 gc2 gc3 gc4 gc5 w R) : Ok Pr f_ref19_one [.agg ⟨[.int .i64 gc0, .int .i64 gc1, .int .i64 gc2, .int .i64 gc3, .int .i64 gc4, .bool gc5]⟩] w R :=
  have g := (V_ref19_one_eq gc0 gc1 gc2 gc3 gc4 gc5 w R).mpr h
  evF_ok good Tryd.func92 (by kernel_rfl) g

def V_grants_in (n : Int) (lo : Int) (hi : Int) (w : World) (R : Value → World → Prop) : Prop :=
 R (.bool ((decide (lo ≤ n)) && (decide (n ≤ hi)))) w
theorem V_grants_in_eq (n : Int) (lo : Int) (hi : Int) (w : World) (R : Value → World → Prop) : evF Pr ⟨true, true⟩ [] [] Tryd.f93 [.int .i64 n, .int .i64 lo, .int .i64 hi] w R = V_grants_in n lo hi w R := by kernel_rfl
theorem V_grants_in_of {n : Int} {lo : Int} {hi : Int} {w : World} {R : Value → World → Prop} (h : V_grants_in n lo hi w R) : Ok Pr f_grants_in [.int .i64 n, .int .i64 lo, .int .i64 hi] w R :=
  have g := (V_grants_in_eq n lo hi w R).mpr h
  evF_ok good Tryd.func93 (by kernel_rfl) g

def V_slices_IndexFunc_api_Grant_api_Grant (s : SlV) (f : Value) (w : World) (R : Value → World → Prop) : Prop :=
 loop1 (fun (t8 : Int) => [(8, some (.int .i64 t8))])
 (fun again t8 w1 => iteP (decide (t8 < ((s.n : Nat) : Int)))
 (idxS s.a t8 s.n
 (ld_api_Grant (Addr.add (base s.a) (Int.toNat t8 * 6)) w1 fun t15f0 t15f1 t15f2 t15f3 t15f4 t15f5 =>
 callV Pr f [.agg ⟨[.int .i64 t15f0, .int .i64 t15f1, .int .i64 t15f2, .int .i64 t15f3, .int .i64 t15f4, .bool t15f5]⟩] w1 fun v w2 =>
 asB v fun t16 =>
 iteP t16
 (R (.int .i64 t8) w2)
 ((I64 (t8 + (1:Int)) ∧
 again (t8 + (1:Int)) w2))))
 (R (.int .i64 (-1:Int)) w1))
 (0:Int) w
theorem V_slices_IndexFunc_api_Grant_api_Grant_eq (s : SlV) (f : Value) (w : World) (R : Value → World → Prop) : evF Pr ⟨true, true⟩ [] [(2, [(8, .int .i64)])] Tryd.f94 [.slice s.a s.n s.c, f] w R = V_slices_IndexFunc_api_Grant_api_Grant s f w R := by kernel_rfl
theorem V_slices_IndexFunc_api_Grant_api_Grant_of {s : SlV} {f : Value} {w : World} {R : Value → World → Prop} (h : V_slices_IndexFunc_api_Grant_api_Grant s f w R) : Ok Pr f_slices_IndexFunc_api_Grant_api_Grant [.slice s.a s.n s.c, f] w R :=
  have g := (V_slices_IndexFunc_api_Grant_api_Grant_eq s f w R).mpr h
  evF_ok good Tryd.func94 (by kernel_rfl) g

def V_grants_Check_1 (gc0 : Int) (gc1 : Int) (gc2 : Int) (gc3 : Int) (gc4 : Int) (gc5 : Bool) (free : Addr) (free_1 : Addr) (w : World) (R : Value → World → Prop) : Prop :=
 nw t_api_Grant [.int .i64 gc0, .int .i64 gc1, .int .i64 gc2, .int .i64 gc3, .int .i64 gc4, .bool gc5] w fun p w1 =>
 ldL free (World.drew w1) fun t5 =>
 ld_api_Grant p (World.drew w1) fun t6f0 t6f1 t6f2 t6f3 t6f4 t6f5 =>
 ldL free_1 (World.drew w1) fun t8 =>
 callK Pr f_grants_Token [.slice t5.a t5.n t5.c, .agg ⟨[.int .i64 t6f0, .int .i64 t6f1, .int .i64 t6f2, .int .i64 t6f3, .int .i64 t6f4, .bool t6f5]⟩] (World.drew w1) fun v w2 =>
 asSl v fun t7 =>
 (kept free_1 1 (World.drew w1) w2 ∧
 callK Pr f_bytes_Equal [.slice t7.a t7.n t7.c, .slice t8.a t8.n t8.c] w2 fun v_1 w3 =>
 asB v_1 fun t9 =>
 R (.bool t9) w3)
theorem V_grants_Check_1_eq (gc0 : Int) (gc1 : Int) (gc2 : Int) (gc3 : Int) (gc4 : Int) (gc5 : Bool) (free : Addr) (free_1 : Addr) (w : World) (R : Value → World → Prop) : evF Pr ⟨true, true⟩ [] [] Tryd.f95 [.agg ⟨[.int .i64 gc0, .int .i64 gc1, .int .i64 gc2, .int .i64 gc3, .int .i64 gc4, .bool gc5]⟩, .pointer (some free), .pointer (some free_1)] w R = V_grants_Check_1 gc0 gc1 gc2 gc3 gc4 gc5 free free_1 w R := by kernel_rfl
theorem V_grants_Check_1_of {gc0 : Int} {gc1 : Int} {gc2 : Int} {gc3 : Int} {gc4 : Int} {gc5 : Bool} {free : Addr} {free_1 : Addr} {w : World} {R : Value → World → Prop} (h : V_grants_Check_1 gc0 gc1 gc2 gc3 gc4 gc5 free free_1 w R) : Ok Pr f_grants_Check_1 [.agg ⟨[.int .i64 gc0, .int .i64 gc1, .int .i64 gc2, .int .i64 gc3, .int .i64 gc4, .bool gc5]⟩, .pointer (some free), .pointer (some free_1)] w R :=
  have g := (V_grants_Check_1_eq gc0 gc1 gc2 gc3 gc4 gc5 free free_1 w R).mpr h
  evF_ok good Tryd.func95 (by kernel_rfl) g
end Go.Proofs.YtoeedbljiocpdaaDoor
