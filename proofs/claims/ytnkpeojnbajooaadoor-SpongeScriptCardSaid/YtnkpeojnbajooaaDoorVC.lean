/- WHAT THE CODE OF EACH FUNCTION ASKS FOR, by a program of this claim's author (vc.py); each is held against the code by the kernel. -/
import Derived.Test.YtnkpeojnbajooaaDoorN
import Derived.Test.YtnkpeojnbajooaaDoorEvOk8
import Derived.KernelRfl
namespace Go.Proofs.YtnkpeojnbajooaaDoor
open Go Go.Ev
set_option maxRecDepth 100000
set_option linter.unusedVariables false
theorem good_names : (Pr.funcs.all fun fn => fn.name != "runtime.NumGoroutine") = true := by kernel_rfl
theorem good_mixed : Pr.follows .mixedOrders = true := by kernel_rfl
theorem good : Good Pr where
  names := fun f fn h e => by
    have := Array.all_eq_true_iff_forall_mem.1 good_names fn (Array.mem_of_getElem? h)
    simp [e] at this
  mixed := good_mixed
abbrev S_sponge : ByteArray := ⟨#[115, 112, 111, 110, 103, 101]⟩
abbrev S_empty : ByteArray := ⟨#[]⟩
def V_law2_SpongeScript (rate : Int) (suffix : Int) (ps : SlV) (reads : SlV) (w : World) (R : Value → World → Prop) : Prop :=
 callK Pr f_law2_great [.slice ps.a ps.n ps.c] w fun v w1 =>
 asB v fun t18 =>
 iteP (t18 || (decide ((10:Int) < ((reads.n : Nat) : Int))))
 (callK Pr f_law2_awake [] w1 fun v_1 w2 =>
 asB v_1 fun t24 =>
 R (.bool t24) w2)
 (callK Pr f_sponge_New [.int .i64 rate, .int .u8 suffix] w1 fun v_2 w3 =>
 asP v_2 fun t27 =>
 callK Pr f_ref2_May [.int .i64 rate, .int .u8 suffix] w3 fun v_3 w4 =>
 asB v_3 fun t30 =>
 iteP (!t30)
 (iteP (Option.isNone (α := Addr) t27)
 (callK Pr f_law2_awake [] w4 fun v_4 w5 =>
 asB v_4 fun t35 =>
 R (.bool t35) w5)
 (R (.bool false) w4))
 (iteP (Option.isNone (α := Addr) t27)
 (R (.bool false) w4)
 (loop2 (fun (all : SlV) (i : Int) => [(10, some (.slice all.a all.n all.c)), (11, some (.int .i64 i))])
 (fun again all i w6 => iteP (decide (i < ((ps.n : Nat) : Int)))
 (idxS ps.a i ps.n
 (ldL (Addr.add (base ps.a) (Int.toNat i * 1)) w6 fun t48 =>
 callK Pr f_law0_LendBytes [.slice t48.a t48.n t48.c] w6 fun v_5 w7 =>
 asSl v_5 fun t49 =>
 join0 []
 (fun w8 => callK Pr f_law0_OverBytes [.slice t49.a t49.n t49.c] w8 fun v_6 w9 =>
 idxS ps.a i ps.n
 (ldL (Addr.add (base ps.a) (Int.toNat i * 1)) w9 fun t70 =>
 appK Pr [t_s_uint8, t_s_uint8] t_s_uint8 [.slice all.a all.n all.c, .slice t70.a t70.n t70.c] w9 fun t71 w10 =>
 (I64 (i + (1:Int)) ∧
 again t71 (i + (1:Int)) w10)))
 (fun go =>
 nw t_s_uint8 [.slice t49.a t49.n t49.c, .slice none 0 0] w7 fun p w11 =>
 callK Pr f_sponge_Sponge_Write [.pointer t27, .slice (some p) 2 2] w11 fun v_7 w12 =>
 ifaceNil v_7 fun nil =>
 iteP (!nil)
 (R (.bool false) w12)
 (idxS ps.a i ps.n
 (ldL (Addr.add (base ps.a) (Int.toNat i * 1)) w12 fun t60 =>
 callK Pr f_law0_KeptBytes [.slice t49.a t49.n t49.c, .slice t60.a t60.n t60.c] w12 fun v_8 w13 =>
 asB v_8 fun t61 =>
 iteP (!t61)
 (R (.bool false) w13)
 (go w13))))))
 (loop2 (fun (out : SlV) (i_1 : Int) => [(13, some (.slice out.a out.n out.c)), (14, some (.int .i64 i_1))])
 (fun again_1 out i_1 w14 => iteP (decide (i_1 < ((reads.n : Nat) : Int)))
 (idxS reads.a i_1 reads.n
 (ldI .i64 (Addr.add (base reads.a) (Int.toNat i_1 * 1)) w14 fun t81 =>
 callK Pr f_law0_Low [.int .i64 t81, .int .i64 (201:Int)] w14 fun v_9 w15 =>
 asI .i64 v_9 fun t82 =>
 callK Pr f_sponge_Sponge_Read [.pointer t27, .int .i64 t82] w15 fun v_10 w16 =>
 asSl v_10 fun t85 =>
 iteP (!decide (((t85.n : Nat) : Int) = t82))
 (R (.bool false) w16)
 (appK Pr [t_s_uint8, t_s_uint8] t_s_uint8 [.slice out.a out.n out.c, .slice t85.a t85.n t85.c] w16 fun t92 w17 =>
 callK Pr f_law0_OverBytes [.slice t85.a t85.n t85.c] w17 fun v_11 w18 =>
 iteP (decide ((0:Int) < ((t92.n : Nat) : Int)))
 (nw t_uint8 [.int .u8 (1:Int)] w18 fun p_1 w19 =>
 nw t_s_uint8 [.slice (some p_1) 1 1] w19 fun p_2 w20 =>
 callK Pr f_sponge_Sponge_Write [.pointer t27, .slice (some p_2) 1 1] w20 fun v_12 w21 =>
 callK Pr f_law0_Num [v_12] w21 fun v_13 w22 =>
 asI .i64 v_13 fun t103 =>
 iteP (!decide (t103 = (5:Int)))
 (R (.bool false) w22)
 ((I64 (i_1 + (1:Int)) ∧
 again_1 t92 (i_1 + (1:Int)) w22)))
 ((I64 (i_1 + (1:Int)) ∧
 again_1 t92 (i_1 + (1:Int)) w18)))))
 (callK Pr f_ref2_Out [.int .i64 rate, .int .u8 suffix, .slice all.a all.n all.c, .int .i64 ((out.n : Nat) : Int)] w14 fun v_14 w23 =>
 asSl v_14 fun t112 =>
 callK Pr f_law0_SameBytes [.slice out.a out.n out.c, .slice t112.a t112.n t112.c] w23 fun v_15 w24 =>
 asB v_15 fun t113 =>
 iteP t113
 (callK Pr f_sponge_Sponge_Read [.pointer t27, .int .i64 (-1:Int)] w24 fun v_16 w25 =>
 asSl v_16 fun t116 =>
 iteP (decide (((t116.n : Nat) : Int) = (0:Int)))
 (callK Pr f_law2_awake [] w25 fun v_17 w26 =>
 asB v_17 fun t121 =>
 R (.bool t121) w26)
 (R (.bool false) w25))
 (R (.bool false) w24)))
 ⟨none, 0, 0⟩ (0:Int) w6))
 ⟨none, 0, 0⟩ (0:Int) w4)))
theorem V_law2_SpongeScript_eq (rate : Int) (suffix : Int) (ps : SlV) (reads : SlV) (w : World) (R : Value → World → Prop) : evF Pr ⟨true, true⟩ [(15, [])] [(10, [(10, .sl), (11, .int .i64)]), (19, [(13, .sl), (14, .int .i64)])] Tryd.f3 [.int .i64 rate, .int .u8 suffix, .slice ps.a ps.n ps.c, .slice reads.a reads.n reads.c] w R = V_law2_SpongeScript rate suffix ps reads w R := by kernel_rfl
theorem V_law2_SpongeScript_of {rate : Int} {suffix : Int} {ps : SlV} {reads : SlV} {w : World} {R : Value → World → Prop} (h : V_law2_SpongeScript rate suffix ps reads w R) : Ok Pr f_law2_SpongeScript [.int .i64 rate, .int .u8 suffix, .slice ps.a ps.n ps.c, .slice reads.a reads.n reads.c] w R :=
  have g := (V_law2_SpongeScript_eq rate suffix ps reads w R).mpr h
  evF_ok good Tryd.func3 (by kernel_rfl) g

def V_law2_SpongeNone (n : Int) (w : World) (R : Value → World → Prop) : Prop :=
 nw t_s_uint8 [.slice none 0 0] w fun p w1 =>
 callK Pr f_sponge_Sponge_Write [.pointer none, .slice (some p) 1 1] w1 fun v w2 =>
 callK Pr f_law0_Num [v] w2 fun v_1 w3 =>
 asI .i64 v_1 fun t7 =>
 iteP (decide (t7 = (1:Int)))
 (callK Pr f_sponge_Sponge_Read [.pointer none, .int .i64 n] w3 fun v_2 w4 =>
 asSl v_2 fun t12 =>
 iteP (decide (((t12.n : Nat) : Int) = (0:Int)))
 (callK Pr f_law2_awake [] w4 fun v_3 w5 =>
 asB v_3 fun t17 =>
 R (.bool t17) w5)
 (R (.bool false) w4))
 (R (.bool false) w3)
theorem V_law2_SpongeNone_eq (n : Int) (w : World) (R : Value → World → Prop) : evF Pr ⟨true, true⟩ [] [] Tryd.f4 [.int .i64 n] w R = V_law2_SpongeNone n w R := by kernel_rfl
theorem V_law2_SpongeNone_of {n : Int} {w : World} {R : Value → World → Prop} (h : V_law2_SpongeNone n w R) : Ok Pr f_law2_SpongeNone [.int .i64 n] w R :=
  have g := (V_law2_SpongeNone_eq n w R).mpr h
  evF_ok good Tryd.func4 (by kernel_rfl) g

def V_law2_SpongeSame (rate : Int) (suffix : Int) (b : SlV) (cut : Int) (out : Int) (part : Int) (w : World) (R : Value → World → Prop) : Prop :=
 iteP (decide ((400:Int) < ((b.n : Nat) : Int)))
 (callK Pr f_law2_awake [] w fun v w1 =>
 asB v fun t25 =>
 R (.bool t25) w1)
 (callK Pr f_sponge_New [.int .i64 rate, .int .u8 suffix] w fun v_1 w2 =>
 asP v_1 fun t28 =>
 callK Pr f_sponge_New [.int .i64 rate, .int .u8 suffix] w2 fun v_2 w3 =>
 asP v_2 fun t31 =>
 iteP ((Option.isNone (α := Addr) t28) || (Option.isNone (α := Addr) t31))
 (iteP ((Option.isNone (α := Addr) t28) && (Option.isNone (α := Addr) t31))
 (callK Pr f_law2_awake [] w3 fun v_3 w4 =>
 asB v_3 fun t45 =>
 R (.bool t45) w4)
 (R (.bool false) w3))
 ((I64 (((b.n : Nat) : Int) + (1:Int)) ∧
 callK Pr f_law0_Low [.int .i64 cut, .int .i64 (((b.n : Nat) : Int) + (1:Int))] w3 fun v_4 w5 =>
 asI .i64 v_4 fun t51 =>
 callK Pr f_law0_Low [.int .i64 out, .int .i64 (300:Int)] w5 fun v_5 w6 =>
 asI .i64 v_5 fun t53 =>
 (I64 ((1:Int) + t53) ∧
 callK Pr f_law0_Low [.int .i64 part, .int .i64 ((1:Int) + t53)] w6 fun v_6 w7 =>
 asI .i64 v_6 fun t57 =>
 (I64 ((1:Int) + t57) ∧
 nw t_s_uint8 [.slice b.a b.n b.c] w7 fun p w8 =>
 callK Pr f_sponge_Sponge_Write [.pointer t28, .slice (some p) 1 1] w8 fun v_7 w9 =>
 slH b t51 fun t66 =>
 slL 1 b t51 fun t72 =>
 ((nw t_s_uint8 [.slice t66.a t66.n t66.c, .slice none 0 0] (World.drew w9) fun p_1 w10 =>
 ((callK Pr f_sponge_Sponge_Write [.pointer t31, .slice (some p_1) 2 2] w10 fun v_8 w11 =>
 nw t_s_uint8 [.slice t72.a t72.n t72.c] w11 fun p_2 w12 =>
 callK Pr f_sponge_Sponge_Write [.pointer t31, .slice (some p_2) 1 1] w12 fun v_9 w13 =>
 callK Pr f_sponge_Sponge_Read [.pointer t28, .int .i64 ((1:Int) + t53)] w13 fun v_10 w14 =>
 asSl v_10 fun t77 =>
 callK Pr f_sponge_Sponge_Read [.pointer t31, .int .i64 ((1:Int) + t57)] w14 fun v_11 w15 =>
 asSl v_11 fun t80 =>
 appK Pr [t_s_uint8, t_s_uint8] t_s_uint8 [.slice none 0 0, .slice t80.a t80.n t80.c] w15 fun t81 w16 =>
 (I64 (((1:Int) + t53) - ((1:Int) + t57)) ∧
 callK Pr f_sponge_Sponge_Read [.pointer t31, .int .i64 (((1:Int) + t53) - ((1:Int) + t57))] w16 fun v_12 w17 =>
 asSl v_12 fun t86 =>
 appK Pr [t_s_uint8, t_s_uint8] t_s_uint8 [.slice t81.a t81.n t81.c, .slice t86.a t86.n t86.c] w17 fun t87 w18 =>
 callK Pr f_sponge_Sponge_Read [.pointer t28, .int .i64 (5:Int)] w18 fun v_13 w19 =>
 asSl v_13 fun t89 =>
 callK Pr f_sponge_Sponge_Read [.pointer t31, .int .i64 (5:Int)] w19 fun v_14 w20 =>
 asSl v_14 fun t91 =>
 ifaceNil v_7 fun nil =>
 iteP nil
 (ifaceNil v_8 fun nil_1 =>
 iteP nil_1
 (ifaceNil v_9 fun nil_2 =>
 iteP (nil_2 && (decide (((t77.n : Nat) : Int) = (1:Int) + t53)))
 (callK Pr f_law0_SameBytes [.slice t77.a t77.n t77.c, .slice t87.a t87.n t87.c] w20 fun v_15 w21 =>
 asB v_15 fun t111 =>
 iteP (t111 && (decide (((t89.n : Nat) : Int) = (5:Int))))
 (callK Pr f_law0_SameBytes [.slice t89.a t89.n t89.c, .slice t91.a t91.n t91.c] w21 fun v_16 w22 =>
 asB v_16 fun t121 =>
 iteP t121
 (callK Pr f_law2_awake [] w22 fun v_17 w23 =>
 asB v_17 fun t124 =>
 R (.bool t124) w23)
 (R (.bool false) w22))
 (R (.bool false) w21))
 (R (.bool false) w20))
 (R (.bool false) w20))
 (R (.bool false) w20))) ∧
 (nw t_s_uint8 [.slice t72.a t72.n t72.c] w10 fun p_3 w24 =>
 callK Pr f_sponge_Sponge_Write [.pointer t31, .slice (some p_1) 2 2] w24 fun v_18 w25 =>
 callK Pr f_sponge_Sponge_Write [.pointer t31, .slice (some p_3) 1 1] w25 fun v_19 w26 =>
 callK Pr f_sponge_Sponge_Read [.pointer t28, .int .i64 ((1:Int) + t53)] w26 fun v_20 w27 =>
 asSl v_20 fun t77_1 =>
 callK Pr f_sponge_Sponge_Read [.pointer t31, .int .i64 ((1:Int) + t57)] w27 fun v_21 w28 =>
 asSl v_21 fun t80_1 =>
 appK Pr [t_s_uint8, t_s_uint8] t_s_uint8 [.slice none 0 0, .slice t80_1.a t80_1.n t80_1.c] w28 fun t81_1 w29 =>
 (I64 (((1:Int) + t53) - ((1:Int) + t57)) ∧
 callK Pr f_sponge_Sponge_Read [.pointer t31, .int .i64 (((1:Int) + t53) - ((1:Int) + t57))] w29 fun v_22 w30 =>
 asSl v_22 fun t86_1 =>
 appK Pr [t_s_uint8, t_s_uint8] t_s_uint8 [.slice t81_1.a t81_1.n t81_1.c, .slice t86_1.a t86_1.n t86_1.c] w30 fun t87_1 w31 =>
 callK Pr f_sponge_Sponge_Read [.pointer t28, .int .i64 (5:Int)] w31 fun v_23 w32 =>
 asSl v_23 fun t89_1 =>
 callK Pr f_sponge_Sponge_Read [.pointer t31, .int .i64 (5:Int)] w32 fun v_24 w33 =>
 asSl v_24 fun t91_1 =>
 ifaceNil v_7 fun nil_3 =>
 iteP nil_3
 (ifaceNil v_18 fun nil_4 =>
 iteP nil_4
 (ifaceNil v_19 fun nil_5 =>
 iteP (nil_5 && (decide (((t77_1.n : Nat) : Int) = (1:Int) + t53)))
 (callK Pr f_law0_SameBytes [.slice t77_1.a t77_1.n t77_1.c, .slice t87_1.a t87_1.n t87_1.c] w33 fun v_25 w34 =>
 asB v_25 fun t111_1 =>
 iteP (t111_1 && (decide (((t89_1.n : Nat) : Int) = (5:Int))))
 (callK Pr f_law0_SameBytes [.slice t89_1.a t89_1.n t89_1.c, .slice t91_1.a t91_1.n t91_1.c] w34 fun v_26 w35 =>
 asB v_26 fun t121_1 =>
 iteP t121_1
 (callK Pr f_law2_awake [] w35 fun v_27 w36 =>
 asB v_27 fun t124_1 =>
 R (.bool t124_1) w36)
 (R (.bool false) w35))
 (R (.bool false) w34))
 (R (.bool false) w33))
 (R (.bool false) w33))
 (R (.bool false) w33))))) ∧
 (nw t_s_uint8 [.slice t72.a t72.n t72.c] (World.drew w9) fun p_4 w37 =>
 nw t_s_uint8 [.slice t66.a t66.n t66.c, .slice none 0 0] w37 fun p_5 w38 =>
 callK Pr f_sponge_Sponge_Write [.pointer t31, .slice (some p_5) 2 2] w38 fun v_28 w39 =>
 callK Pr f_sponge_Sponge_Write [.pointer t31, .slice (some p_4) 1 1] w39 fun v_29 w40 =>
 callK Pr f_sponge_Sponge_Read [.pointer t28, .int .i64 ((1:Int) + t53)] w40 fun v_30 w41 =>
 asSl v_30 fun t77_2 =>
 callK Pr f_sponge_Sponge_Read [.pointer t31, .int .i64 ((1:Int) + t57)] w41 fun v_31 w42 =>
 asSl v_31 fun t80_2 =>
 appK Pr [t_s_uint8, t_s_uint8] t_s_uint8 [.slice none 0 0, .slice t80_2.a t80_2.n t80_2.c] w42 fun t81_2 w43 =>
 (I64 (((1:Int) + t53) - ((1:Int) + t57)) ∧
 callK Pr f_sponge_Sponge_Read [.pointer t31, .int .i64 (((1:Int) + t53) - ((1:Int) + t57))] w43 fun v_32 w44 =>
 asSl v_32 fun t86_2 =>
 appK Pr [t_s_uint8, t_s_uint8] t_s_uint8 [.slice t81_2.a t81_2.n t81_2.c, .slice t86_2.a t86_2.n t86_2.c] w44 fun t87_2 w45 =>
 callK Pr f_sponge_Sponge_Read [.pointer t28, .int .i64 (5:Int)] w45 fun v_33 w46 =>
 asSl v_33 fun t89_2 =>
 callK Pr f_sponge_Sponge_Read [.pointer t31, .int .i64 (5:Int)] w46 fun v_34 w47 =>
 asSl v_34 fun t91_2 =>
 ifaceNil v_7 fun nil_6 =>
 iteP nil_6
 (ifaceNil v_28 fun nil_7 =>
 iteP nil_7
 (ifaceNil v_29 fun nil_8 =>
 iteP (nil_8 && (decide (((t77_2.n : Nat) : Int) = (1:Int) + t53)))
 (callK Pr f_law0_SameBytes [.slice t77_2.a t77_2.n t77_2.c, .slice t87_2.a t87_2.n t87_2.c] w47 fun v_35 w48 =>
 asB v_35 fun t111_2 =>
 iteP (t111_2 && (decide (((t89_2.n : Nat) : Int) = (5:Int))))
 (callK Pr f_law0_SameBytes [.slice t89_2.a t89_2.n t89_2.c, .slice t91_2.a t91_2.n t91_2.c] w48 fun v_36 w49 =>
 asB v_36 fun t121_2 =>
 iteP t121_2
 (callK Pr f_law2_awake [] w49 fun v_37 w50 =>
 asB v_37 fun t124_2 =>
 R (.bool t124_2) w50)
 (R (.bool false) w49))
 (R (.bool false) w48))
 (R (.bool false) w47))
 (R (.bool false) w47))
 (R (.bool false) w47)))))))))
theorem V_law2_SpongeSame_eq (rate : Int) (suffix : Int) (b : SlV) (cut : Int) (out : Int) (part : Int) (w : World) (R : Value → World → Prop) : evF Pr ⟨true, true⟩ [] [] Tryd.f5 [.int .i64 rate, .int .u8 suffix, .slice b.a b.n b.c, .int .i64 cut, .int .i64 out, .int .i64 part] w R = V_law2_SpongeSame rate suffix b cut out part w R := by kernel_rfl
theorem V_law2_SpongeSame_of {rate : Int} {suffix : Int} {b : SlV} {cut : Int} {out : Int} {part : Int} {w : World} {R : Value → World → Prop} (h : V_law2_SpongeSame rate suffix b cut out part w R) : Ok Pr f_law2_SpongeSame [.int .i64 rate, .int .u8 suffix, .slice b.a b.n b.c, .int .i64 cut, .int .i64 out, .int .i64 part] w R :=
  have g := (V_law2_SpongeSame_eq rate suffix b cut out part w R).mpr h
  evF_ok good Tryd.func5 (by kernel_rfl) g

def V_law2_SpongeTells (ps : SlV) (n : Int) (w : World) (R : Value → World → Prop) : Prop :=
 callK Pr f_law2_great [.slice ps.a ps.n ps.c] w fun v w1 =>
 asB v fun t7 =>
 iteP (t7 || (decide ((500:Int) < n)))
 (callK Pr f_law2_awake [] w1 fun v_1 w2 =>
 asB v_1 fun t12 =>
 R (.bool t12) w2)
 (callK Pr f_ref2_Join [.slice ps.a ps.n ps.c] w1 fun v_2 w3 =>
 asSl v_2 fun t14 =>
 callK Pr f_sponge_Shake128 [.int .i64 n, .slice ps.a ps.n ps.c] w3 fun v_3 w4 =>
 asSl v_3 fun t17 =>
 callK Pr f_ref2_Shake128 [.int .i64 n, .slice t14.a t14.n t14.c] w4 fun v_4 w5 =>
 asSl v_4 fun t20 =>
 callK Pr f_law0_SameBytes [.slice t17.a t17.n t17.c, .slice t20.a t20.n t20.c] w5 fun v_5 w6 =>
 asB v_5 fun t21 =>
 iteP t21
 (callK Pr f_sponge_Shake256 [.int .i64 n, .slice ps.a ps.n ps.c] w6 fun v_6 w7 =>
 asSl v_6 fun t25 =>
 callK Pr f_ref2_Shake256 [.int .i64 n, .slice t14.a t14.n t14.c] w7 fun v_7 w8 =>
 asSl v_7 fun t28 =>
 callK Pr f_law0_SameBytes [.slice t25.a t25.n t25.c, .slice t28.a t28.n t28.c] w8 fun v_8 w9 =>
 asB v_8 fun t29 =>
 iteP t29
 (callK Pr f_sponge_Sha256 [.slice ps.a ps.n ps.c] w9 fun v_9 w10 =>
 asSl v_9 fun t33 =>
 callK Pr f_ref2_Sha256 [.slice t14.a t14.n t14.c] w10 fun v_10 w11 =>
 asSl v_10 fun t35 =>
 callK Pr f_law0_SameBytes [.slice t33.a t33.n t33.c, .slice t35.a t35.n t35.c] w11 fun v_11 w12 =>
 asB v_11 fun t36 =>
 iteP t36
 (callK Pr f_sponge_Sha512 [.slice ps.a ps.n ps.c] w12 fun v_12 w13 =>
 asSl v_12 fun t40 =>
 callK Pr f_ref2_Sha512 [.slice t14.a t14.n t14.c] w13 fun v_13 w14 =>
 asSl v_13 fun t42 =>
 callK Pr f_law0_SameBytes [.slice t40.a t40.n t40.c, .slice t42.a t42.n t42.c] w14 fun v_14 w15 =>
 asB v_14 fun t43 =>
 iteP t43
 (callK Pr f_law2_awake [] w15 fun v_15 w16 =>
 asB v_15 fun t46 =>
 R (.bool t46) w16)
 (R (.bool false) w15))
 (R (.bool false) w12))
 (R (.bool false) w9))
 (R (.bool false) w6))
theorem V_law2_SpongeTells_eq (ps : SlV) (n : Int) (w : World) (R : Value → World → Prop) : evF Pr ⟨true, true⟩ [] [] Tryd.f6 [.slice ps.a ps.n ps.c, .int .i64 n] w R = V_law2_SpongeTells ps n w R := by kernel_rfl
theorem V_law2_SpongeTells_of {ps : SlV} {n : Int} {w : World} {R : Value → World → Prop} (h : V_law2_SpongeTells ps n w R) : Ok Pr f_law2_SpongeTells [.slice ps.a ps.n ps.c, .int .i64 n] w R :=
  have g := (V_law2_SpongeTells_eq ps n w R).mpr h
  evF_ok good Tryd.func6 (by kernel_rfl) g

def V_law2_SpongeBegins (b : SlV) (n : Int) (m : Int) (w : World) (R : Value → World → Prop) : Prop :=
 iteP (decide ((300:Int) < ((b.n : Nat) : Int)))
 (callK Pr f_law2_awake [] w fun v w1 =>
 asB v fun t16 =>
 R (.bool t16) w1)
 (callK Pr f_law0_Low [.int .i64 n, .int .i64 (300:Int)] w fun v_1 w2 =>
 asI .i64 v_1 fun t18 =>
 callK Pr f_law0_Low [.int .i64 m, .int .i64 (300:Int)] w2 fun v_2 w3 =>
 asI .i64 v_2 fun t20 =>
 nw t_s_uint8 [.slice b.a b.n b.c] w3 fun p w4 =>
 callK Pr f_sponge_Shake256 [.int .i64 (min t18 t20), .slice (some p) 1 1] w4 fun v_3 w5 =>
 asSl v_3 fun t30 =>
 nw t_s_uint8 [.slice b.a b.n b.c] w5 fun p_1 w6 =>
 callK Pr f_sponge_Shake256 [.int .i64 (max t18 t20), .slice (some p_1) 1 1] w6 fun v_4 w7 =>
 asSl v_4 fun t34 =>
 nw t_s_uint8 [.slice b.a b.n b.c] w7 fun p_2 w8 =>
 callK Pr f_sponge_Shake128 [.int .i64 (min t18 t20), .slice (some p_2) 1 1] w8 fun v_5 w9 =>
 asSl v_5 fun t38 =>
 nw t_s_uint8 [.slice b.a b.n b.c] w9 fun p_3 w10 =>
 callK Pr f_sponge_Shake128 [.int .i64 (max t18 t20), .slice (some p_3) 1 1] w10 fun v_6 w11 =>
 asSl v_6 fun t42 =>
 iteP ((((!decide (((t30.n : Nat) : Int) = min t18 t20)) || (!decide (((t34.n : Nat) : Int) = max t18 t20))) || (!decide (((t38.n : Nat) : Int) = min t18 t20))) || (!decide (((t42.n : Nat) : Int) = max t18 t20)))
 (R (.bool false) w11)
 (slH t34 (min t18 t20) fun t68 =>
 callK Pr f_law0_SameBytes [.slice t30.a t30.n t30.c, .slice t68.a t68.n t68.c] w11 fun v_7 w12 =>
 asB v_7 fun t69 =>
 iteP t69
 (slH t42 (min t18 t20) fun t74 =>
 callK Pr f_law0_SameBytes [.slice t38.a t38.n t38.c, .slice t74.a t74.n t74.c] w12 fun v_8 w13 =>
 asB v_8 fun t75 =>
 iteP t75
 (nw t_s_uint8 [.slice b.a b.n b.c] w13 fun p_4 w14 =>
 callK Pr f_sponge_Sha512 [.slice (some p_4) 1 1] w14 fun v_9 w15 =>
 asSl v_9 fun t80 =>
 iteP (decide (((t80.n : Nat) : Int) = (64:Int)))
 (nw t_s_uint8 [.slice b.a b.n b.c] w15 fun p_5 w16 =>
 callK Pr f_sponge_Shake256 [.int .i64 (1048577:Int), .slice (some p_5) 1 1] w16 fun v_10 w17 =>
 asSl v_10 fun t87 =>
 iteP (decide (((t87.n : Nat) : Int) = (0:Int)))
 (callK Pr f_law2_awake [] w17 fun v_11 w18 =>
 asB v_11 fun t92 =>
 R (.bool t92) w18)
 (R (.bool false) w17))
 (R (.bool false) w15))
 (R (.bool false) w13))
 (R (.bool false) w12)))
theorem V_law2_SpongeBegins_eq (b : SlV) (n : Int) (m : Int) (w : World) (R : Value → World → Prop) : evF Pr ⟨true, true⟩ [] [] Tryd.f7 [.slice b.a b.n b.c, .int .i64 n, .int .i64 m] w R = V_law2_SpongeBegins b n m w R := by kernel_rfl
theorem V_law2_SpongeBegins_of {b : SlV} {n : Int} {m : Int} {w : World} {R : Value → World → Prop} (h : V_law2_SpongeBegins b n m w R) : Ok Pr f_law2_SpongeBegins [.slice b.a b.n b.c, .int .i64 n, .int .i64 m] w R :=
  have g := (V_law2_SpongeBegins_eq b n m w R).mpr h
  evF_ok good Tryd.func7 (by kernel_rfl) g

def V_law2_great (ps : SlV) (w : World) (R : Value → World → Prop) : Prop :=
 loop1 (fun (i : Int) => [(3, some (.int .i64 i))])
 (fun again i w1 => iteP ((decide (i < ((ps.n : Nat) : Int))) && (decide (((ps.n : Nat) : Int) ≤ (12:Int))))
 (idxS ps.a i ps.n
 (ldL (Addr.add (base ps.a) (Int.toNat i * 1)) w1 fun t18 =>
 iteP (decide ((300:Int) < ((t18.n : Nat) : Int)))
 (R (.bool true) w1)
 ((I64 (i + (1:Int)) ∧
 again (i + (1:Int)) w1))))
 (R (.bool (decide ((12:Int) < ((ps.n : Nat) : Int)))) w1))
 (0:Int) w
theorem V_law2_great_eq (ps : SlV) (w : World) (R : Value → World → Prop) : evF Pr ⟨true, true⟩ [] [(2, [(3, .int .i64)])] Tryd.f8 [.slice ps.a ps.n ps.c] w R = V_law2_great ps w R := by kernel_rfl
theorem V_law2_great_of {ps : SlV} {w : World} {R : Value → World → Prop} (h : V_law2_great ps w R) : Ok Pr f_law2_great [.slice ps.a ps.n ps.c] w R :=
  have g := (V_law2_great_eq ps w R).mpr h
  evF_ok good Tryd.func8 (by kernel_rfl) g

def V_law2_awake (w : World) (R : Value → World → Prop) : Prop :=
 callK Pr f_sponge_Sha256 [.slice none 0 0] w fun v w1 =>
 asSl v fun t6 =>
 callK Pr f_sponge_New [.int .i64 (136:Int), .int .u8 (6:Int)] w1 fun v_1 w2 =>
 asP v_1 fun t7 =>
 iteP (Option.isNone (α := Addr) t7)
 (R (.bool false) w2)
 (nw t_uint8 [.int .u8 (97:Int)] w2 fun p w3 =>
 strishK Pr (some p) w3 fun w4 =>
 nw t_s_uint8 [.slice (some p) 1 1] w4 fun p_1 w5 =>
 callK Pr f_sponge_Sponge_Write [.pointer t7, .slice (some p_1) 1 1] w5 fun v_2 w6 =>
 callK Pr f_sponge_Sponge_Read [.pointer t7, .int .i64 (1:Int)] w6 fun v_3 w7 =>
 asSl v_3 fun t16 =>
 nw t_uint8 [.int .u8 (98:Int)] w7 fun p_2 w8 =>
 strishK Pr (some p_2) w8 fun w9 =>
 nw t_s_uint8 [.slice (some p_2) 1 1] w9 fun p_3 w10 =>
 callK Pr f_sponge_Sponge_Write [.pointer t7, .slice (some p_3) 1 1] w10 fun v_4 w11 =>
 iteP (decide (((t6.n : Nat) : Int) = (32:Int)))
 (idxS t6.a (0:Int) t6.n
 (ldI .u8 (Addr.add (base t6.a) (Int.toNat (0:Int) * 1)) w11 fun t28 =>
 iteP (decide (t28 = (167:Int)))
 (idxS t6.a (1:Int) t6.n
 (ldI .u8 (Addr.add (base t6.a) (Int.toNat (1:Int) * 1)) w11 fun t34 =>
 iteP (decide (t34 = (255:Int)))
 (ifaceNil v_2 fun nil =>
 iteP (nil && (decide (((t16.n : Nat) : Int) = (1:Int))))
 (callK Pr f_law0_Num [v_4] w11 fun v_5 w12 =>
 asI .i64 v_5 fun t48 =>
 iteP (decide (t48 = (5:Int)))
 (callK Pr f_sponge_New [.int .i64 (0:Int), .int .u8 (6:Int)] w12 fun v_6 w13 =>
 asP v_6 fun t52 =>
 R (.bool (Option.isNone (α := Addr) t52)) w13)
 (R (.bool false) w12))
 (R (.bool false) w11))
 (R (.bool false) w11)))
 (R (.bool false) w11)))
 (R (.bool false) w11))
theorem V_law2_awake_eq (w : World) (R : Value → World → Prop) : evF Pr ⟨true, true⟩ [] [] Tryd.f9 [] w R = V_law2_awake w R := by kernel_rfl
theorem V_law2_awake_of {w : World} {R : Value → World → Prop} (h : V_law2_awake w R) : Ok Pr f_law2_awake [] w R :=
  have g := (V_law2_awake_eq w R).mpr h
  evF_ok good Tryd.func9 (by kernel_rfl) g

def V_sponge_New (rate : Int) (suffix : Int) (w : World) (R : Value → World → Prop) : Prop :=
 iteP (((((decide (rate < (8:Int))) || (decide ((192:Int) < rate))) || (!decide (Int.tmod rate (8:Int) = (0:Int)))) || (decide (suffix < (1:Int)))) || (decide ((127:Int) < suffix)))
 (R (.pointer none) w)
 (nw t_sponge_Sponge [.int .u64 (0:Int), .int .u64 (0:Int), .int .u64 (0:Int), .int .u64 (0:Int), .int .u64 (0:Int), .int .u64 (0:Int), .int .u64 (0:Int), .int .u64 (0:Int), .int .u64 (0:Int), .int .u64 (0:Int), .int .u64 (0:Int), .int .u64 (0:Int), .int .u64 (0:Int), .int .u64 (0:Int), .int .u64 (0:Int), .int .u64 (0:Int), .int .u64 (0:Int), .int .u64 (0:Int), .int .u64 (0:Int), .int .u64 (0:Int), .int .u64 (0:Int), .int .u64 (0:Int), .int .u64 (0:Int), .int .u64 (0:Int), .int .u64 (0:Int), .int .i64 rate, .int .u8 suffix, .int .i64 (0:Int), .bool false] w fun p w1 =>
 R (.pointer (some p)) w1)
theorem V_sponge_New_eq (rate : Int) (suffix : Int) (w : World) (R : Value → World → Prop) : evF Pr ⟨true, true⟩ [] [] Tryd.f10 [.int .i64 rate, .int .u8 suffix] w R = V_sponge_New rate suffix w R := by kernel_rfl
theorem V_sponge_New_of {rate : Int} {suffix : Int} {w : World} {R : Value → World → Prop} (h : V_sponge_New rate suffix w R) : Ok Pr f_sponge_New [.int .i64 rate, .int .u8 suffix] w R :=
  have g := (V_sponge_New_eq rate suffix w R).mpr h
  evF_ok good Tryd.func10 (by kernel_rfl) g

def V_ref2_May (rate : Int) (suffix : Int) (w : World) (R : Value → World → Prop) : Prop :=
 R (.bool (((((decide ((8:Int) ≤ rate)) && (decide (rate ≤ (192:Int)))) && (decide (Int.tmod rate (8:Int) = (0:Int)))) && (decide ((1:Int) ≤ suffix))) && (decide (suffix ≤ (127:Int))))) w
theorem V_ref2_May_eq (rate : Int) (suffix : Int) (w : World) (R : Value → World → Prop) : evF Pr ⟨true, true⟩ [] [] Tryd.f11 [.int .i64 rate, .int .u8 suffix] w R = V_ref2_May rate suffix w R := by kernel_rfl
theorem V_ref2_May_of {rate : Int} {suffix : Int} {w : World} {R : Value → World → Prop} (h : V_ref2_May rate suffix w R) : Ok Pr f_ref2_May [.int .i64 rate, .int .u8 suffix] w R :=
  have g := (V_ref2_May_eq rate suffix w R).mpr h
  evF_ok good Tryd.func11 (by kernel_rfl) g

def V_law0_LendBytes (l : SlV) (w : World) (R : Value → World → Prop) : Prop :=
 (I64 (((l.n : Nat) : Int) + (3:Int)) ∧
 mkSl Pr t_uint8 (0:Int) (((l.n : Nat) : Int) + (3:Int)) w fun t9 w1 =>
 appK Pr [t_s_uint8, t_s_uint8] t_s_uint8 [.slice t9.a t9.n t9.c, .slice l.a l.n l.c] w1 fun t12 w2 =>
 (I64 (((l.n : Nat) : Int) + (3:Int)) ∧
 slLH 1 t12 ((l.n : Nat) : Int) (((l.n : Nat) : Int) + (3:Int)) fun t19 =>
 loop1 (fun (i : Int) => [(5, some (.int .i64 i))])
 (fun again i w3 => iteP (decide (i < (3:Int)))
 (idxS t19.a i t19.n
 (st (Addr.add (base t19.a) (Int.toNat i * 1)) (.int .u8 (119:Int)) w3 fun w4 =>
 (I64 (i + (1:Int)) ∧
 again (i + (1:Int)) w4)))
 (R (.slice t12.a t12.n t12.c) w3))
 (0:Int) w2))
theorem V_law0_LendBytes_eq (l : SlV) (w : World) (R : Value → World → Prop) : evF Pr ⟨true, true⟩ [] [(5, [(5, .int .i64)])] Tryd.f12 [.slice l.a l.n l.c] w R = V_law0_LendBytes l w R := by kernel_rfl
theorem V_law0_LendBytes_of {l : SlV} {w : World} {R : Value → World → Prop} (h : V_law0_LendBytes l w R) : Ok Pr f_law0_LendBytes [.slice l.a l.n l.c] w R :=
  have g := (V_law0_LendBytes_eq l w R).mpr h
  evF_ok good Tryd.func12 (by kernel_rfl) g

def V_sponge_Sponge_Write (s : Option Addr) (parts : SlV) (w : World) (R : Value → World → Prop) : Prop :=
 iteP (Option.isNone (α := Addr) s)
 (callK Pr f_sponge_fault [.int .i64 (1:Int)] w fun v w1 =>
 R v w1)
 (nilchk s fun a =>
 ldB (Addr.add a 28) w fun t17 =>
 iteP t17
 (callK Pr f_sponge_fault [.int .i64 (5:Int)] w fun v_1 w2 =>
 R v_1 w2)
 (loop1 (fun (t21 : Int) => [(21, some (.int .i64 t21))])
 (fun again t21 w3 => iteP (decide (t21 < ((parts.n : Nat) : Int)))
 (idxS parts.a t21 parts.n
 (ldL (Addr.add (base parts.a) (Int.toNat t21 * 1)) w3 fun t24 =>
 loop1 (fun (t27 : Int) => [(27, some (.int .i64 t27))])
 (fun again_1 t27 w4 => iteP (decide (t27 < ((t24.n : Nat) : Int)))
 (idxS t24.a t27 t24.n
 (ldI .u8 (Addr.add (base t24.a) (Int.toNat t27 * 1)) w4 fun t30 =>
 nilchk s fun a_1 =>
 ldI .i64 (Addr.add a_1 27) w4 fun t35 =>
 callK Pr f_sponge_Sponge_flip [.pointer s, .int .i64 t35, .int .u8 t30] w4 fun v_2 w5 =>
 nilchk s fun a_2 =>
 ldI .i64 (Addr.add a_2 27) w5 fun t41 =>
 (I64 (t41 + (1:Int)) ∧
 nilchk s fun a_3 =>
 st (Addr.add a_3 27) (.int .i64 (t41 + (1:Int))) w5 fun w6 =>
 callK Pr f_sponge_Sponge_turn [.pointer s] w6 fun v_3 w7 =>
 (I64 (t27 + (1:Int)) ∧
 again_1 (t27 + (1:Int)) w7))))
 ((I64 (t21 + (1:Int)) ∧
 again (t21 + (1:Int)) w4)))
 (0:Int) w3))
 (R (.nilIface) w3))
 (0:Int) w))
theorem V_sponge_Sponge_Write_eq (s : Option Addr) (parts : SlV) (w : World) (R : Value → World → Prop) : evF Pr ⟨true, true⟩ [] [(6, [(21, .int .i64)]), (9, [(27, .int .i64)])] Tryd.f13 [.pointer s, .slice parts.a parts.n parts.c] w R = V_sponge_Sponge_Write s parts w R := by kernel_rfl
theorem V_sponge_Sponge_Write_of {s : Option Addr} {parts : SlV} {w : World} {R : Value → World → Prop} (h : V_sponge_Sponge_Write s parts w R) : Ok Pr f_sponge_Sponge_Write [.pointer s, .slice parts.a parts.n parts.c] w R :=
  have g := (V_sponge_Sponge_Write_eq s parts w R).mpr h
  evF_ok good Tryd.func13 (by kernel_rfl) g

def V_law0_KeptBytes (lent : SlV) (l : SlV) (w : World) (R : Value → World → Prop) : Prop :=
 (I64 (((lent.n : Nat) : Int) + (3:Int)) ∧
 slLH 1 lent ((lent.n : Nat) : Int) (((lent.n : Nat) : Int) + (3:Int)) fun t13 =>
 loop1 (fun (i : Int) => [(6, some (.int .i64 i))])
 (fun again i w1 => iteP (decide (i < (3:Int)))
 (idxS t13.a i t13.n
 (ldI .u8 (Addr.add (base t13.a) (Int.toNat i * 1)) w1 fun t21 =>
 iteP (!decide (t21 = (119:Int)))
 (R (.bool false) w1)
 ((I64 (i + (1:Int)) ∧
 again (i + (1:Int)) w1))))
 (callK Pr f_law0_SameBytes [.slice lent.a lent.n lent.c, .slice l.a l.n l.c] w1 fun v w2 =>
 asB v fun t25 =>
 R (.bool t25) w2))
 (0:Int) w)
theorem V_law0_KeptBytes_eq (lent : SlV) (l : SlV) (w : World) (R : Value → World → Prop) : evF Pr ⟨true, true⟩ [] [(3, [(6, .int .i64)])] Tryd.f14 [.slice lent.a lent.n lent.c, .slice l.a l.n l.c] w R = V_law0_KeptBytes lent l w R := by kernel_rfl
theorem V_law0_KeptBytes_of {lent : SlV} {l : SlV} {w : World} {R : Value → World → Prop} (h : V_law0_KeptBytes lent l w R) : Ok Pr f_law0_KeptBytes [.slice lent.a lent.n lent.c, .slice l.a l.n l.c] w R :=
  have g := (V_law0_KeptBytes_eq lent l w R).mpr h
  evF_ok good Tryd.func14 (by kernel_rfl) g

def V_law0_OverBytes (l : SlV) (w : World) (R : Value → World → Prop) : Prop :=
 loop1 (fun (i : Int) => [(2, some (.int .i64 i))])
 (fun again i w1 => iteP (decide (i < ((l.n : Nat) : Int)))
 (idxS l.a i l.n
 (st (Addr.add (base l.a) (Int.toNat i * 1)) (.int .u8 (238:Int)) w1 fun w2 =>
 (I64 (i + (1:Int)) ∧
 again (i + (1:Int)) w2)))
 (nw t_uint8 [.int .u8 (238:Int)] w1 fun p w3 =>
 appK Pr [t_s_uint8, t_s_uint8] t_s_uint8 [.slice l.a l.n l.c, .slice (some p) 1 1] w3 fun t14 w4 =>
 R (.tuple ⟨[]⟩) w4))
 (0:Int) w
theorem V_law0_OverBytes_eq (l : SlV) (w : World) (R : Value → World → Prop) : evF Pr ⟨true, true⟩ [] [(1, [(2, .int .i64)])] Tryd.f15 [.slice l.a l.n l.c] w R = V_law0_OverBytes l w R := by kernel_rfl
theorem V_law0_OverBytes_of {l : SlV} {w : World} {R : Value → World → Prop} (h : V_law0_OverBytes l w R) : Ok Pr f_law0_OverBytes [.slice l.a l.n l.c] w R :=
  have g := (V_law0_OverBytes_eq l w R).mpr h
  evF_ok good Tryd.func15 (by kernel_rfl) g

def V_law0_Low (x : Int) (n : Int) (w : World) (R : Value → World → Prop) : Prop :=
 pos (IntKind.wrap .u64 (n)) ((0 ≤ IntKind.wrap .u64 (x) ∧
 (I64 ((IntKind.wrap .u64 (x)) % (IntKind.wrap .u64 (n))) ∧
 R (.int .i64 ((IntKind.wrap .u64 (x)) % (IntKind.wrap .u64 (n)))) w)))
theorem V_law0_Low_eq (x : Int) (n : Int) (w : World) (R : Value → World → Prop) : evF Pr ⟨true, true⟩ [] [] Tryd.f16 [.int .i64 x, .int .i64 n] w R = V_law0_Low x n w R := by kernel_rfl
theorem V_law0_Low_of {x : Int} {n : Int} {w : World} {R : Value → World → Prop} (h : V_law0_Low x n w R) : Ok Pr f_law0_Low [.int .i64 x, .int .i64 n] w R :=
  have g := (V_law0_Low_eq x n w R).mpr h
  evF_ok good Tryd.func16 (by kernel_rfl) g

def V_sponge_Sponge_Read (s : Option Addr) (n : Int) (w : World) (R : Value → World → Prop) : Prop :=
 iteP (((Option.isNone (α := Addr) s) || (decide (n < (1:Int)))) || (decide ((1048576:Int) < n)))
 (R (.slice none 0 0) w)
 (join0 []
 (fun w1 => mkSl Pr t_uint8 (0:Int) n w1 fun t49 w2 =>
 loop2 (fun (out : SlV) (t51 : Int) => [(5, some (.slice out.a out.n out.c)), (51, some (.int .i64 t51))])
 (fun again out t51 w3 => iteP (decide (t51 < n))
 (callK Pr f_sponge_Sponge_turn [.pointer s] w3 fun v w4 =>
 nilchk s fun a =>
 ldI .i64 (Addr.add a 27) (World.drew w4) fun t60 =>
 ((0 ≤ t60 ∧ t60 ≤ IntKind.max .i64) ∧
 nilchk s fun a_1 =>
 idx (t60 / (8:Int)) 25
 (ldI .u64 (Addr.add (Addr.add a_1 0) (Int.toNat (t60 / (8:Int)) * 1)) (World.drew w4) fun t65 =>
 nilchk s fun a_2 =>
 ldI .i64 (Addr.add a_2 27) (World.drew w4) fun t69 =>
 (0 ≤ t69 ∧
 (I64 ((8:Int) * (t69 % (8:Int))) ∧
 cnt ((8:Int) * (t69 % (8:Int))) (nw t_uint8 [.int .u8 (IntKind.wrap .u8 (shr .u64 t65 ((8:Int) * (t69 % (8:Int)))))] (World.drew w4) fun p w5 =>
 appK Pr [t_s_uint8, t_s_uint8] t_s_uint8 [.slice out.a out.n out.c, .slice (some p) 1 1] w5 fun t75 w6 =>
 nilchk s fun a_3 =>
 ldI .i64 (Addr.add a_3 27) w6 fun t79 =>
 (I64 (t79 + (1:Int)) ∧
 nilchk s fun a_4 =>
 st (Addr.add a_4 27) (.int .i64 (t79 + (1:Int))) w6 fun w7 =>
 (I64 (t51 + (1:Int)) ∧
 again t75 (t51 + (1:Int)) w7))))))))
 (R (.slice out.a out.n out.c) w3))
 t49 (0:Int) w2)
 (fun go =>
 nilchk s fun a_5 =>
 ldB (Addr.add a_5 28) w fun t19 =>
 iteP (!t19)
 (nilchk s fun a_6 =>
 ldI .i64 (Addr.add a_6 27) (World.drew w) fun t25 =>
 nilchk s fun a_7 =>
 ldI .u8 (Addr.add a_7 26) (World.drew w) fun t29 =>
 callK Pr f_sponge_Sponge_flip [.pointer s, .int .i64 t25, .int .u8 t29] (World.drew w) fun v_1 w8 =>
 nilchk s fun a_8 =>
 ldI .i64 (Addr.add a_8 25) w8 fun t35 =>
 (I64 (t35 - (1:Int)) ∧
 callK Pr f_sponge_Sponge_flip [.pointer s, .int .i64 (t35 - (1:Int)), .int .u8 (128:Int)] w8 fun v_2 w9 =>
 nilchk s fun a_9 =>
 ldI .i64 (Addr.add a_9 25) w9 fun t43 =>
 nilchk s fun a_10 =>
 st (Addr.add a_10 28) (.bool true) w9 fun w10 =>
 nilchk s fun a_11 =>
 st (Addr.add a_11 27) (.int .i64 t43) w10 fun w11 =>
 go w11))
 (go w)))
theorem V_sponge_Sponge_Read_eq (s : Option Addr) (n : Int) (w : World) (R : Value → World → Prop) : evF Pr ⟨true, true⟩ [(7, [])] [(9, [(5, .sl), (51, .int .i64)])] Tryd.f17 [.pointer s, .int .i64 n] w R = V_sponge_Sponge_Read s n w R := by kernel_rfl
theorem V_sponge_Sponge_Read_of {s : Option Addr} {n : Int} {w : World} {R : Value → World → Prop} (h : V_sponge_Sponge_Read s n w R) : Ok Pr f_sponge_Sponge_Read [.pointer s, .int .i64 n] w R :=
  have g := (V_sponge_Sponge_Read_eq s n w R).mpr h
  evF_ok good Tryd.func17 (by kernel_rfl) g

def V_law0_Num (e : Value) (w : World) (R : Value → World → Prop) : Prop :=
 ifaceNil e fun nil =>
 iteP nil
 (R (.int .i64 (0:Int)) w)
 (nw t_p_api_Fault (zc Pr t_p_api_Fault) w fun p w1 =>
 join0 []
 (fun w2 => ldP p w2 fun t40 =>
 nilchk t40 fun a =>
 ldI .i64 (Addr.add a 0) w2 fun t43 =>
 R (.int .i64 t43) w2)
 (fun go =>
 callK Pr f_errors_As [e, .iface t_p_p_api_Fault (.pointer (some p))] (World.drew w1) fun v w3 =>
 asB v fun t8 =>
 ldP p w3 fun t11 =>
 ldP p w3 fun t15 =>
 iteP ((!t8) || (Option.isNone (α := Addr) t11))
 (ldP p w3 fun t23 =>
 ldP p w3 fun t34 =>
 (kept p 1 w3 w3 ∧
 R (.int .i64 (-1:Int)) w3))
 (nilchk t15 fun a_1 =>
 ldI .i64 (Addr.add a_1 0) w3 fun t18 =>
 ldP p w3 fun t23_1 =>
 iteP (decide (t18 = (0:Int)))
 (ldP p w3 fun t34_1 =>
 (kept p 1 w3 w3 ∧
 R (.int .i64 (-1:Int)) w3))
 (nilchk t23_1 fun a_2 =>
 ldI .i64 (Addr.add a_2 0) w3 fun t26 =>
 callK Pr f_errors_Is [e, .iface t_api_Errno (.int .i64 t26)] w3 fun v_1 w4 =>
 asB v_1 fun t28 =>
 ldP p w4 fun t34_2 =>
 iteP (!t28)
 ((kept p 1 w4 w4 ∧
 R (.int .i64 (-1:Int)) w4))
 (nilchk t34_2 fun a_3 =>
 ldI .i64 (Addr.add a_3 0) w4 fun t37 =>
 callK Pr f_api_Code [e] w4 fun v_2 w5 =>
 asI .i64 v_2 fun t33 =>
 (kept (Addr.add a_3 0) 1 w4 w5 ∧
 (kept p 1 w4 w5 ∧
 iteP (!decide (t33 = t37))
 (R (.int .i64 (-1:Int)) w5)
 (go w5))))))))
theorem V_law0_Num_eq (e : Value) (w : World) (R : Value → World → Prop) : evF Pr ⟨true, true⟩ [(6, [])] [] Tryd.f18 [e] w R = V_law0_Num e w R := by kernel_rfl
theorem V_law0_Num_of {e : Value} {w : World} {R : Value → World → Prop} (h : V_law0_Num e w R) : Ok Pr f_law0_Num [e] w R :=
  have g := (V_law0_Num_eq e w R).mpr h
  evF_ok good Tryd.func18 (by kernel_rfl) g

def V_law0_SameBytes (a : SlV) (b : SlV) (w : World) (R : Value → World → Prop) : Prop :=
 iteP (!decide (((a.n : Nat) : Int) = ((b.n : Nat) : Int)))
 (R (.bool false) w)
 (loop1 (fun (i : Int) => [(5, some (.int .i64 i))])
 (fun again i w1 => iteP (decide (i < ((a.n : Nat) : Int)))
 (idxS a.a i a.n
 (ldI .u8 (Addr.add (base a.a) (Int.toNat i * 1)) (World.drew w1) fun t20 =>
 idxS b.a i b.n
 (ldI .u8 (Addr.add (base b.a) (Int.toNat i * 1)) (World.drew w1) fun t24 =>
 iteP (!decide (t20 = t24))
 (R (.bool false) (World.drew w1))
 ((I64 (i + (1:Int)) ∧
 again (i + (1:Int)) (World.drew w1))))))
 (R (.bool true) w1))
 (0:Int) w)
theorem V_law0_SameBytes_eq (a : SlV) (b : SlV) (w : World) (R : Value → World → Prop) : evF Pr ⟨true, true⟩ [] [(4, [(5, .int .i64)])] Tryd.f19 [.slice a.a a.n a.c, .slice b.a b.n b.c] w R = V_law0_SameBytes a b w R := by kernel_rfl
theorem V_law0_SameBytes_of {a : SlV} {b : SlV} {w : World} {R : Value → World → Prop} (h : V_law0_SameBytes a b w R) : Ok Pr f_law0_SameBytes [.slice a.a a.n a.c, .slice b.a b.n b.c] w R :=
  have g := (V_law0_SameBytes_eq a b w R).mpr h
  evF_ok good Tryd.func19 (by kernel_rfl) g

def V_ref2_Out (rate : Int) (suffix : Int) (b : SlV) (n : Int) (w : World) (R : Value → World → Prop) : Prop :=
 callK Pr f_ref1_Words [] w fun v w1 =>
 asArr v fun t15 =>
 nw t_24_uint64 (zc Pr t_24_uint64) w1 fun p w2 =>
 stA 24 p t15 w2 fun w3 =>
 appK Pr [t_s_uint8, t_s_uint8] t_s_uint8 [.slice none 0 0, .slice b.a b.n b.c] w3 fun t17 w4 =>
 nw t_uint8 [.int .u8 suffix] w4 fun p_1 w5 =>
 appK Pr [t_s_uint8, t_s_uint8] t_s_uint8 [.slice t17.a t17.n t17.c, .slice (some p_1) 1 1] w5 fun t20 w6 =>
 loop1 (fun (inv : SlV) => [(10, some (.slice inv.a inv.n inv.c))])
 (fun again inv w7 => pos rate ((0 ≤ ((inv.n : Nat) : Int) ∧
 iteP (!decide (((inv.n : Nat) : Int) % rate = (0:Int)))
 (nw t_uint8 [.int .u8 (0:Int)] w7 fun p_2 w8 =>
 appK Pr [t_s_uint8, t_s_uint8] t_s_uint8 [.slice inv.a inv.n inv.c, .slice (some p_2) 1 1] w8 fun t28 w9 =>
 again t28 w9)
 ((I64 (((inv.n : Nat) : Int) - (1:Int)) ∧
 (I64 (((inv.n : Nat) : Int) - (1:Int)) ∧
 idxS inv.a (((inv.n : Nat) : Int) - (1:Int)) inv.n
 (ldI .u8 (Addr.add (base inv.a) (Int.toNat (((inv.n : Nat) : Int) - (1:Int)) * 1)) w7 fun t38 =>
 idxS inv.a (((inv.n : Nat) : Int) - (1:Int)) inv.n
 (st (Addr.add (base inv.a) (Int.toNat (((inv.n : Nat) : Int) - (1:Int)) * 1)) (.int .u8 (xorI .u8 t38 (128:Int))) w7 fun w10 =>
 nw t_25_uint64 (zc Pr t_25_uint64) w10 fun p_3 w11 =>
 loop1 (fun (i : Int) => [(12, some (.int .i64 i))])
 (fun again_1 i w12 => iteP (decide (i < ((inv.n : Nat) : Int)))
 (ldA 25 p_3 (World.drew w12) fun t48 =>
 (I64 (i + rate) ∧
 slLH 1 inv i (i + rate) fun t54 =>
 ldA 24 p (World.drew w12) fun t56 =>
 callK Pr f_ref2_mix [.agg ⟨t48⟩, .slice t54.a t54.n t54.c] (World.drew w12) fun v_1 w13 =>
 asArr v_1 fun t55 =>
 (kept p 24 (World.drew w12) w13 ∧
 callK Pr f_ref1_With [.agg ⟨t55⟩, .agg ⟨t56⟩] w13 fun v_2 w14 =>
 asArr v_2 fun t57 =>
 stA 25 p_3 t57 w14 fun w15 =>
 (I64 (i + rate) ∧
 again_1 (i + rate) w15))))
 (loop2 (fun (out : SlV) (i_1 : Int) => [(13, some (.slice out.a out.n out.c)), (14, some (.int .i64 i_1))])
 (fun again_2 out i_1 w16 => iteP (decide (i_1 < n))
 (join0 []
 (fun w17 => pos rate ((0 ≤ i_1 ∧
 ((0 ≤ i_1 % rate ∧ i_1 % rate ≤ IntKind.max .i64) ∧
 idx ((i_1 % rate) / (8:Int)) 25
 (ldI .u64 (Addr.add p_3 (Int.toNat ((i_1 % rate) / (8:Int)) * 1)) w17 fun t80 =>
 (0 ≤ i_1 ∧
 (I64 ((8:Int) * (i_1 % (8:Int))) ∧
 cnt ((8:Int) * (i_1 % (8:Int))) (nw t_uint8 [.int .u8 (IntKind.wrap .u8 (shr .u64 t80 ((8:Int) * (i_1 % (8:Int)))))] w17 fun p_4 w18 =>
 appK Pr [t_s_uint8, t_s_uint8] t_s_uint8 [.slice out.a out.n out.c, .slice (some p_4) 1 1] w18 fun t87 w19 =>
 (I64 (i_1 + (1:Int)) ∧
 again_2 t87 (i_1 + (1:Int)) w19)))))))))
 (fun go =>
 join1 (fun (t70 : Bool) => [(70, some (.bool t70))])
 (fun t70 w20 => iteP t70
 (ldA 25 p_3 w20 fun t71 =>
 ldA 24 p w20 fun t72 =>
 callK Pr f_ref1_With [.agg ⟨t71⟩, .agg ⟨t72⟩] w20 fun v_3 w21 =>
 asArr v_3 fun t73 =>
 stA 25 p_3 t73 w21 fun w22 =>
 go w22)
 (go w20))
 (fun go_1 =>
 iteP (decide ((0:Int) < i_1))
 (pos rate ((0 ≤ i_1 ∧
 go_1 (decide (i_1 % rate = (0:Int))) w16)))
 (go_1 false w16))))
 (R (.slice out.a out.n out.c) w16))
 ⟨none, 0, 0⟩ (0:Int) w12))
 (0:Int) w11))))))))
 t20 w6
theorem V_ref2_Out_eq (rate : Int) (suffix : Int) (b : SlV) (n : Int) (w : World) (R : Value → World → Prop) : evF Pr ⟨true, true⟩ [(17, []), (16, [(70, .bool)])] [(3, [(10, .sl)]), (8, [(12, .int .i64)]), (13, [(13, .sl), (14, .int .i64)])] Tryd.f20 [.int .i64 rate, .int .u8 suffix, .slice b.a b.n b.c, .int .i64 n] w R = V_ref2_Out rate suffix b n w R := by kernel_rfl
theorem V_ref2_Out_of {rate : Int} {suffix : Int} {b : SlV} {n : Int} {w : World} {R : Value → World → Prop} (h : V_ref2_Out rate suffix b n w R) : Ok Pr f_ref2_Out [.int .i64 rate, .int .u8 suffix, .slice b.a b.n b.c, .int .i64 n] w R :=
  have g := (V_ref2_Out_eq rate suffix b n w R).mpr h
  evF_ok good Tryd.func20 (by kernel_rfl) g

def V_ref2_Join (parts : SlV) (w : World) (R : Value → World → Prop) : Prop :=
 loop2 (fun (b : SlV) (i : Int) => [(3, some (.slice b.a b.n b.c)), (4, some (.int .i64 i))])
 (fun again b i w1 => iteP (decide (i < ((parts.n : Nat) : Int)))
 (idxS parts.a i parts.n
 (ldL (Addr.add (base parts.a) (Int.toNat i * 1)) w1 fun t15 =>
 appK Pr [t_s_uint8, t_s_uint8] t_s_uint8 [.slice b.a b.n b.c, .slice t15.a t15.n t15.c] w1 fun t16 w2 =>
 (I64 (i + (1:Int)) ∧
 again t16 (i + (1:Int)) w2)))
 (R (.slice b.a b.n b.c) w1))
 ⟨none, 0, 0⟩ (0:Int) w
theorem V_ref2_Join_eq (parts : SlV) (w : World) (R : Value → World → Prop) : evF Pr ⟨true, true⟩ [] [(3, [(3, .sl), (4, .int .i64)])] Tryd.f21 [.slice parts.a parts.n parts.c] w R = V_ref2_Join parts w R := by kernel_rfl
theorem V_ref2_Join_of {parts : SlV} {w : World} {R : Value → World → Prop} (h : V_ref2_Join parts w R) : Ok Pr f_ref2_Join [.slice parts.a parts.n parts.c] w R :=
  have g := (V_ref2_Join_eq parts w R).mpr h
  evF_ok good Tryd.func21 (by kernel_rfl) g

def V_sponge_Shake128 (n : Int) (parts : SlV) (w : World) (R : Value → World → Prop) : Prop :=
 callK Pr f_sponge_of [.int .i64 (168:Int), .int .u8 (31:Int), .int .i64 n, .slice parts.a parts.n parts.c] w fun v w1 =>
 asSl v fun t7 =>
 R (.slice t7.a t7.n t7.c) w1
theorem V_sponge_Shake128_eq (n : Int) (parts : SlV) (w : World) (R : Value → World → Prop) : evF Pr ⟨true, true⟩ [] [] Tryd.f22 [.int .i64 n, .slice parts.a parts.n parts.c] w R = V_sponge_Shake128 n parts w R := by kernel_rfl
theorem V_sponge_Shake128_of {n : Int} {parts : SlV} {w : World} {R : Value → World → Prop} (h : V_sponge_Shake128 n parts w R) : Ok Pr f_sponge_Shake128 [.int .i64 n, .slice parts.a parts.n parts.c] w R :=
  have g := (V_sponge_Shake128_eq n parts w R).mpr h
  evF_ok good Tryd.func22 (by kernel_rfl) g

def V_ref2_Shake128 (n : Int) (b : SlV) (w : World) (R : Value → World → Prop) : Prop :=
 callK Pr f_ref2_Many [.int .i64 n] w fun v w1 =>
 asI .i64 v fun t7 =>
 callK Pr f_ref2_Out [.int .i64 (168:Int), .int .u8 (31:Int), .slice b.a b.n b.c, .int .i64 t7] w1 fun v_1 w2 =>
 asSl v_1 fun t8 =>
 R (.slice t8.a t8.n t8.c) w2
theorem V_ref2_Shake128_eq (n : Int) (b : SlV) (w : World) (R : Value → World → Prop) : evF Pr ⟨true, true⟩ [] [] Tryd.f23 [.int .i64 n, .slice b.a b.n b.c] w R = V_ref2_Shake128 n b w R := by kernel_rfl
theorem V_ref2_Shake128_of {n : Int} {b : SlV} {w : World} {R : Value → World → Prop} (h : V_ref2_Shake128 n b w R) : Ok Pr f_ref2_Shake128 [.int .i64 n, .slice b.a b.n b.c] w R :=
  have g := (V_ref2_Shake128_eq n b w R).mpr h
  evF_ok good Tryd.func23 (by kernel_rfl) g

def V_sponge_Shake256 (n : Int) (parts : SlV) (w : World) (R : Value → World → Prop) : Prop :=
 callK Pr f_sponge_of [.int .i64 (136:Int), .int .u8 (31:Int), .int .i64 n, .slice parts.a parts.n parts.c] w fun v w1 =>
 asSl v fun t7 =>
 R (.slice t7.a t7.n t7.c) w1
theorem V_sponge_Shake256_eq (n : Int) (parts : SlV) (w : World) (R : Value → World → Prop) : evF Pr ⟨true, true⟩ [] [] Tryd.f24 [.int .i64 n, .slice parts.a parts.n parts.c] w R = V_sponge_Shake256 n parts w R := by kernel_rfl
theorem V_sponge_Shake256_of {n : Int} {parts : SlV} {w : World} {R : Value → World → Prop} (h : V_sponge_Shake256 n parts w R) : Ok Pr f_sponge_Shake256 [.int .i64 n, .slice parts.a parts.n parts.c] w R :=
  have g := (V_sponge_Shake256_eq n parts w R).mpr h
  evF_ok good Tryd.func24 (by kernel_rfl) g

def V_ref2_Shake256 (n : Int) (b : SlV) (w : World) (R : Value → World → Prop) : Prop :=
 callK Pr f_ref2_Many [.int .i64 n] w fun v w1 =>
 asI .i64 v fun t7 =>
 callK Pr f_ref2_Out [.int .i64 (136:Int), .int .u8 (31:Int), .slice b.a b.n b.c, .int .i64 t7] w1 fun v_1 w2 =>
 asSl v_1 fun t8 =>
 R (.slice t8.a t8.n t8.c) w2
theorem V_ref2_Shake256_eq (n : Int) (b : SlV) (w : World) (R : Value → World → Prop) : evF Pr ⟨true, true⟩ [] [] Tryd.f25 [.int .i64 n, .slice b.a b.n b.c] w R = V_ref2_Shake256 n b w R := by kernel_rfl
theorem V_ref2_Shake256_of {n : Int} {b : SlV} {w : World} {R : Value → World → Prop} (h : V_ref2_Shake256 n b w R) : Ok Pr f_ref2_Shake256 [.int .i64 n, .slice b.a b.n b.c] w R :=
  have g := (V_ref2_Shake256_eq n b w R).mpr h
  evF_ok good Tryd.func25 (by kernel_rfl) g

def V_sponge_Sha256 (parts : SlV) (w : World) (R : Value → World → Prop) : Prop :=
 callK Pr f_sponge_of [.int .i64 (136:Int), .int .u8 (6:Int), .int .i64 (32:Int), .slice parts.a parts.n parts.c] w fun v w1 =>
 asSl v fun t4 =>
 R (.slice t4.a t4.n t4.c) w1
theorem V_sponge_Sha256_eq (parts : SlV) (w : World) (R : Value → World → Prop) : evF Pr ⟨true, true⟩ [] [] Tryd.f26 [.slice parts.a parts.n parts.c] w R = V_sponge_Sha256 parts w R := by kernel_rfl
theorem V_sponge_Sha256_of {parts : SlV} {w : World} {R : Value → World → Prop} (h : V_sponge_Sha256 parts w R) : Ok Pr f_sponge_Sha256 [.slice parts.a parts.n parts.c] w R :=
  have g := (V_sponge_Sha256_eq parts w R).mpr h
  evF_ok good Tryd.func26 (by kernel_rfl) g

def V_ref2_Sha256 (b : SlV) (w : World) (R : Value → World → Prop) : Prop :=
 callK Pr f_ref2_Out [.int .i64 (136:Int), .int .u8 (6:Int), .slice b.a b.n b.c, .int .i64 (32:Int)] w fun v w1 =>
 asSl v fun t4 =>
 R (.slice t4.a t4.n t4.c) w1
theorem V_ref2_Sha256_eq (b : SlV) (w : World) (R : Value → World → Prop) : evF Pr ⟨true, true⟩ [] [] Tryd.f27 [.slice b.a b.n b.c] w R = V_ref2_Sha256 b w R := by kernel_rfl
theorem V_ref2_Sha256_of {b : SlV} {w : World} {R : Value → World → Prop} (h : V_ref2_Sha256 b w R) : Ok Pr f_ref2_Sha256 [.slice b.a b.n b.c] w R :=
  have g := (V_ref2_Sha256_eq b w R).mpr h
  evF_ok good Tryd.func27 (by kernel_rfl) g

def V_sponge_Sha512 (parts : SlV) (w : World) (R : Value → World → Prop) : Prop :=
 callK Pr f_sponge_of [.int .i64 (72:Int), .int .u8 (6:Int), .int .i64 (64:Int), .slice parts.a parts.n parts.c] w fun v w1 =>
 asSl v fun t4 =>
 R (.slice t4.a t4.n t4.c) w1
theorem V_sponge_Sha512_eq (parts : SlV) (w : World) (R : Value → World → Prop) : evF Pr ⟨true, true⟩ [] [] Tryd.f28 [.slice parts.a parts.n parts.c] w R = V_sponge_Sha512 parts w R := by kernel_rfl
theorem V_sponge_Sha512_of {parts : SlV} {w : World} {R : Value → World → Prop} (h : V_sponge_Sha512 parts w R) : Ok Pr f_sponge_Sha512 [.slice parts.a parts.n parts.c] w R :=
  have g := (V_sponge_Sha512_eq parts w R).mpr h
  evF_ok good Tryd.func28 (by kernel_rfl) g

def V_ref2_Sha512 (b : SlV) (w : World) (R : Value → World → Prop) : Prop :=
 callK Pr f_ref2_Out [.int .i64 (72:Int), .int .u8 (6:Int), .slice b.a b.n b.c, .int .i64 (64:Int)] w fun v w1 =>
 asSl v fun t4 =>
 R (.slice t4.a t4.n t4.c) w1
theorem V_ref2_Sha512_eq (b : SlV) (w : World) (R : Value → World → Prop) : evF Pr ⟨true, true⟩ [] [] Tryd.f29 [.slice b.a b.n b.c] w R = V_ref2_Sha512 b w R := by kernel_rfl
theorem V_ref2_Sha512_of {b : SlV} {w : World} {R : Value → World → Prop} (h : V_ref2_Sha512 b w R) : Ok Pr f_ref2_Sha512 [.slice b.a b.n b.c] w R :=
  have g := (V_ref2_Sha512_eq b w R).mpr h
  evF_ok good Tryd.func29 (by kernel_rfl) g

def V_sponge_fault (code : Int) (w : World) (R : Value → World → Prop) : Prop :=
 nw t_api_Fault [.int .i64 code, .string S_sponge] w fun p w1 =>
 R (.iface t_p_api_Fault (.pointer (some p))) w1
theorem V_sponge_fault_eq (code : Int) (w : World) (R : Value → World → Prop) : evF Pr ⟨true, true⟩ [] [] Tryd.f30 [.int .i64 code] w R = V_sponge_fault code w R := by kernel_rfl
theorem V_sponge_fault_of {code : Int} {w : World} {R : Value → World → Prop} (h : V_sponge_fault code w R) : Ok Pr f_sponge_fault [.int .i64 code] w R :=
  have g := (V_sponge_fault_eq code w R).mpr h
  evF_ok good Tryd.func30 (by kernel_rfl) g

def V_sponge_Sponge_flip (s : Option Addr) (i : Int) (b : Int) (w : World) (R : Value → World → Prop) : Prop :=
 ((0 ≤ i ∧ i ≤ IntKind.max .i64) ∧
 nilchk s fun a =>
 idx (i / (8:Int)) 25
 (ldI .u64 (Addr.add (Addr.add a 0) (Int.toNat (i / (8:Int)) * 1)) (World.drew w) fun t12 =>
 (0 ≤ i ∧
 (I64 ((8:Int) * (i % (8:Int))) ∧
 cnt ((8:Int) * (i % (8:Int))) (nilchk s fun a_1 =>
 idx (i / (8:Int)) 25
 (st (Addr.add (Addr.add a_1 0) (Int.toNat (i / (8:Int)) * 1)) (.int .u64 (xorI .u64 t12 (shl .u64 (IntKind.wrap .u64 (b)) ((8:Int) * (i % (8:Int)))))) (World.drew w) fun w1 =>
 R (.tuple ⟨[]⟩) w1))))))
theorem V_sponge_Sponge_flip_eq (s : Option Addr) (i : Int) (b : Int) (w : World) (R : Value → World → Prop) : evF Pr ⟨true, true⟩ [] [] Tryd.f31 [.pointer s, .int .i64 i, .int .u8 b] w R = V_sponge_Sponge_flip s i b w R := by kernel_rfl
theorem V_sponge_Sponge_flip_of {s : Option Addr} {i : Int} {b : Int} {w : World} {R : Value → World → Prop} (h : V_sponge_Sponge_flip s i b w R) : Ok Pr f_sponge_Sponge_flip [.pointer s, .int .i64 i, .int .u8 b] w R :=
  have g := (V_sponge_Sponge_flip_eq s i b w R).mpr h
  evF_ok good Tryd.func31 (by kernel_rfl) g

def V_sponge_Sponge_turn (s : Option Addr) (w : World) (R : Value → World → Prop) : Prop :=
 nilchk s fun a =>
 ldI .i64 (Addr.add a 27) (World.drew w) fun t5 =>
 nilchk s fun a_1 =>
 ldI .i64 (Addr.add a_1 25) (World.drew w) fun t9 =>
 iteP (decide (t5 = t9))
 (nilchk s fun a_2 =>
 ldA 25 (Addr.add a_2 0) (World.drew w) fun t16 =>
 callK Pr f_keccak_Permute [.agg ⟨t16⟩] (World.drew w) fun v w1 =>
 asArr v fun t17 =>
 nilchk s fun a_3 =>
 stA 25 (Addr.add a_3 0) t17 w1 fun w2 =>
 nilchk s fun a_4 =>
 st (Addr.add a_4 27) (.int .i64 (0:Int)) w2 fun w3 =>
 R (.tuple ⟨[]⟩) w3)
 (R (.tuple ⟨[]⟩) (World.drew w))
theorem V_sponge_Sponge_turn_eq (s : Option Addr) (w : World) (R : Value → World → Prop) : evF Pr ⟨true, true⟩ [] [] Tryd.f32 [.pointer s] w R = V_sponge_Sponge_turn s w R := by kernel_rfl
theorem V_sponge_Sponge_turn_of {s : Option Addr} {w : World} {R : Value → World → Prop} (h : V_sponge_Sponge_turn s w R) : Ok Pr f_sponge_Sponge_turn [.pointer s] w R :=
  have g := (V_sponge_Sponge_turn_eq s w R).mpr h
  evF_ok good Tryd.func32 (by kernel_rfl) g

def V_api_Code (e : Value) (w : World) (R : Value → World → Prop) : Prop :=
 nw t_api_Errno (zc Pr t_api_Errno) w fun p w1 =>
 ifaceNil e fun nil =>
 iteP nil
 (R (.int .i64 (0:Int)) w1)
 (callK Pr f_errors_As [e, .iface t_p_api_Errno (.pointer (some p))] w1 fun v w2 =>
 asB v fun t8 =>
 iteP t8
 (ldI .i64 p w2 fun t9 =>
 R (.int .i64 t9) w2)
 (R (.int .i64 (2:Int)) w2))
theorem V_api_Code_eq (e : Value) (w : World) (R : Value → World → Prop) : evF Pr ⟨true, true⟩ [] [] Tryd.f35 [e] w R = V_api_Code e w R := by kernel_rfl
theorem V_api_Code_of {e : Value} {w : World} {R : Value → World → Prop} (h : V_api_Code e w R) : Ok Pr f_api_Code [e] w R :=
  have g := (V_api_Code_eq e w R).mpr h
  evF_ok good Tryd.func35 (by kernel_rfl) g

def V_ref1_Words (w : World) (R : Value → World → Prop) : Prop :=
 nw t_24_uint64 (zc Pr t_24_uint64) w fun p w1 =>
 nw t_24_uint64 (zc Pr t_24_uint64) w1 fun p_1 w2 =>
 loop1 (fun (i : Int) => [(2, some (.int .i64 i))])
 (fun again i w3 => iteP (decide (i < (24:Int)))
 (loop1 (fun (j : Int) => [(3, some (.int .i64 j))])
 (fun again_1 j w4 => iteP (decide (j < (7:Int)))
 (idx i 24
 (ldI .u64 (Addr.add p_1 (Int.toNat i * 1)) (World.drew w4) fun t15 =>
 (I64 ((7:Int) * i) ∧
 (I64 (j + ((7:Int) * i)) ∧
 cnt j (callK Pr f_ref1_rc [.int .i64 (j + ((7:Int) * i))] (World.drew w4) fun v w5 =>
 asI .u64 v fun t20 =>
 (kept (Addr.add p_1 (Int.toNat i * 1)) 1 (World.drew w4) w5 ∧
 cnt (IntKind.wrap .u64 ((shl .u64 (1:Int) j) - (1:Int))) (idx i 24
 (st (Addr.add p_1 (Int.toNat i * 1)) (.int .u64 (orI .u64 t15 (shl .u64 t20 (IntKind.wrap .u64 ((shl .u64 (1:Int) j) - (1:Int)))))) w5 fun w6 =>
 (I64 (j + (1:Int)) ∧
 again_1 (j + (1:Int)) w6)))))))))
 ((I64 (i + (1:Int)) ∧
 again (i + (1:Int)) w4)))
 (0:Int) w3)
 (ldA 24 p_1 w3 fun t27 =>
 stA 24 p t27 w3 fun w7 =>
 ldA 24 p w7 fun res =>
 R (.agg ⟨res⟩) w7))
 (0:Int) w2
theorem V_ref1_Words_eq (w : World) (R : Value → World → Prop) : evF Pr ⟨true, true⟩ [] [(3, [(2, .int .i64)]), (6, [(3, .int .i64)])] Tryd.f36 [] w R = V_ref1_Words w R := by kernel_rfl
theorem V_ref1_Words_of {w : World} {R : Value → World → Prop} (h : V_ref1_Words w R) : Ok Pr f_ref1_Words [] w R :=
  have g := (V_ref1_Words_eq w R).mpr h
  evF_ok good Tryd.func36 (by kernel_rfl) g

def V_ref1_With (a : List Value) (words : List Value) (w : World) (R : Value → World → Prop) : Prop :=
 nw t_25_uint64 a w fun p w1 =>
 nw t_24_uint64 words w1 fun p_1 w2 =>
 nw t_25_uint64 (zc Pr t_25_uint64) w2 fun p_2 w3 =>
 loop1 (fun (i : Int) => [(5, some (.int .i64 i))])
 (fun again i w4 => iteP (decide (i < (24:Int)))
 (ldA 25 p w4 fun t10 =>
 callK Pr f_ref1_Theta [.agg ⟨t10⟩] w4 fun v w5 =>
 asArr v fun t11 =>
 callK Pr f_ref1_Rho [.agg ⟨t11⟩] w5 fun v_1 w6 =>
 asArr v_1 fun t12 =>
 callK Pr f_ref1_Pi [.agg ⟨t12⟩] w6 fun v_2 w7 =>
 asArr v_2 fun t13 =>
 callK Pr f_ref1_Chi [.agg ⟨t13⟩] w7 fun v_3 w8 =>
 asArr v_3 fun t14 =>
 stA 25 p t14 w8 fun w9 =>
 idx (0:Int) 25
 (ldI .u64 (Addr.add p (Int.toNat (0:Int) * 1)) (World.drew w9) fun t16 =>
 idx i 24
 (ldI .u64 (Addr.add p_1 (Int.toNat i * 1)) (World.drew w9) fun t19 =>
 idx (0:Int) 25
 (st (Addr.add p (Int.toNat (0:Int) * 1)) (.int .u64 (xorI .u64 t16 t19)) (World.drew w9) fun w10 =>
 (I64 (i + (1:Int)) ∧
 again (i + (1:Int)) w10)))))
 (ldA 25 p w4 fun t22 =>
 stA 25 p_2 t22 w4 fun w11 =>
 ldA 25 p_2 w11 fun res =>
 R (.agg ⟨res⟩) w11))
 (0:Int) w3
theorem V_ref1_With_eq (a : List Value) (words : List Value) (w : World) (R : Value → World → Prop) : evF Pr ⟨true, true⟩ [] [(2, [(5, .int .i64)])] Tryd.f37 [.agg ⟨a⟩, .agg ⟨words⟩] w R = V_ref1_With a words w R := by kernel_rfl
theorem V_ref1_With_of {a : List Value} {words : List Value} {w : World} {R : Value → World → Prop} (h : V_ref1_With a words w R) : Ok Pr f_ref1_With [.agg ⟨a⟩, .agg ⟨words⟩] w R :=
  have g := (V_ref1_With_eq a words w R).mpr h
  evF_ok good Tryd.func37 (by kernel_rfl) g

def V_ref2_mix (a : List Value) (b : SlV) (w : World) (R : Value → World → Prop) : Prop :=
 nw t_25_uint64 a w fun p w1 =>
 nw t_25_uint64 (zc Pr t_25_uint64) w1 fun p_1 w2 =>
 loop1 (fun (i : Int) => [(5, some (.int .i64 i))])
 (fun again i w3 => iteP (decide (i < ((b.n : Nat) : Int)))
 (((0 ≤ i ∧ i ≤ IntKind.max .i64) ∧
 ((0 ≤ i ∧ i ≤ IntKind.max .i64) ∧
 idx (i / (8:Int)) 25
 (ldI .u64 (Addr.add p (Int.toNat (i / (8:Int)) * 1)) (World.drew w3) fun t17 =>
 idxS b.a i b.n
 (ldI .u8 (Addr.add (base b.a) (Int.toNat i * 1)) (World.drew w3) fun t21 =>
 (0 ≤ i ∧
 (I64 ((8:Int) * (i % (8:Int))) ∧
 cnt ((8:Int) * (i % (8:Int))) (idx (i / (8:Int)) 25
 (st (Addr.add p (Int.toNat (i / (8:Int)) * 1)) (.int .u64 (xorI .u64 t17 (shl .u64 (IntKind.wrap .u64 (t21)) ((8:Int) * (i % (8:Int)))))) (World.drew w3) fun w4 =>
 (I64 (i + (1:Int)) ∧
 again (i + (1:Int)) w4))))))))))
 (ldA 25 p w3 fun t29 =>
 stA 25 p_1 t29 w3 fun w5 =>
 ldA 25 p_1 w5 fun res =>
 R (.agg ⟨res⟩) w5))
 (0:Int) w2
theorem V_ref2_mix_eq (a : List Value) (b : SlV) (w : World) (R : Value → World → Prop) : evF Pr ⟨true, true⟩ [] [(2, [(5, .int .i64)])] Tryd.f38 [.agg ⟨a⟩, .slice b.a b.n b.c] w R = V_ref2_mix a b w R := by kernel_rfl
theorem V_ref2_mix_of {a : List Value} {b : SlV} {w : World} {R : Value → World → Prop} (h : V_ref2_mix a b w R) : Ok Pr f_ref2_mix [.agg ⟨a⟩, .slice b.a b.n b.c] w R :=
  have g := (V_ref2_mix_eq a b w R).mpr h
  evF_ok good Tryd.func38 (by kernel_rfl) g

def V_sponge_of (rate : Int) (suffix : Int) (n : Int) (parts : SlV) (w : World) (R : Value → World → Prop) : Prop :=
 callK Pr f_sponge_New [.int .i64 rate, .int .u8 suffix] w fun v w1 =>
 asP v fun t12 =>
 callK Pr f_sponge_Sponge_Write [.pointer t12, .slice parts.a parts.n parts.c] w1 fun v_1 w2 =>
 callK Pr f_sponge_Sponge_Read [.pointer t12, .int .i64 n] w2 fun v_2 w3 =>
 asSl v_2 fun t18 =>
 R (.slice t18.a t18.n t18.c) w3
theorem V_sponge_of_eq (rate : Int) (suffix : Int) (n : Int) (parts : SlV) (w : World) (R : Value → World → Prop) : evF Pr ⟨true, true⟩ [] [] Tryd.f39 [.int .i64 rate, .int .u8 suffix, .int .i64 n, .slice parts.a parts.n parts.c] w R = V_sponge_of rate suffix n parts w R := by kernel_rfl
theorem V_sponge_of_of {rate : Int} {suffix : Int} {n : Int} {parts : SlV} {w : World} {R : Value → World → Prop} (h : V_sponge_of rate suffix n parts w R) : Ok Pr f_sponge_of [.int .i64 rate, .int .u8 suffix, .int .i64 n, .slice parts.a parts.n parts.c] w R :=
  have g := (V_sponge_of_eq rate suffix n parts w R).mpr h
  evF_ok good Tryd.func39 (by kernel_rfl) g

def V_ref2_Many (n : Int) (w : World) (R : Value → World → Prop) : Prop :=
 iteP ((decide (n < (1:Int))) || (decide ((1048576:Int) < n)))
 (R (.int .i64 (0:Int)) w)
 (R (.int .i64 n) w)
theorem V_ref2_Many_eq (n : Int) (w : World) (R : Value → World → Prop) : evF Pr ⟨true, true⟩ [] [] Tryd.f40 [.int .i64 n] w R = V_ref2_Many n w R := by kernel_rfl
theorem V_ref2_Many_of {n : Int} {w : World} {R : Value → World → Prop} (h : V_ref2_Many n w R) : Ok Pr f_ref2_Many [.int .i64 n] w R :=
  have g := (V_ref2_Many_eq n w R).mpr h
  evF_ok good Tryd.func40 (by kernel_rfl) g

def V_keccak_Permute (a : List Value) (w : World) (R : Value → World → Prop) : Prop :=
 nw t_25_uint64 a w fun p w1 =>
 nw t_25_uint64 (zc Pr t_25_uint64) w1 fun p_1 w2 =>
 loop1 (fun (t4 : Int) => [(4, some (.int .i64 t4))])
 (fun again t4 w3 => iteP (decide (t4 < (24:Int)))
 (ldA 25 p w3 fun t7 =>
 callK Pr f_keccak_Round [.agg ⟨t7⟩, .int .i64 t4] w3 fun v w4 =>
 asArr v fun t9 =>
 stA 25 p t9 w4 fun w5 =>
 (I64 (t4 + (1:Int)) ∧
 again (t4 + (1:Int)) w5))
 (ldA 25 p w3 fun t11 =>
 stA 25 p_1 t11 w3 fun w6 =>
 ldA 25 p_1 w6 fun res =>
 R (.agg ⟨res⟩) w6))
 (0:Int) w2
theorem V_keccak_Permute_eq (a : List Value) (w : World) (R : Value → World → Prop) : evF Pr ⟨true, true⟩ [] [(2, [(4, .int .i64)])] Tryd.f41 [.agg ⟨a⟩] w R = V_keccak_Permute a w R := by kernel_rfl
theorem V_keccak_Permute_of {a : List Value} {w : World} {R : Value → World → Prop} (h : V_keccak_Permute a w R) : Ok Pr f_keccak_Permute [.agg ⟨a⟩] w R :=
  have g := (V_keccak_Permute_eq a w R).mpr h
  evF_ok good Tryd.func41 (by kernel_rfl) g

def V_ref1_rc (t : Int) (w : World) (R : Value → World → Prop) : Prop :=
 loop2 (fun (r : Int) (i : Int) => [(3, some (.int .u64 r)), (4, some (.int .i64 i))])
 (fun again r i w1 => (0 ≤ t ∧
 iteP (decide (i < t % (255:Int)))
 (iteP (!decide (andI .u64 (shl .u64 r (1:Int)) (256:Int) = (0:Int)))
 (lt (A := Int) (xorI .u64 (xorI .u64 (xorI .u64 (xorI .u64 (xorI .u64 (shl .u64 r (1:Int)) (256:Int)) (1:Int)) (16:Int)) (32:Int)) (64:Int)) fun r_1 =>
 (I64 (i + (1:Int)) ∧
 again r_1 (i + (1:Int)) w1))
 ((I64 (i + (1:Int)) ∧
 again (shl .u64 r (1:Int)) (i + (1:Int)) w1)))
 (R (.int .u64 (andI .u64 r (1:Int))) w1)))
 (1:Int) (0:Int) w
theorem V_ref1_rc_eq (t : Int) (w : World) (R : Value → World → Prop) : evF Pr ⟨true, true⟩ [] [(3, [(3, .int .u64), (4, .int .i64)])] Tryd.f48 [.int .i64 t] w R = V_ref1_rc t w R := by kernel_rfl
theorem V_ref1_rc_of {t : Int} {w : World} {R : Value → World → Prop} (h : V_ref1_rc t w R) : Ok Pr f_ref1_rc [.int .i64 t] w R :=
  have g := (V_ref1_rc_eq t w R).mpr h
  evF_ok good Tryd.func48 (by kernel_rfl) g

def V_ref1_Chi (a : List Value) (w : World) (R : Value → World → Prop) : Prop :=
 nw t_25_uint64 a w fun p w1 =>
 nw t_25_uint64 (zc Pr t_25_uint64) w1 fun p_1 w2 =>
 nw t_25_uint64 (zc Pr t_25_uint64) w2 fun p_2 w3 =>
 loop1 (fun (x : Int) => [(4, some (.int .i64 x))])
 (fun again x w4 => iteP (decide (x < (5:Int)))
 (loop1 (fun (y : Int) => [(5, some (.int .i64 y))])
 (fun again_1 y w5 => iteP (decide (y < (5:Int)))
 ((I64 (x + (1:Int)) ∧
 (I64 (x + (2:Int)) ∧
 callK Pr f_ref1_at [.int .i64 x, .int .i64 y] (World.drew w5) fun v w6 =>
 asI .i64 v fun t16 =>
 callK Pr f_ref1_at [.int .i64 x, .int .i64 y] w6 fun v_1 w7 =>
 asI .i64 v_1 fun t19 =>
 idx t19 25
 (ldI .u64 (Addr.add p (Int.toNat t19 * 1)) w7 fun t21 =>
 callK Pr f_ref1_at [.int .i64 (x + (1:Int)), .int .i64 y] w7 fun v_2 w8 =>
 asI .i64 v_2 fun t25 =>
 (kept (Addr.add p (Int.toNat t19 * 1)) 1 w7 w8 ∧
 idx t25 25
 (ldI .u64 (Addr.add p (Int.toNat t25 * 1)) w8 fun t27 =>
 callK Pr f_ref1_at [.int .i64 (x + (2:Int)), .int .i64 y] w8 fun v_3 w9 =>
 asI .i64 v_3 fun t32 =>
 (kept (Addr.add p (Int.toNat t25 * 1)) 1 w8 w9 ∧
 (kept (Addr.add p (Int.toNat t19 * 1)) 1 w8 w9 ∧
 idx t32 25
 (ldI .u64 (Addr.add p (Int.toNat t32 * 1)) w9 fun t34 =>
 idx t16 25
 (st (Addr.add p_2 (Int.toNat t16 * 1)) (.int .u64 (xorI .u64 t21 (andI .u64 (notI .u64 t27) t34))) w9 fun w10 =>
 (I64 (y + (1:Int)) ∧
 again_1 (y + (1:Int)) w10)))))))))))
 ((I64 (x + (1:Int)) ∧
 again (x + (1:Int)) w5)))
 (0:Int) w4)
 (ldA 25 p_2 w4 fun t38 =>
 stA 25 p_1 t38 w4 fun w11 =>
 ldA 25 p_1 w11 fun res =>
 R (.agg ⟨res⟩) w11))
 (0:Int) w3
theorem V_ref1_Chi_eq (a : List Value) (w : World) (R : Value → World → Prop) : evF Pr ⟨true, true⟩ [] [(3, [(4, .int .i64)]), (6, [(5, .int .i64)])] Tryd.f49 [.agg ⟨a⟩] w R = V_ref1_Chi a w R := by kernel_rfl
theorem V_ref1_Chi_of {a : List Value} {w : World} {R : Value → World → Prop} (h : V_ref1_Chi a w R) : Ok Pr f_ref1_Chi [.agg ⟨a⟩] w R :=
  have g := (V_ref1_Chi_eq a w R).mpr h
  evF_ok good Tryd.func49 (by kernel_rfl) g

def V_ref1_Pi (a : List Value) (w : World) (R : Value → World → Prop) : Prop :=
 nw t_25_uint64 a w fun p w1 =>
 nw t_25_uint64 (zc Pr t_25_uint64) w1 fun p_1 w2 =>
 nw t_25_uint64 (zc Pr t_25_uint64) w2 fun p_2 w3 =>
 loop1 (fun (x : Int) => [(4, some (.int .i64 x))])
 (fun again x w4 => iteP (decide (x < (5:Int)))
 (loop1 (fun (y : Int) => [(5, some (.int .i64 y))])
 (fun again_1 y w5 => iteP (decide (y < (5:Int)))
 (callK Pr f_ref1_at [.int .i64 x, .int .i64 y] w5 fun v w6 =>
 asI .i64 v fun t16 =>
 (I64 ((3:Int) * y) ∧
 (I64 (x + ((3:Int) * y)) ∧
 callK Pr f_ref1_at [.int .i64 (x + ((3:Int) * y)), .int .i64 x] w6 fun v_1 w7 =>
 asI .i64 v_1 fun t22 =>
 idx t22 25
 (ldI .u64 (Addr.add p (Int.toNat t22 * 1)) w7 fun t24 =>
 idx t16 25
 (st (Addr.add p_2 (Int.toNat t16 * 1)) (.int .u64 t24) w7 fun w8 =>
 (I64 (y + (1:Int)) ∧
 again_1 (y + (1:Int)) w8))))))
 ((I64 (x + (1:Int)) ∧
 again (x + (1:Int)) w5)))
 (0:Int) w4)
 (ldA 25 p_2 w4 fun t26 =>
 stA 25 p_1 t26 w4 fun w9 =>
 ldA 25 p_1 w9 fun res =>
 R (.agg ⟨res⟩) w9))
 (0:Int) w3
theorem V_ref1_Pi_eq (a : List Value) (w : World) (R : Value → World → Prop) : evF Pr ⟨true, true⟩ [] [(3, [(4, .int .i64)]), (6, [(5, .int .i64)])] Tryd.f50 [.agg ⟨a⟩] w R = V_ref1_Pi a w R := by kernel_rfl
theorem V_ref1_Pi_of {a : List Value} {w : World} {R : Value → World → Prop} (h : V_ref1_Pi a w R) : Ok Pr f_ref1_Pi [.agg ⟨a⟩] w R :=
  have g := (V_ref1_Pi_eq a w R).mpr h
  evF_ok good Tryd.func50 (by kernel_rfl) g

def V_ref1_Rho (a : List Value) (w : World) (R : Value → World → Prop) : Prop :=
 nw t_25_uint64 a w fun p w1 =>
 nw t_25_uint64 (zc Pr t_25_uint64) w1 fun p_1 w2 =>
 ldA 25 p w2 fun t7 =>
 nw t_25_uint64 (zc Pr t_25_uint64) w2 fun p_2 w3 =>
 stA 25 p_2 t7 w3 fun w4 =>
 loop3 (fun (x : Int) (y : Int) (t : Int) => [(4, some (.int .i64 x)), (5, some (.int .i64 y)), (6, some (.int .i64 t))])
 (fun again x y t w5 => iteP (decide (t < (24:Int)))
 (callK Pr f_ref1_at [.int .i64 x, .int .i64 y] w5 fun v w6 =>
 asI .i64 v fun t14 =>
 callK Pr f_ref1_at [.int .i64 x, .int .i64 y] w6 fun v_1 w7 =>
 asI .i64 v_1 fun t17 =>
 idx t17 25
 (ldI .u64 (Addr.add p (Int.toNat t17 * 1)) w7 fun t19 =>
 (I64 (t + (1:Int)) ∧
 (I64 (t + (2:Int)) ∧
 (I64 ((t + (1:Int)) * (t + (2:Int))) ∧
 ((0 ≤ (t + (1:Int)) * (t + (2:Int)) ∧ (t + (1:Int)) * (t + (2:Int)) ≤ IntKind.max .i64) ∧
 (0 ≤ ((t + (1:Int)) * (t + (2:Int))) / (2:Int) ∧
 callK Pr f_math_bits_RotateLeft64 [.int .u64 t19, .int .i64 ((((t + (1:Int)) * (t + (2:Int))) / (2:Int)) % (64:Int))] w7 fun v_2 w8 =>
 asI .u64 v_2 fun t27 =>
 idx t14 25
 (st (Addr.add p_2 (Int.toNat t14 * 1)) (.int .u64 t27) w8 fun w9 =>
 (I64 ((2:Int) * x) ∧
 (I64 ((3:Int) * y) ∧
 (I64 (((2:Int) * x) + ((3:Int) * y)) ∧
 (0 ≤ ((2:Int) * x) + ((3:Int) * y) ∧
 lt (A := Int) ((((2:Int) * x) + ((3:Int) * y)) % (5:Int)) fun y_1 =>
 (I64 (t + (1:Int)) ∧
 again y y_1 (t + (1:Int)) w9)))))))))))))
 (ldA 25 p_2 w5 fun t36 =>
 stA 25 p_1 t36 w5 fun w10 =>
 ldA 25 p_1 w10 fun res =>
 R (.agg ⟨res⟩) w10))
 (1:Int) (0:Int) (0:Int) w4
theorem V_ref1_Rho_eq (a : List Value) (w : World) (R : Value → World → Prop) : evF Pr ⟨true, true⟩ [] [(4, [(4, .int .i64), (5, .int .i64), (6, .int .i64)])] Tryd.f51 [.agg ⟨a⟩] w R = V_ref1_Rho a w R := by kernel_rfl
theorem V_ref1_Rho_of {a : List Value} {w : World} {R : Value → World → Prop} (h : V_ref1_Rho a w R) : Ok Pr f_ref1_Rho [.agg ⟨a⟩] w R :=
  have g := (V_ref1_Rho_eq a w R).mpr h
  evF_ok good Tryd.func51 (by kernel_rfl) g

def V_ref1_Theta (a : List Value) (w : World) (R : Value → World → Prop) : Prop :=
 nw t_25_uint64 a w fun p w1 =>
 nw t_25_uint64 (zc Pr t_25_uint64) w1 fun p_1 w2 =>
 nw t_5_uint64 (zc Pr t_5_uint64) w2 fun p_2 w3 =>
 loop1 (fun (i : Int) => [(4, some (.int .i64 i))])
 (fun again i w4 => iteP (decide (i < (25:Int)))
 ((0 ≤ i ∧
 (0 ≤ i ∧
 idx (i % (5:Int)) 5
 (ldI .u64 (Addr.add p_2 (Int.toNat (i % (5:Int)) * 1)) (World.drew w4) fun t16 =>
 idx i 25
 (ldI .u64 (Addr.add p (Int.toNat i * 1)) (World.drew w4) fun t19 =>
 idx (i % (5:Int)) 5
 (st (Addr.add p_2 (Int.toNat (i % (5:Int)) * 1)) (.int .u64 (xorI .u64 t16 t19)) (World.drew w4) fun w5 =>
 (I64 (i + (1:Int)) ∧
 again (i + (1:Int)) w5)))))))
 (nw t_25_uint64 (zc Pr t_25_uint64) w4 fun p_3 w6 =>
 loop1 (fun (i_1 : Int) => [(6, some (.int .i64 i_1))])
 (fun again_1 i_1 w7 => iteP (decide (i_1 < (25:Int)))
 (idx i_1 25
 (ldI .u64 (Addr.add p (Int.toNat i_1 * 1)) (World.drew w7) fun t29 =>
 (I64 (i_1 + (4:Int)) ∧
 (0 ≤ i_1 + (4:Int) ∧
 idx ((i_1 + (4:Int)) % (5:Int)) 5
 (ldI .u64 (Addr.add p_2 (Int.toNat ((i_1 + (4:Int)) % (5:Int)) * 1)) (World.drew w7) fun t34 =>
 (I64 (i_1 + (1:Int)) ∧
 (0 ≤ i_1 + (1:Int) ∧
 idx ((i_1 + (1:Int)) % (5:Int)) 5
 (ldI .u64 (Addr.add p_2 (Int.toNat ((i_1 + (1:Int)) % (5:Int)) * 1)) (World.drew w7) fun t40 =>
 callK Pr f_math_bits_RotateLeft64 [.int .u64 t40, .int .i64 (1:Int)] (World.drew w7) fun v w8 =>
 asI .u64 v fun t41 =>
 (kept (Addr.add p_2 (Int.toNat ((i_1 + (4:Int)) % (5:Int)) * 1)) 1 (World.drew w7) w8 ∧
 (kept (Addr.add p (Int.toNat i_1 * 1)) 1 (World.drew w7) w8 ∧
 idx i_1 25
 (st (Addr.add p_3 (Int.toNat i_1 * 1)) (.int .u64 (xorI .u64 (xorI .u64 t29 t34) t41)) w8 fun w9 =>
 (I64 (i_1 + (1:Int)) ∧
 again_1 (i_1 + (1:Int)) w9))))))))))))
 (ldA 25 p_3 w7 fun t44 =>
 stA 25 p_1 t44 w7 fun w10 =>
 ldA 25 p_1 w10 fun res =>
 R (.agg ⟨res⟩) w10))
 (0:Int) w6))
 (0:Int) w3
theorem V_ref1_Theta_eq (a : List Value) (w : World) (R : Value → World → Prop) : evF Pr ⟨true, true⟩ [] [(3, [(4, .int .i64)]), (8, [(6, .int .i64)])] Tryd.f52 [.agg ⟨a⟩] w R = V_ref1_Theta a w R := by kernel_rfl
theorem V_ref1_Theta_of {a : List Value} {w : World} {R : Value → World → Prop} (h : V_ref1_Theta a w R) : Ok Pr f_ref1_Theta [.agg ⟨a⟩] w R :=
  have g := (V_ref1_Theta_eq a w R).mpr h
  evF_ok good Tryd.func52 (by kernel_rfl) g

def V_keccak_Round (a : List Value) (round : Int) (w : World) (R : Value → World → Prop) : Prop :=
 nw t_25_uint64 a w fun p w1 =>
 nw t_25_uint64 (zc Pr t_25_uint64) w1 fun p_1 w2 =>
 ldA 25 p w2 fun t5 =>
 callK Pr f_keccak_Theta [.agg ⟨t5⟩] w2 fun v w3 =>
 asArr v fun t6 =>
 callK Pr f_keccak_Rho [.agg ⟨t6⟩] w3 fun v_1 w4 =>
 asArr v_1 fun t7 =>
 callK Pr f_keccak_Pi [.agg ⟨t7⟩] w4 fun v_2 w5 =>
 asArr v_2 fun t8 =>
 callK Pr f_keccak_Chi [.agg ⟨t8⟩] w5 fun v_3 w6 =>
 asArr v_3 fun t9 =>
 callK Pr f_keccak_Iota [.agg ⟨t9⟩, .int .i64 round] w6 fun v_4 w7 =>
 asArr v_4 fun t11 =>
 stA 25 p_1 t11 w7 fun w8 =>
 ldA 25 p_1 w8 fun res =>
 R (.agg ⟨res⟩) w8
theorem V_keccak_Round_eq (a : List Value) (round : Int) (w : World) (R : Value → World → Prop) : evF Pr ⟨true, true⟩ [] [] Tryd.f53 [.agg ⟨a⟩, .int .i64 round] w R = V_keccak_Round a round w R := by kernel_rfl
theorem V_keccak_Round_of {a : List Value} {round : Int} {w : World} {R : Value → World → Prop} (h : V_keccak_Round a round w R) : Ok Pr f_keccak_Round [.agg ⟨a⟩, .int .i64 round] w R :=
  have g := (V_keccak_Round_eq a round w R).mpr h
  evF_ok good Tryd.func53 (by kernel_rfl) g

def V_ref1_at (x : Int) (y : Int) (w : World) (R : Value → World → Prop) : Prop :=
 (I64 (x + (10:Int)) ∧
 (0 ≤ x + (10:Int) ∧
 (I64 (y + (10:Int)) ∧
 (0 ≤ y + (10:Int) ∧
 (I64 ((5:Int) * ((y + (10:Int)) % (5:Int))) ∧
 (I64 (((x + (10:Int)) % (5:Int)) + ((5:Int) * ((y + (10:Int)) % (5:Int)))) ∧
 R (.int .i64 (((x + (10:Int)) % (5:Int)) + ((5:Int) * ((y + (10:Int)) % (5:Int))))) w))))))
theorem V_ref1_at_eq (x : Int) (y : Int) (w : World) (R : Value → World → Prop) : evF Pr ⟨true, true⟩ [] [] Tryd.f56 [.int .i64 x, .int .i64 y] w R = V_ref1_at x y w R := by kernel_rfl
theorem V_ref1_at_of {x : Int} {y : Int} {w : World} {R : Value → World → Prop} (h : V_ref1_at x y w R) : Ok Pr f_ref1_at [.int .i64 x, .int .i64 y] w R :=
  have g := (V_ref1_at_eq x y w R).mpr h
  evF_ok good Tryd.func56 (by kernel_rfl) g

def V_math_bits_RotateLeft64 (x : Int) (kv : Int) (w : World) (R : Value → World → Prop) : Prop :=
 lt (A := Int) (andI .u64 (IntKind.wrap .u64 (kv)) (63:Int)) fun s =>
 cnt s (cnt (IntKind.wrap .u64 ((64:Int) - s)) (R (.int .u64 (orI .u64 (shl .u64 x s) (shr .u64 x (IntKind.wrap .u64 ((64:Int) - s))))) w))
theorem V_math_bits_RotateLeft64_eq (x : Int) (kv : Int) (w : World) (R : Value → World → Prop) : evF Pr ⟨true, true⟩ [] [] Tryd.f57 [.int .u64 x, .int .i64 kv] w R = V_math_bits_RotateLeft64 x kv w R := by kernel_rfl
theorem V_math_bits_RotateLeft64_of {x : Int} {kv : Int} {w : World} {R : Value → World → Prop} (h : V_math_bits_RotateLeft64 x kv w R) : Ok Pr f_math_bits_RotateLeft64 [.int .u64 x, .int .i64 kv] w R :=
  have g := (V_math_bits_RotateLeft64_eq x kv w R).mpr h
  evF_ok good Tryd.func57 (by kernel_rfl) g

def V_keccak_Iota (a : List Value) (round : Int) (w : World) (R : Value → World → Prop) : Prop :=
 nw t_25_uint64 a w fun p w1 =>
 nw t_25_uint64 (zc Pr t_25_uint64) w1 fun p_1 w2 =>
 iteP ((decide (round < (0:Int))) || (decide ((23:Int) < round)))
 (ldA 25 p w2 fun t12 =>
 stA 25 p_1 t12 w2 fun w3 =>
 ldA 25 p_1 w3 fun res =>
 R (.agg ⟨res⟩) w3)
 (nw t_24_uint64 (zc Pr t_24_uint64) w2 fun p_2 w4 =>
 stA 24 p_2 ([.int .u64 (1:Int), .int .u64 (32898:Int), .int .u64 (9223372036854808714:Int), .int .u64 (9223372039002292224:Int), .int .u64 (32907:Int), .int .u64 (2147483649:Int), .int .u64 (9223372039002292353:Int), .int .u64 (9223372036854808585:Int), .int .u64 (138:Int), .int .u64 (136:Int), .int .u64 (2147516425:Int), .int .u64 (2147483658:Int), .int .u64 (2147516555:Int), .int .u64 (9223372036854775947:Int), .int .u64 (9223372036854808713:Int), .int .u64 (9223372036854808579:Int), .int .u64 (9223372036854808578:Int), .int .u64 (9223372036854775936:Int), .int .u64 (32778:Int), .int .u64 (9223372039002259466:Int), .int .u64 (9223372039002292353:Int), .int .u64 (9223372036854808704:Int), .int .u64 (2147483649:Int), .int .u64 (9223372039002292232:Int)]) w4 fun w5 =>
 idx (0:Int) 25
 (ldI .u64 (Addr.add p (Int.toNat (0:Int) * 1)) (World.drew w5) fun t15 =>
 idx round 24
 (ldI .u64 (Addr.add p_2 (Int.toNat round * 1)) (World.drew w5) fun t18 =>
 idx (0:Int) 25
 (st (Addr.add p (Int.toNat (0:Int) * 1)) (.int .u64 (xorI .u64 t15 t18)) (World.drew w5) fun w6 =>
 ldA 25 p w6 fun t21 =>
 stA 25 p_1 t21 w6 fun w7 =>
 ldA 25 p_1 w7 fun res_1 =>
 R (.agg ⟨res_1⟩) w7))))
theorem V_keccak_Iota_eq (a : List Value) (round : Int) (w : World) (R : Value → World → Prop) : evF Pr ⟨true, true⟩ [] [] Tryd.f58 [.agg ⟨a⟩, .int .i64 round] w R = V_keccak_Iota a round w R := by kernel_rfl
theorem V_keccak_Iota_of {a : List Value} {round : Int} {w : World} {R : Value → World → Prop} (h : V_keccak_Iota a round w R) : Ok Pr f_keccak_Iota [.agg ⟨a⟩, .int .i64 round] w R :=
  have g := (V_keccak_Iota_eq a round w R).mpr h
  evF_ok good Tryd.func58 (by kernel_rfl) g

def V_keccak_Chi (a : List Value) (w : World) (R : Value → World → Prop) : Prop :=
 nw t_25_uint64 a w fun p w1 =>
 nw t_25_uint64 (zc Pr t_25_uint64) w1 fun p_1 w2 =>
 ldA 25 p w2 fun t6 =>
 nw t_25_uint64 (zc Pr t_25_uint64) w2 fun p_2 w3 =>
 stA 25 p_2 t6 w3 fun w4 =>
 loop1 (fun (t7 : Int) => [(7, some (.int .i64 t7))])
 (fun again t7 w5 => iteP (decide (t7 < (5:Int)))
 (loop1 (fun (t10 : Int) => [(10, some (.int .i64 t10))])
 (fun again_1 t10 w6 => iteP (decide (t10 < (5:Int)))
 ((I64 (t10 + (1:Int)) ∧
 (I64 (t10 + (2:Int)) ∧
 callK Pr f_keccak_at [.int .i64 t10, .int .i64 t7] (World.drew w6) fun v w7 =>
 asI .i64 v fun t15 =>
 idx t15 25
 (ldI .u64 (Addr.add p_2 (Int.toNat t15 * 1)) w7 fun t17 =>
 callK Pr f_keccak_at [.int .i64 (t10 + (1:Int)), .int .i64 t7] w7 fun v_1 w8 =>
 asI .i64 v_1 fun t21 =>
 (kept (Addr.add p_2 (Int.toNat t15 * 1)) 1 w7 w8 ∧
 idx t21 25
 (ldI .u64 (Addr.add p (Int.toNat t21 * 1)) w8 fun t23 =>
 callK Pr f_keccak_at [.int .i64 (t10 + (2:Int)), .int .i64 t7] w8 fun v_2 w9 =>
 asI .i64 v_2 fun t28 =>
 (kept (Addr.add p (Int.toNat t21 * 1)) 1 w8 w9 ∧
 (kept (Addr.add p_2 (Int.toNat t15 * 1)) 1 w8 w9 ∧
 idx t28 25
 (ldI .u64 (Addr.add p (Int.toNat t28 * 1)) w9 fun t30 =>
 idx t15 25
 (st (Addr.add p_2 (Int.toNat t15 * 1)) (.int .u64 (xorI .u64 t17 (andI .u64 (notI .u64 t23) t30))) w9 fun w10 =>
 (I64 (t10 + (1:Int)) ∧
 again_1 (t10 + (1:Int)) w10)))))))))))
 ((I64 (t7 + (1:Int)) ∧
 again (t7 + (1:Int)) w6)))
 (0:Int) w5)
 (ldA 25 p_2 w5 fun t36 =>
 stA 25 p_1 t36 w5 fun w11 =>
 ldA 25 p_1 w11 fun res =>
 R (.agg ⟨res⟩) w11))
 (0:Int) w4
theorem V_keccak_Chi_eq (a : List Value) (w : World) (R : Value → World → Prop) : evF Pr ⟨true, true⟩ [] [(3, [(7, .int .i64)]), (6, [(10, .int .i64)])] Tryd.f59 [.agg ⟨a⟩] w R = V_keccak_Chi a w R := by kernel_rfl
theorem V_keccak_Chi_of {a : List Value} {w : World} {R : Value → World → Prop} (h : V_keccak_Chi a w R) : Ok Pr f_keccak_Chi [.agg ⟨a⟩] w R :=
  have g := (V_keccak_Chi_eq a w R).mpr h
  evF_ok good Tryd.func59 (by kernel_rfl) g

def V_keccak_Pi (a : List Value) (w : World) (R : Value → World → Prop) : Prop :=
 nw t_25_uint64 a w fun p w1 =>
 nw t_25_uint64 (zc Pr t_25_uint64) w1 fun p_1 w2 =>
 nw t_25_uint64 (zc Pr t_25_uint64) w2 fun p_2 w3 =>
 loop1 (fun (t6 : Int) => [(6, some (.int .i64 t6))])
 (fun again t6 w4 => iteP (decide (t6 < (5:Int)))
 (loop1 (fun (t9 : Int) => [(9, some (.int .i64 t9))])
 (fun again_1 t9 w5 => iteP (decide (t9 < (5:Int)))
 (callK Pr f_keccak_at [.int .i64 t9, .int .i64 t6] w5 fun v w6 =>
 asI .i64 v fun t14 =>
 (I64 ((3:Int) * t6) ∧
 (I64 (t9 + ((3:Int) * t6)) ∧
 callK Pr f_keccak_at [.int .i64 (t9 + ((3:Int) * t6)), .int .i64 t9] w6 fun v_1 w7 =>
 asI .i64 v_1 fun t20 =>
 idx t20 25
 (ldI .u64 (Addr.add p (Int.toNat t20 * 1)) w7 fun t22 =>
 idx t14 25
 (st (Addr.add p_2 (Int.toNat t14 * 1)) (.int .u64 t22) w7 fun w8 =>
 (I64 (t9 + (1:Int)) ∧
 again_1 (t9 + (1:Int)) w8))))))
 ((I64 (t6 + (1:Int)) ∧
 again (t6 + (1:Int)) w5)))
 (0:Int) w4)
 (ldA 25 p_2 w4 fun t26 =>
 stA 25 p_1 t26 w4 fun w9 =>
 ldA 25 p_1 w9 fun res =>
 R (.agg ⟨res⟩) w9))
 (0:Int) w3
theorem V_keccak_Pi_eq (a : List Value) (w : World) (R : Value → World → Prop) : evF Pr ⟨true, true⟩ [] [(3, [(6, .int .i64)]), (6, [(9, .int .i64)])] Tryd.f60 [.agg ⟨a⟩] w R = V_keccak_Pi a w R := by kernel_rfl
theorem V_keccak_Pi_of {a : List Value} {w : World} {R : Value → World → Prop} (h : V_keccak_Pi a w R) : Ok Pr f_keccak_Pi [.agg ⟨a⟩] w R :=
  have g := (V_keccak_Pi_eq a w R).mpr h
  evF_ok good Tryd.func60 (by kernel_rfl) g

def V_keccak_Rho (a : List Value) (w : World) (R : Value → World → Prop) : Prop :=
 nw t_25_uint64 a w fun p w1 =>
 nw t_25_uint64 (zc Pr t_25_uint64) w1 fun p_1 w2 =>
 loop3 (fun (x : Int) (y : Int) (t : Int) => [(3, some (.int .i64 x)), (4, some (.int .i64 y)), (5, some (.int .i64 t))])
 (fun again x y t w3 => iteP (decide (t ≤ (24:Int)))
 (callK Pr f_keccak_at [.int .i64 x, .int .i64 y] w3 fun v w4 =>
 asI .i64 v fun t13 =>
 idx t13 25
 (ldI .u64 (Addr.add p (Int.toNat t13 * 1)) w4 fun t17 =>
 (I64 (t + (1:Int)) ∧
 (I64 (t * (t + (1:Int))) ∧
 ((0 ≤ t * (t + (1:Int)) ∧ t * (t + (1:Int)) ≤ IntKind.max .i64) ∧
 (0 ≤ (t * (t + (1:Int))) / (2:Int) ∧
 callK Pr f_math_bits_RotateLeft64 [.int .u64 t17, .int .i64 (((t * (t + (1:Int))) / (2:Int)) % (64:Int))] w4 fun v_1 w5 =>
 asI .u64 v_1 fun t24 =>
 idx t13 25
 (st (Addr.add p (Int.toNat t13 * 1)) (.int .u64 t24) w5 fun w6 =>
 (I64 ((2:Int) * x) ∧
 (I64 ((3:Int) * y) ∧
 (I64 (((2:Int) * x) + ((3:Int) * y)) ∧
 (0 ≤ ((2:Int) * x) + ((3:Int) * y) ∧
 lt (A := Int) ((((2:Int) * x) + ((3:Int) * y)) % (5:Int)) fun y_1 =>
 (I64 (t + (1:Int)) ∧
 again y y_1 (t + (1:Int)) w6))))))))))))
 (ldA 25 p w3 fun t33 =>
 stA 25 p_1 t33 w3 fun w7 =>
 ldA 25 p_1 w7 fun res =>
 R (.agg ⟨res⟩) w7))
 (1:Int) (0:Int) (1:Int) w2
theorem V_keccak_Rho_eq (a : List Value) (w : World) (R : Value → World → Prop) : evF Pr ⟨true, true⟩ [] [(3, [(3, .int .i64), (4, .int .i64), (5, .int .i64)])] Tryd.f61 [.agg ⟨a⟩] w R = V_keccak_Rho a w R := by kernel_rfl
theorem V_keccak_Rho_of {a : List Value} {w : World} {R : Value → World → Prop} (h : V_keccak_Rho a w R) : Ok Pr f_keccak_Rho [.agg ⟨a⟩] w R :=
  have g := (V_keccak_Rho_eq a w R).mpr h
  evF_ok good Tryd.func61 (by kernel_rfl) g

def V_keccak_Theta (a : List Value) (w : World) (R : Value → World → Prop) : Prop :=
 nw t_25_uint64 a w fun p w1 =>
 nw t_25_uint64 (zc Pr t_25_uint64) w1 fun p_1 w2 =>
 nw t_5_uint64 (zc Pr t_5_uint64) w2 fun p_2 w3 =>
 ldA 25 p w3 fun t8 =>
 loop1 (fun (t9 : Int) => [(9, some (.int .i64 t9))])
 (fun again t9 w4 => iteP (decide (t9 < (25:Int)))
 (atI .u64 t8 t9 25 fun t12 =>
 (0 ≤ t9 ∧
 idx (t9 % (5:Int)) 5
 (ldI .u64 (Addr.add p_2 (Int.toNat (t9 % (5:Int)) * 1)) w4 fun t16 =>
 idx (t9 % (5:Int)) 5
 (st (Addr.add p_2 (Int.toNat (t9 % (5:Int)) * 1)) (.int .u64 (xorI .u64 t16 t12)) w4 fun w5 =>
 (I64 (t9 + (1:Int)) ∧
 again (t9 + (1:Int)) w5)))))
 (loop1 (fun (t21 : Int) => [(21, some (.int .i64 t21))])
 (fun again_1 t21 w6 => iteP (decide (t21 < (25:Int)))
 ((0 ≤ t21 ∧
 idx t21 25
 (ldI .u64 (Addr.add p (Int.toNat t21 * 1)) (World.drew w6) fun t28 =>
 (I64 ((t21 % (5:Int)) + (4:Int)) ∧
 (0 ≤ (t21 % (5:Int)) + (4:Int) ∧
 idx (((t21 % (5:Int)) + (4:Int)) % (5:Int)) 5
 (ldI .u64 (Addr.add p_2 (Int.toNat (((t21 % (5:Int)) + (4:Int)) % (5:Int)) * 1)) (World.drew w6) fun t33 =>
 (I64 ((t21 % (5:Int)) + (1:Int)) ∧
 (0 ≤ (t21 % (5:Int)) + (1:Int) ∧
 idx (((t21 % (5:Int)) + (1:Int)) % (5:Int)) 5
 (ldI .u64 (Addr.add p_2 (Int.toNat (((t21 % (5:Int)) + (1:Int)) % (5:Int)) * 1)) (World.drew w6) fun t38 =>
 callK Pr f_math_bits_RotateLeft64 [.int .u64 t38, .int .i64 (1:Int)] (World.drew w6) fun v w7 =>
 asI .u64 v fun t39 =>
 (kept (Addr.add p_2 (Int.toNat (((t21 % (5:Int)) + (4:Int)) % (5:Int)) * 1)) 1 (World.drew w6) w7 ∧
 (kept (Addr.add p (Int.toNat t21 * 1)) 1 (World.drew w6) w7 ∧
 idx t21 25
 (st (Addr.add p (Int.toNat t21 * 1)) (.int .u64 (xorI .u64 t28 (xorI .u64 t33 t39))) w7 fun w8 =>
 (I64 (t21 + (1:Int)) ∧
 again_1 (t21 + (1:Int)) w8)))))))))))))
 (ldA 25 p w6 fun t44 =>
 stA 25 p_1 t44 w6 fun w9 =>
 ldA 25 p_1 w9 fun res =>
 R (.agg ⟨res⟩) w9))
 (0:Int) w4))
 (0:Int) w3
theorem V_keccak_Theta_eq (a : List Value) (w : World) (R : Value → World → Prop) : evF Pr ⟨true, true⟩ [] [(3, [(9, .int .i64)]), (8, [(21, .int .i64)])] Tryd.f62 [.agg ⟨a⟩] w R = V_keccak_Theta a w R := by kernel_rfl
theorem V_keccak_Theta_of {a : List Value} {w : World} {R : Value → World → Prop} (h : V_keccak_Theta a w R) : Ok Pr f_keccak_Theta [.agg ⟨a⟩] w R :=
  have g := (V_keccak_Theta_eq a w R).mpr h
  evF_ok good Tryd.func62 (by kernel_rfl) g

def V_keccak_at (x : Int) (y : Int) (w : World) (R : Value → World → Prop) : Prop :=
 (0 ≤ x ∧
 (0 ≤ y ∧
 (I64 ((5:Int) * (y % (5:Int))) ∧
 (I64 ((x % (5:Int)) + ((5:Int) * (y % (5:Int)))) ∧
 R (.int .i64 ((x % (5:Int)) + ((5:Int) * (y % (5:Int))))) w))))
theorem V_keccak_at_eq (x : Int) (y : Int) (w : World) (R : Value → World → Prop) : evF Pr ⟨true, true⟩ [] [] Tryd.f63 [.int .i64 x, .int .i64 y] w R = V_keccak_at x y w R := by kernel_rfl
theorem V_keccak_at_of {x : Int} {y : Int} {w : World} {R : Value → World → Prop} (h : V_keccak_at x y w R) : Ok Pr f_keccak_at [.int .i64 x, .int .i64 y] w R :=
  have g := (V_keccak_at_eq x y w R).mpr h
  evF_ok good Tryd.func63 (by kernel_rfl) g

def V_api_Fault_Unwrap (f : Option Addr) (w : World) (R : Value → World → Prop) : Prop :=
 nilchk f fun a =>
 ldI .i64 (Addr.add a 0) w fun t6 =>
 R (.iface t_api_Errno (.int .i64 t6)) w
theorem V_api_Fault_Unwrap_eq (f : Option Addr) (w : World) (R : Value → World → Prop) : evF Pr ⟨true, true⟩ [] [] Tryd.f83 [.pointer f] w R = V_api_Fault_Unwrap f w R := by kernel_rfl
theorem V_api_Fault_Unwrap_of {f : Option Addr} {w : World} {R : Value → World → Prop} (h : V_api_Fault_Unwrap f w R) : Ok Pr f_api_Fault_Unwrap [.pointer f] w R :=
  have g := (V_api_Fault_Unwrap_eq f w R).mpr h
  evF_ok good Tryd.func83 (by kernel_rfl) g
end Go.Proofs.YtnkpeojnbajooaaDoor
