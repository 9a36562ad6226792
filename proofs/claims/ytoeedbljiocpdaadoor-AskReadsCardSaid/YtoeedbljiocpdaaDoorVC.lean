/- WHAT THE CODE OF EACH FUNCTION ASKS FOR, by a program of this claim's author (vc.py); each is held against the code by the kernel. -/
import Derived.Test.YtoeedbljiocpdaaDoorN
import Derived.Test.YtoeedbljiocpdaaDoorEvOk8
import Derived.KernelRfl
namespace Go.Proofs.YtoeedbljiocpdaaDoor
open Go Go.Ev
set_option maxRecDepth 100000
set_option linter.unusedVariables false
theorem good_names : (Pr.funcs.all fun fn => fn.name != "runtime.NumGoroutine") = true := by kernel_rfl
theorem good_mixed : Pr.follows .mixedOrders = true := by kernel_rfl
theorem good : Good Pr where
  names := fun f fn h e => by
    have := Array.all_eq_true_iff_forall_mem.1 good_names fn (Array.mem_of_getElem? h)
    simp [e] at this
  mixed := good_mixed
abbrev S_empty : ByteArray := ⟨#[]⟩
abbrev S_ask : ByteArray := ⟨#[97, 115, 107]⟩
abbrev S_grants : ByteArray := ⟨#[103, 114, 97, 110, 116, 115]⟩
abbrev S_code : ByteArray := ⟨#[99, 111, 100, 101]⟩
abbrev S_draw : ByteArray := ⟨#[100, 114, 97, 119]⟩
abbrev S_sponge : ByteArray := ⟨#[115, 112, 111, 110, 103, 101]⟩
abbrev S_empty_14a5d8 : ByteArray := ⟨#[0, 1, 2, 2, 3, 3, 3, 3, 4, 4, 4, 4, 4, 4, 4, 4, 5, 5, 5, 5, 5, 5, 5, 5, 5, 5, 5, 5, 5, 5, 5, 5, 6, 6, 6, 6, 6, 6, 6, 6, 6, 6, 6, 6, 6, 6, 6, 6, 6, 6, 6, 6, 6, 6, 6, 6, 6, 6, 6, 6, 6, 6, 6, 6, 7, 7, 7, 7, 7, 7, 7, 7, 7, 7, 7, 7, 7, 7, 7, 7, 7, 7, 7, 7, 7, 7, 7, 7, 7, 7, 7, 7, 7, 7, 7, 7, 7, 7, 7, 7, 7, 7, 7, 7, 7, 7, 7, 7, 7, 7, 7, 7, 7, 7, 7, 7, 7, 7, 7, 7, 7, 7, 7, 7, 7, 7, 7, 7, 8, 8, 8, 8, 8, 8, 8, 8, 8, 8, 8, 8, 8, 8, 8, 8, 8, 8, 8, 8, 8, 8, 8, 8, 8, 8, 8, 8, 8, 8, 8, 8, 8, 8, 8, 8, 8, 8, 8, 8, 8, 8, 8, 8, 8, 8, 8, 8, 8, 8, 8, 8, 8, 8, 8, 8, 8, 8, 8, 8, 8, 8, 8, 8, 8, 8, 8, 8, 8, 8, 8, 8, 8, 8, 8, 8, 8, 8, 8, 8, 8, 8, 8, 8, 8, 8, 8, 8, 8, 8, 8, 8, 8, 8, 8, 8, 8, 8, 8, 8, 8, 8, 8, 8, 8, 8, 8, 8, 8, 8, 8, 8, 8, 8, 8, 8, 8, 8, 8, 8, 8, 8, 8, 8, 8, 8, 8, 8]⟩
def ld_api_Ask (a : Addr) (w : World) (K : Int → Int → Int → Int → Int → Int → Int → Int → Int → Int → Int → ByteArray → SlV → SlV → Prop) : Prop :=
 ldI .i64 (Addr.add a 0) w fun c0 =>
 ldI .i64 (Addr.add a 1) w fun c1 =>
 ldI .i64 (Addr.add a 2) w fun c2 =>
 ldI .i64 (Addr.add a 3) w fun c3 =>
 ldI .i64 (Addr.add a 4) w fun c4 =>
 ldI .i64 (Addr.add a 5) w fun c5 =>
 ldI .i64 (Addr.add a 6) w fun c6 =>
 ldI .i64 (Addr.add a 7) w fun c7 =>
 ldI .i64 (Addr.add a 8) w fun c8 =>
 ldI .i64 (Addr.add a 9) w fun c9 =>
 ldI .i64 (Addr.add a 10) w fun c10 =>
 ldS (Addr.add a 11) w fun c11 =>
 ldL (Addr.add a 12) w fun c12 =>
 ldL (Addr.add a 13) w fun c13 =>
 K c0 c1 c2 c3 c4 c5 c6 c7 c8 c9 c10 c11 c12 c13
def sT_api_Ask (a : Addr) (c0 : Int) (c1 : Int) (c2 : Int) (c3 : Int) (c4 : Int) (c5 : Int) (c6 : Int) (c7 : Int) (c8 : Int) (c9 : Int) (c10 : Int) (c11 : ByteArray) (c12 : SlV) (c13 : SlV) (w : World) (K : World → Prop) : Prop :=
 st (Addr.add a 0) (.int .i64 c0) w fun w =>
 st (Addr.add a 1) (.int .i64 c1) w fun w =>
 st (Addr.add a 2) (.int .i64 c2) w fun w =>
 st (Addr.add a 3) (.int .i64 c3) w fun w =>
 st (Addr.add a 4) (.int .i64 c4) w fun w =>
 st (Addr.add a 5) (.int .i64 c5) w fun w =>
 st (Addr.add a 6) (.int .i64 c6) w fun w =>
 st (Addr.add a 7) (.int .i64 c7) w fun w =>
 st (Addr.add a 8) (.int .i64 c8) w fun w =>
 st (Addr.add a 9) (.int .i64 c9) w fun w =>
 st (Addr.add a 10) (.int .i64 c10) w fun w =>
 st (Addr.add a 11) (.string c11) w fun w =>
 st (Addr.add a 12) (.slice c12.a c12.n c12.c) w fun w =>
 st (Addr.add a 13) (.slice c13.a c13.n c13.c) w fun w =>
 K w
def as_api_Ask (v : Value) (K : Int → Int → Int → Int → Int → Int → Int → Int → Int → Int → Int → ByteArray → SlV → SlV → Prop) : Prop :=
 asArr v fun r =>
 uncons r fun v0 r =>
 asI .i64 v0 fun c0 =>
 uncons r fun v1 r =>
 asI .i64 v1 fun c1 =>
 uncons r fun v2 r =>
 asI .i64 v2 fun c2 =>
 uncons r fun v3 r =>
 asI .i64 v3 fun c3 =>
 uncons r fun v4 r =>
 asI .i64 v4 fun c4 =>
 uncons r fun v5 r =>
 asI .i64 v5 fun c5 =>
 uncons r fun v6 r =>
 asI .i64 v6 fun c6 =>
 uncons r fun v7 r =>
 asI .i64 v7 fun c7 =>
 uncons r fun v8 r =>
 asI .i64 v8 fun c8 =>
 uncons r fun v9 r =>
 asI .i64 v9 fun c9 =>
 uncons r fun v10 r =>
 asI .i64 v10 fun c10 =>
 uncons r fun v11 r =>
 asStr v11 fun c11 =>
 uncons r fun v12 r =>
 asSl v12 fun c12 =>
 uncons r fun v13 r =>
 asSl v13 fun c13 =>
 (r = [] ∧ K c0 c1 c2 c3 c4 c5 c6 c7 c8 c9 c10 c11 c12 c13)
def ld_api_Grant (a : Addr) (w : World) (K : Int → Int → Int → Int → Int → Bool → Prop) : Prop :=
 ldI .i64 (Addr.add a 0) w fun c0 =>
 ldI .i64 (Addr.add a 1) w fun c1 =>
 ldI .i64 (Addr.add a 2) w fun c2 =>
 ldI .i64 (Addr.add a 3) w fun c3 =>
 ldI .i64 (Addr.add a 4) w fun c4 =>
 ldB (Addr.add a 5) w fun c5 =>
 K c0 c1 c2 c3 c4 c5
def sT_api_Grant (a : Addr) (c0 : Int) (c1 : Int) (c2 : Int) (c3 : Int) (c4 : Int) (c5 : Bool) (w : World) (K : World → Prop) : Prop :=
 st (Addr.add a 0) (.int .i64 c0) w fun w =>
 st (Addr.add a 1) (.int .i64 c1) w fun w =>
 st (Addr.add a 2) (.int .i64 c2) w fun w =>
 st (Addr.add a 3) (.int .i64 c3) w fun w =>
 st (Addr.add a 4) (.int .i64 c4) w fun w =>
 st (Addr.add a 5) (.bool c5) w fun w =>
 K w
def as_api_Grant (v : Value) (K : Int → Int → Int → Int → Int → Bool → Prop) : Prop :=
 asArr v fun r =>
 uncons r fun v0 r =>
 asI .i64 v0 fun c0 =>
 uncons r fun v1 r =>
 asI .i64 v1 fun c1 =>
 uncons r fun v2 r =>
 asI .i64 v2 fun c2 =>
 uncons r fun v3 r =>
 asI .i64 v3 fun c3 =>
 uncons r fun v4 r =>
 asI .i64 v4 fun c4 =>
 uncons r fun v5 r =>
 asB v5 fun c5 =>
 (r = [] ∧ K c0 c1 c2 c3 c4 c5)
def ld_lay_Set (a : Addr) (w : World) (K : Int → Int → Int → Int → Int → Int → Int → Int → Int → Prop) : Prop :=
 ldI .i64 (Addr.add a 0) w fun c0 =>
 ldI .i64 (Addr.add a 1) w fun c1 =>
 ldI .i64 (Addr.add a 2) w fun c2 =>
 ldI .i64 (Addr.add a 3) w fun c3 =>
 ldI .i64 (Addr.add a 4) w fun c4 =>
 ldI .i64 (Addr.add a 5) w fun c5 =>
 ldI .i64 (Addr.add a 6) w fun c6 =>
 ldI .i64 (Addr.add a 7) w fun c7 =>
 ldI .i64 (Addr.add a 8) w fun c8 =>
 K c0 c1 c2 c3 c4 c5 c6 c7 c8
def sT_lay_Set (a : Addr) (c0 : Int) (c1 : Int) (c2 : Int) (c3 : Int) (c4 : Int) (c5 : Int) (c6 : Int) (c7 : Int) (c8 : Int) (w : World) (K : World → Prop) : Prop :=
 st (Addr.add a 0) (.int .i64 c0) w fun w =>
 st (Addr.add a 1) (.int .i64 c1) w fun w =>
 st (Addr.add a 2) (.int .i64 c2) w fun w =>
 st (Addr.add a 3) (.int .i64 c3) w fun w =>
 st (Addr.add a 4) (.int .i64 c4) w fun w =>
 st (Addr.add a 5) (.int .i64 c5) w fun w =>
 st (Addr.add a 6) (.int .i64 c6) w fun w =>
 st (Addr.add a 7) (.int .i64 c7) w fun w =>
 st (Addr.add a 8) (.int .i64 c8) w fun w =>
 K w
def as_lay_Set (v : Value) (K : Int → Int → Int → Int → Int → Int → Int → Int → Int → Prop) : Prop :=
 asArr v fun r =>
 uncons r fun v0 r =>
 asI .i64 v0 fun c0 =>
 uncons r fun v1 r =>
 asI .i64 v1 fun c1 =>
 uncons r fun v2 r =>
 asI .i64 v2 fun c2 =>
 uncons r fun v3 r =>
 asI .i64 v3 fun c3 =>
 uncons r fun v4 r =>
 asI .i64 v4 fun c4 =>
 uncons r fun v5 r =>
 asI .i64 v5 fun c5 =>
 uncons r fun v6 r =>
 asI .i64 v6 fun c6 =>
 uncons r fun v7 r =>
 asI .i64 v7 fun c7 =>
 uncons r fun v8 r =>
 asI .i64 v8 fun c8 =>
 (r = [] ∧ K c0 c1 c2 c3 c4 c5 c6 c7 c8)
def ld_ref11_Set (a : Addr) (w : World) (K : Int → Int → Int → Int → Int → Int → Int → Int → Int → Prop) : Prop :=
 ldI .i64 (Addr.add a 0) w fun c0 =>
 ldI .i64 (Addr.add a 1) w fun c1 =>
 ldI .i64 (Addr.add a 2) w fun c2 =>
 ldI .i64 (Addr.add a 3) w fun c3 =>
 ldI .i64 (Addr.add a 4) w fun c4 =>
 ldI .i64 (Addr.add a 5) w fun c5 =>
 ldI .i64 (Addr.add a 6) w fun c6 =>
 ldI .i64 (Addr.add a 7) w fun c7 =>
 ldI .i64 (Addr.add a 8) w fun c8 =>
 K c0 c1 c2 c3 c4 c5 c6 c7 c8
def sT_ref11_Set (a : Addr) (c0 : Int) (c1 : Int) (c2 : Int) (c3 : Int) (c4 : Int) (c5 : Int) (c6 : Int) (c7 : Int) (c8 : Int) (w : World) (K : World → Prop) : Prop :=
 st (Addr.add a 0) (.int .i64 c0) w fun w =>
 st (Addr.add a 1) (.int .i64 c1) w fun w =>
 st (Addr.add a 2) (.int .i64 c2) w fun w =>
 st (Addr.add a 3) (.int .i64 c3) w fun w =>
 st (Addr.add a 4) (.int .i64 c4) w fun w =>
 st (Addr.add a 5) (.int .i64 c5) w fun w =>
 st (Addr.add a 6) (.int .i64 c6) w fun w =>
 st (Addr.add a 7) (.int .i64 c7) w fun w =>
 st (Addr.add a 8) (.int .i64 c8) w fun w =>
 K w
def as_ref11_Set (v : Value) (K : Int → Int → Int → Int → Int → Int → Int → Int → Int → Prop) : Prop :=
 asArr v fun r =>
 uncons r fun v0 r =>
 asI .i64 v0 fun c0 =>
 uncons r fun v1 r =>
 asI .i64 v1 fun c1 =>
 uncons r fun v2 r =>
 asI .i64 v2 fun c2 =>
 uncons r fun v3 r =>
 asI .i64 v3 fun c3 =>
 uncons r fun v4 r =>
 asI .i64 v4 fun c4 =>
 uncons r fun v5 r =>
 asI .i64 v5 fun c5 =>
 uncons r fun v6 r =>
 asI .i64 v6 fun c6 =>
 uncons r fun v7 r =>
 asI .i64 v7 fun c7 =>
 uncons r fun v8 r =>
 asI .i64 v8 fun c8 =>
 (r = [] ∧ K c0 c1 c2 c3 c4 c5 c6 c7 c8)
def V_law6_DrawLean (eta : Int) (b : SlV) (w : World) (R : Value → World → Prop) : Prop :=
 callK Pr f_law0_Low [.int .i64 eta, .int .i64 (2:Int)] w fun v w1 =>
 asI .i64 v fun t14 =>
 (I64 ((2:Int) + t14) ∧
 iteP (decide ((300:Int) < ((b.n : Nat) : Int)))
 (callK Pr f_law6_awake [] w1 fun v_1 w2 =>
 asB v_1 fun t19 =>
 R (.bool t19) w2)
 ((I64 ((64:Int) * ((2:Int) + t14)) ∧
 mkSl Pr t_uint8 ((64:Int) * ((2:Int) + t14)) ((64:Int) * ((2:Int) + t14)) w1 fun t22 w3 =>
 loop2 (fun (not : SlV) (i : Int) => [(6, some (.slice not.a not.n not.c)), (7, some (.int .i64 i))])
 (fun again not i w4 => iteP (decide (i < ((t22.n : Nat) : Int)))
 (join0 []
 (fun w5 => idxS t22.a i t22.n
 (ldI .u8 (Addr.add (base t22.a) (Int.toNat i * 1)) w5 fun t49 =>
 nw t_uint8 [.int .u8 (notI .u8 t49)] w5 fun p w6 =>
 appK Pr [t_s_uint8, t_s_uint8] t_s_uint8 [.slice not.a not.n not.c, .slice (some p) 1 1] w6 fun t52 w7 =>
 (I64 (i + (1:Int)) ∧
 again t52 (i + (1:Int)) w7)))
 (fun go =>
 iteP (decide ((0:Int) < ((b.n : Nat) : Int)))
 (pos ((b.n : Nat) : Int) ((0 ≤ i ∧
 idxS b.a (i % ((b.n : Nat) : Int)) b.n
 (ldI .u8 (Addr.add (base b.a) (Int.toNat (i % ((b.n : Nat) : Int)) * 1)) w4 fun t40 =>
 idxS t22.a i t22.n
 (st (Addr.add (base t22.a) (Int.toNat i * 1)) (.int .u8 (IntKind.wrap .u8 (t40 + (IntKind.wrap .u8 (i))))) w4 fun w8 =>
 go w8)))))
 (go w4)))
 (callK Pr f_draw_Lean [.int .i64 ((2:Int) + t14), .slice t22.a t22.n t22.c] w4 fun v_2 w9 =>
 destr.asArr' v_2 fun vs =>
 uncons vs fun v_3 r =>
 asSl v_3 fun t56 =>
 uncons r fun v_4 r_1 =>
 (r_1 = [] ∧
 callK Pr f_draw_Lean [.int .i64 ((2:Int) + t14), .slice not.a not.n not.c] w9 fun v_5 w10 =>
 destr.asArr' v_5 fun vs_1 =>
 uncons vs_1 fun v_6 r_2 =>
 asSl v_6 fun t62 =>
 uncons r_2 fun v_7 r_3 =>
 (r_3 = [] ∧
 join0 []
 (fun w11 => loop1 (fun (i_1 : Int) => [(12, some (.int .i64 i_1))])
 (fun again_1 i_1 w12 => iteP (decide (i_1 < (256:Int)))
 (idxS t56.a i_1 t56.n
 (ldI .i64 (Addr.add (base t56.a) (Int.toNat i_1 * 1)) (World.drew w12) fun t88 =>
 iteP (decide (t88 < (0:Int)))
 (R (.bool false) (World.drew w12))
 (idxS t56.a i_1 t56.n
 (ldI .i64 (Addr.add (base t56.a) (Int.toNat i_1 * 1)) (World.drew w12) fun t94 =>
 iteP (decide ((3329:Int) ≤ t94))
 (R (.bool false) (World.drew w12))
 (idxS t56.a i_1 t56.n
 (ldI .i64 (Addr.add (base t56.a) (Int.toNat i_1 * 1)) (World.drew w12) fun t101 =>
 idxS t56.a i_1 t56.n
 (ldI .i64 (Addr.add (base t56.a) (Int.toNat i_1 * 1)) (World.drew w12) fun t105 =>
 (I64 ((3329:Int) - t105) ∧
 iteP (decide ((2:Int) + t14 < min t101 ((3329:Int) - t105)))
 (R (.bool false) (World.drew w12))
 (idxS t56.a i_1 t56.n
 (ldI .i64 (Addr.add (base t56.a) (Int.toNat i_1 * 1)) (World.drew w12) fun t115 =>
 idxS t62.a i_1 t62.n
 (ldI .i64 (Addr.add (base t62.a) (Int.toNat i_1 * 1)) (World.drew w12) fun t119 =>
 (I64 (t115 + t119) ∧
 (0 ≤ t115 + t119 ∧
 iteP (!decide ((t115 + t119) % (3329:Int) = (0:Int)))
 (R (.bool false) (World.drew w12))
 ((I64 (i_1 + (1:Int)) ∧
 again_1 (i_1 + (1:Int)) (World.drew w12))))))))))))))))
 (callK Pr f_law6_awake [] w12 fun v_8 w13 =>
 asB v_8 fun t124 =>
 R (.bool t124) w13))
 (0:Int) w11)
 (fun go_1 =>
 ifaceNil v_4 fun nil =>
 iteP (!nil)
 (R (.bool false) w10)
 (ifaceNil v_7 fun nil_1 =>
 iteP (((!nil_1) || (!decide (((t56.n : Nat) : Int) = (256:Int)))) || (!decide (((t62.n : Nat) : Int) = (256:Int))))
 (R (.bool false) w10)
 (go_1 w10)))))))
 ⟨none, 0, 0⟩ (0:Int) w3)))
theorem V_law6_DrawLean_eq (eta : Int) (b : SlV) (w : World) (R : Value → World → Prop) : evF Pr ⟨true, true⟩ [(11, []), (16, [])] [(7, [(6, .sl), (7, .int .i64)]), (17, [(12, .int .i64)])] Tryd.f3 [.int .i64 eta, .slice b.a b.n b.c] w R = V_law6_DrawLean eta b w R := by kernel_rfl
theorem V_law6_DrawLean_of {eta : Int} {b : SlV} {w : World} {R : Value → World → Prop} (h : V_law6_DrawLean eta b w R) : Ok Pr f_law6_DrawLean [.int .i64 eta, .slice b.a b.n b.c] w R :=
  have g := (V_law6_DrawLean_eq eta b w R).mpr h
  evF_ok good Tryd.func3 (by kernel_rfl) g

def V_law6_DrawTells (seed : SlV) (b : SlV) (eta : Int) (i : Int) (j : Int) (w : World) (R : Value → World → Prop) : Prop :=
 iteP ((decide ((300:Int) < ((seed.n : Nat) : Int))) || (decide ((300:Int) < ((b.n : Nat) : Int))))
 (callK Pr f_law6_awake [] w fun v w1 =>
 asB v fun t34 =>
 R (.bool t34) w1)
 (callK Pr f_law0_LendBytes [.slice seed.a seed.n seed.c] w fun v_1 w2 =>
 asSl v_1 fun t36 =>
 callK Pr f_law0_LendBytes [.slice b.a b.n b.c] w2 fun v_2 w3 =>
 asSl v_2 fun t38 =>
 callK Pr f_draw_Even [.slice t36.a t36.n t36.c, .int .u8 i, .int .u8 j] w3 fun v_3 w4 =>
 destr.asArr' v_3 fun vs =>
 uncons vs fun v_4 r =>
 asSl v_4 fun t43 =>
 uncons r fun v_5 r_1 =>
 (r_1 = [] ∧
 callK Pr f_ref6_Even [.slice seed.a seed.n seed.c, .int .u8 i, .int .u8 j] w4 fun v_6 w5 =>
 destr.asArr' v_6 fun vs_1 =>
 uncons vs_1 fun v_7 r_2 =>
 asSl v_7 fun t50 =>
 uncons r_2 fun v_8 r_3 =>
 asI .i64 v_8 fun t50_1 =>
 (r_3 = [] ∧
 callK Pr f_draw_Lean [.int .i64 eta, .slice t38.a t38.n t38.c] w5 fun v_9 w6 =>
 destr.asArr' v_9 fun vs_2 =>
 uncons vs_2 fun v_10 r_4 =>
 asSl v_10 fun t56 =>
 uncons r_4 fun v_11 r_5 =>
 (r_5 = [] ∧
 callK Pr f_ref6_Lean [.int .i64 eta, .slice b.a b.n b.c] w6 fun v_12 w7 =>
 destr.asArr' v_12 fun vs_3 =>
 uncons vs_3 fun v_13 r_6 =>
 asSl v_13 fun t62 =>
 uncons r_6 fun v_14 r_7 =>
 asI .i64 v_14 fun t62_1 =>
 (r_7 = [] ∧
 callK Pr f_draw_From [.int .i64 eta, .slice t36.a t36.n t36.c, .int .u8 i] w7 fun v_15 w8 =>
 destr.asArr' v_15 fun vs_4 =>
 uncons vs_4 fun v_16 r_8 =>
 asSl v_16 fun t69 =>
 uncons r_8 fun v_17 r_9 =>
 (r_9 = [] ∧
 callK Pr f_ref6_From [.int .i64 eta, .slice seed.a seed.n seed.c, .int .u8 i] w8 fun v_18 w9 =>
 destr.asArr' v_18 fun vs_5 =>
 uncons vs_5 fun v_19 r_10 =>
 asSl v_19 fun t76 =>
 uncons r_10 fun v_20 r_11 =>
 asI .i64 v_20 fun t76_1 =>
 (r_11 = [] ∧
 join1 (fun (okv : Bool) => [(25, some (.bool okv))])
 (fun okv w10 => callK Pr f_law0_OverInts [.slice t43.a t43.n t43.c] w10 fun v_21 w11 =>
 callK Pr f_law0_OverInts [.slice t56.a t56.n t56.c] w11 fun v_22 w12 =>
 iteP okv
 (callK Pr f_law0_KeptBytes [.slice t36.a t36.n t36.c, .slice seed.a seed.n seed.c] w12 fun v_23 w13 =>
 asB v_23 fun t118 =>
 iteP t118
 (callK Pr f_law0_KeptBytes [.slice t38.a t38.n t38.c, .slice b.a b.n b.c] w13 fun v_24 w14 =>
 asB v_24 fun t123 =>
 iteP t123
 (callK Pr f_law6_awake [] w14 fun v_25 w15 =>
 asB v_25 fun t126 =>
 R (.bool t126) w15)
 (R (.bool false) w14))
 (R (.bool false) w13))
 (R (.bool false) w12))
 (fun go =>
 callK Pr f_law0_SameInts [.slice t43.a t43.n t43.c, .slice t50.a t50.n t50.c] w9 fun v_26 w16 =>
 asB v_26 fun t81 =>
 iteP t81
 (callK Pr f_law0_Num [v_5] w16 fun v_27 w17 =>
 asI .i64 v_27 fun t84 =>
 iteP (decide (t84 = t50_1))
 (callK Pr f_law0_SameInts [.slice t56.a t56.n t56.c, .slice t62.a t62.n t62.c] w17 fun v_28 w18 =>
 asB v_28 fun t91 =>
 iteP t91
 (callK Pr f_law0_Num [v_11] w18 fun v_29 w19 =>
 asI .i64 v_29 fun t95 =>
 iteP (decide (t95 = t62_1))
 (callK Pr f_law0_SameInts [.slice t69.a t69.n t69.c, .slice t76.a t76.n t76.c] w19 fun v_30 w20 =>
 asB v_30 fun t102 =>
 iteP t102
 (callK Pr f_law0_Num [v_17] w20 fun v_31 w21 =>
 asI .i64 v_31 fun t106 =>
 go (decide (t106 = t76_1)) w21)
 (go false w20))
 (go false w19))
 (go false w18))
 (go false w17))
 (go false w16)))))))))
theorem V_law6_DrawTells_eq (seed : SlV) (b : SlV) (eta : Int) (i : Int) (j : Int) (w : World) (R : Value → World → Prop) : evF Pr ⟨true, true⟩ [(11, [(25, .bool)])] [] Tryd.f4 [.slice seed.a seed.n seed.c, .slice b.a b.n b.c, .int .i64 eta, .int .u8 i, .int .u8 j] w R = V_law6_DrawTells seed b eta i j w R := by kernel_rfl
theorem V_law6_DrawTells_of {seed : SlV} {b : SlV} {eta : Int} {i : Int} {j : Int} {w : World} {R : Value → World → Prop} (h : V_law6_DrawTells seed b eta i j w R) : Ok Pr f_law6_DrawTells [.slice seed.a seed.n seed.c, .slice b.a b.n b.c, .int .i64 eta, .int .u8 i, .int .u8 j] w R :=
  have g := (V_law6_DrawTells_eq seed b eta i j w R).mpr h
  evF_ok good Tryd.func4 (by kernel_rfl) g

def V_law6_DrawSeeds (eta : Int) (b : SlV) (n : Int) (i : Int) (w : World) (R : Value → World → Prop) : Prop :=
 iteP (decide ((300:Int) < ((b.n : Nat) : Int)))
 (callK Pr f_law6_awake [] w fun v w1 =>
 asB v fun t22 =>
 R (.bool t22) w1)
 (callK Pr f_law0_Low [.int .i64 eta, .int .i64 (2:Int)] w fun v_1 w2 =>
 asI .i64 v_1 fun t24 =>
 (I64 ((2:Int) + t24) ∧
 mkSl Pr t_uint8 (32:Int) (32:Int) w2 fun t26 w3 =>
 loop1 (fun (kv : Int) => [(10, some (.int .i64 kv))])
 (fun again kv w4 => iteP ((decide (kv < (32:Int))) && (decide ((0:Int) < ((b.n : Nat) : Int))))
 (pos ((b.n : Nat) : Int) ((0 ≤ kv ∧
 idxS b.a (kv % ((b.n : Nat) : Int)) b.n
 (ldI .u8 (Addr.add (base b.a) (Int.toNat (kv % ((b.n : Nat) : Int)) * 1)) w4 fun t44 =>
 idxS t26.a kv t26.n
 (st (Addr.add (base t26.a) (Int.toNat kv * 1)) (.int .u8 (IntKind.wrap .u8 (t44 + (IntKind.wrap .u8 (kv))))) w4 fun w5 =>
 (I64 (kv + (1:Int)) ∧
 again (kv + (1:Int)) w5))))))
 (callK Pr f_draw_From [.int .i64 ((2:Int) + t24), .slice t26.a t26.n t26.c, .int .u8 n] w4 fun v_2 w6 =>
 destr.asArr' v_2 fun vs =>
 uncons vs fun v_3 r =>
 asSl v_3 fun t53 =>
 uncons r fun v_4 r_1 =>
 (r_1 = [] ∧
 (I64 ((64:Int) * ((2:Int) + t24)) ∧
 nw t_uint8 [.int .u8 n] w6 fun p w7 =>
 nw t_s_uint8 [.slice t26.a t26.n t26.c, .slice (some p) 1 1] w7 fun p_1 w8 =>
 callK Pr f_sponge_Shake256 [.int .i64 ((64:Int) * ((2:Int) + t24)), .slice (some p_1) 2 2] w8 fun v_5 w9 =>
 asSl v_5 fun t64 =>
 callK Pr f_draw_Lean [.int .i64 ((2:Int) + t24), .slice t64.a t64.n t64.c] w9 fun v_6 w10 =>
 destr.asArr' v_6 fun vs_1 =>
 uncons vs_1 fun v_7 r_2 =>
 asSl v_7 fun t65 =>
 uncons r_2 fun v_8 r_3 =>
 (r_3 = [] ∧
 callK Pr f_draw_Even [.slice t26.a t26.n t26.c, .int .u8 n, .int .u8 i] w10 fun v_9 w11 =>
 destr.asArr' v_9 fun vs_2 =>
 uncons vs_2 fun v_10 r_4 =>
 asSl v_10 fun t72 =>
 uncons r_4 fun v_11 r_5 =>
 (r_5 = [] ∧
 callK Pr f_draw_Even [.slice t26.a t26.n t26.c, .int .u8 n, .int .u8 i] w11 fun v_12 w12 =>
 destr.asArr' v_12 fun vs_3 =>
 uncons vs_3 fun v_13 r_6 =>
 asSl v_13 fun t79 =>
 uncons r_6 fun v_14 r_7 =>
 (r_7 = [] ∧
 ifaceNil v_4 fun nil =>
 iteP nil
 (ifaceNil v_8 fun nil_1 =>
 iteP nil_1
 (ifaceNil v_11 fun nil_2 =>
 iteP nil_2
 (ifaceNil v_14 fun nil_3 =>
 iteP (nil_3 && (decide (((t53.n : Nat) : Int) = (256:Int))))
 (callK Pr f_law0_SameInts [.slice t53.a t53.n t53.c, .slice t65.a t65.n t65.c] w12 fun v_15 w13 =>
 asB v_15 fun t104 =>
 iteP t104
 (callK Pr f_poly_May [.slice t53.a t53.n t53.c] w13 fun v_16 w14 =>
 asB v_16 fun t108 =>
 iteP t108
 (callK Pr f_poly_May [.slice t72.a t72.n t72.c] w14 fun v_17 w15 =>
 asB v_17 fun t112 =>
 iteP t112
 (callK Pr f_law0_SameInts [.slice t72.a t72.n t72.c, .slice t79.a t79.n t79.c] w15 fun v_18 w16 =>
 asB v_18 fun t117 =>
 iteP t117
 (callK Pr f_law6_awake [] w16 fun v_19 w17 =>
 asB v_19 fun t120 =>
 R (.bool t120) w17)
 (R (.bool false) w16))
 (R (.bool false) w15))
 (R (.bool false) w14))
 (R (.bool false) w13))
 (R (.bool false) w12))
 (R (.bool false) w12))
 (R (.bool false) w12))
 (R (.bool false) w12))))))))
 (0:Int) w3))
theorem V_law6_DrawSeeds_eq (eta : Int) (b : SlV) (n : Int) (i : Int) (w : World) (R : Value → World → Prop) : evF Pr ⟨true, true⟩ [] [(6, [(10, .int .i64)])] Tryd.f8 [.int .i64 eta, .slice b.a b.n b.c, .int .u8 n, .int .u8 i] w R = V_law6_DrawSeeds eta b n i w R := by kernel_rfl
theorem V_law6_DrawSeeds_of {eta : Int} {b : SlV} {n : Int} {i : Int} {w : World} {R : Value → World → Prop} (h : V_law6_DrawSeeds eta b n i w R) : Ok Pr f_law6_DrawSeeds [.int .i64 eta, .slice b.a b.n b.c, .int .u8 n, .int .u8 i] w R :=
  have g := (V_law6_DrawSeeds_eq eta b n i w R).mpr h
  evF_ok good Tryd.func8 (by kernel_rfl) g

def V_law0_Low (x : Int) (n : Int) (w : World) (R : Value → World → Prop) : Prop :=
 pos (IntKind.wrap .u64 (n)) ((0 ≤ IntKind.wrap .u64 (x) ∧
 (I64 ((IntKind.wrap .u64 (x)) % (IntKind.wrap .u64 (n))) ∧
 R (.int .i64 ((IntKind.wrap .u64 (x)) % (IntKind.wrap .u64 (n)))) w)))
theorem V_law0_Low_eq (x : Int) (n : Int) (w : World) (R : Value → World → Prop) : evF Pr ⟨true, true⟩ [] [] Tryd.f12 [.int .i64 x, .int .i64 n] w R = V_law0_Low x n w R := by kernel_rfl
theorem V_law0_Low_of {x : Int} {n : Int} {w : World} {R : Value → World → Prop} (h : V_law0_Low x n w R) : Ok Pr f_law0_Low [.int .i64 x, .int .i64 n] w R :=
  have g := (V_law0_Low_eq x n w R).mpr h
  evF_ok good Tryd.func12 (by kernel_rfl) g

def V_law6_awake (w : World) (R : Value → World → Prop) : Prop :=
 mkSl Pr t_uint8 (128:Int) (128:Int) w fun t6 w1 =>
 callK Pr f_draw_Lean [.int .i64 (2:Int), .slice t6.a t6.n t6.c] w1 fun v w2 =>
 destr.asArr' v fun vs =>
 uncons vs fun v_1 r =>
 asSl v_1 fun t7 =>
 uncons r fun v_2 r_1 =>
 (r_1 = [] ∧
 callK Pr f_draw_Even [.slice none 0 0, .int .u8 (0:Int), .int .u8 (0:Int)] w2 fun v_3 w3 =>
 destr.asArr' v_3 fun vs_1 =>
 uncons vs_1 fun v_4 r_2 =>
 asSl v_4 fun t11 =>
 uncons r_2 fun v_5 r_3 =>
 (r_3 = [] ∧
 mkSl Pr t_int (256:Int) (256:Int) w3 fun t15 w4 =>
 callK Pr f_law0_SameInts [.slice t7.a t7.n t7.c, .slice t15.a t15.n t15.c] w4 fun v_6 w5 =>
 asB v_6 fun t16 =>
 iteP t16
 (ifaceNil v_2 fun nil =>
 iteP nil
 (callK Pr f_law0_Num [v_5] w5 fun v_7 w6 =>
 asI .i64 v_7 fun t23 =>
 R (.bool (decide (t23 = (3:Int)))) w6)
 (R (.bool false) w5))
 (R (.bool false) w5)))
theorem V_law6_awake_eq (w : World) (R : Value → World → Prop) : evF Pr ⟨true, true⟩ [] [] Tryd.f13 [] w R = V_law6_awake w R := by kernel_rfl
theorem V_law6_awake_of {w : World} {R : Value → World → Prop} (h : V_law6_awake w R) : Ok Pr f_law6_awake [] w R :=
  have g := (V_law6_awake_eq w R).mpr h
  evF_ok good Tryd.func13 (by kernel_rfl) g

def V_draw_Lean (eta : Int) (b : SlV) (w : World) (R : Value → World → Prop) : Prop :=
 iteP ((!decide (eta = (2:Int))) && (!decide (eta = (3:Int))))
 (callK Pr f_draw_fault [.int .i64 (2:Int)] w fun v w1 =>
 R (.tuple ⟨[.slice none 0 0, v]⟩) w1)
 ((I64 ((64:Int) * eta) ∧
 iteP (!decide (((b.n : Nat) : Int) = (64:Int) * eta))
 (callK Pr f_draw_fault [.int .i64 (3:Int)] w fun v_1 w2 =>
 R (.tuple ⟨[.slice none 0 0, v_1]⟩) w2)
 (mkSl Pr t_int (256:Int) (256:Int) w fun t25 w3 =>
 callK Pr f_bits_Unpack [.int .i64 (1:Int), .slice b.a b.n b.c] w3 fun v_2 w4 =>
 asSl v_2 fun t27 =>
 loop1 (fun (t29 : Int) => [(29, some (.int .i64 t29))])
 (fun again t29 w5 => iteP (decide (t29 < ((t27.n : Nat) : Int)))
 (idxS t27.a t29 t27.n
 (ldI .i64 (Addr.add (base t27.a) (Int.toNat t29 * 1)) w5 fun t33 =>
 (I64 ((2:Int) * eta) ∧
 pos ((2:Int) * eta) (((0 ≤ t29 ∧ t29 ≤ IntKind.max .i64) ∧
 join1 (fun (bit : Int) => [(8, some (.int .i64 bit))])
 (fun bit w6 => idxS t25.a (t29 / ((2:Int) * eta)) t25.n
 (ldI .i64 (Addr.add (base t25.a) (Int.toNat (t29 / ((2:Int) * eta)) * 1)) w6 fun t51 =>
 (I64 (t51 + bit) ∧
 (0 ≤ t51 + bit ∧
 idxS t25.a (t29 / ((2:Int) * eta)) t25.n
 (st (Addr.add (base t25.a) (Int.toNat (t29 / ((2:Int) * eta)) * 1)) (.int .i64 ((t51 + bit) % (3329:Int))) w6 fun w7 =>
 (I64 (t29 + (1:Int)) ∧
 again (t29 + (1:Int)) w7))))))
 (fun go =>
 (I64 ((2:Int) * eta) ∧
 pos ((2:Int) * eta) ((0 ≤ t29 ∧
 iteP (decide (eta ≤ t29 % ((2:Int) * eta)))
 ((I64 ((3329:Int) - t33) ∧
 go ((3329:Int) - t33) w5))
 (go t33 w5))))))))))
 (R (.tuple ⟨[.slice t25.a t25.n t25.c, .nilIface]⟩) w5))
 (0:Int) w4)))
theorem V_draw_Lean_eq (eta : Int) (b : SlV) (w : World) (R : Value → World → Prop) : evF Pr ⟨true, true⟩ [(12, [(8, .int .i64)])] [(7, [(29, .int .i64)])] Tryd.f14 [.int .i64 eta, .slice b.a b.n b.c] w R = V_draw_Lean eta b w R := by kernel_rfl
theorem V_draw_Lean_of {eta : Int} {b : SlV} {w : World} {R : Value → World → Prop} (h : V_draw_Lean eta b w R) : Ok Pr f_draw_Lean [.int .i64 eta, .slice b.a b.n b.c] w R :=
  have g := (V_draw_Lean_eq eta b w R).mpr h
  evF_ok good Tryd.func14 (by kernel_rfl) g

def V_law0_LendBytes (l : SlV) (w : World) (R : Value → World → Prop) : Prop :=
 (I64 (((l.n : Nat) : Int) + (3:Int)) ∧
 mkSl Pr t_uint8 (0:Int) (((l.n : Nat) : Int) + (3:Int)) w fun t9 w1 =>
 appK Pr [t_s_uint8, t_s_uint8] t_s_uint8 [.slice t9.a t9.n t9.c, .slice l.a l.n l.c] w1 fun t12 w2 =>
 (I64 (((l.n : Nat) : Int) + (3:Int)) ∧
 slLH 1 t12 ((l.n : Nat) : Int) (((l.n : Nat) : Int) + (3:Int)) fun t19 =>
 loop1 (fun (i : Int) => [(5, some (.int .i64 i))])
 (fun again i w3 => iteP (decide (i < (3:Int)))
 (idxS t19.a i t19.n
 (st (Addr.add (base t19.a) (Int.toNat i * 1)) (.int .u8 (119:Int)) w3 fun w4 =>
 (I64 (i + (1:Int)) ∧
 again (i + (1:Int)) w4)))
 (R (.slice t12.a t12.n t12.c) w3))
 (0:Int) w2))
theorem V_law0_LendBytes_eq (l : SlV) (w : World) (R : Value → World → Prop) : evF Pr ⟨true, true⟩ [] [(5, [(5, .int .i64)])] Tryd.f15 [.slice l.a l.n l.c] w R = V_law0_LendBytes l w R := by kernel_rfl
theorem V_law0_LendBytes_of {l : SlV} {w : World} {R : Value → World → Prop} (h : V_law0_LendBytes l w R) : Ok Pr f_law0_LendBytes [.slice l.a l.n l.c] w R :=
  have g := (V_law0_LendBytes_eq l w R).mpr h
  evF_ok good Tryd.func15 (by kernel_rfl) g

def V_draw_Even (seed : SlV) (i : Int) (j : Int) (w : World) (R : Value → World → Prop) : Prop :=
 iteP (!decide (((seed.n : Nat) : Int) = (32:Int)))
 (callK Pr f_draw_fault [.int .i64 (3:Int)] w fun v w1 =>
 R (.tuple ⟨[.slice none 0 0, v]⟩) w1)
 (callK Pr f_sponge_New [.int .i64 (168:Int), .int .u8 (31:Int)] w fun v_1 w2 =>
 asP v_1 fun t17 =>
 nw t_uint8 [.int .u8 i, .int .u8 j] w2 fun p w3 =>
 nw t_s_uint8 [.slice seed.a seed.n seed.c, .slice (some p) 2 2] w3 fun p_1 w4 =>
 callK Pr f_sponge_Sponge_Write [.pointer t17, .slice (some p_1) 2 2] w4 fun v_2 w5 =>
 mkSl Pr t_int (0:Int) (256:Int) w5 fun t25 w6 =>
 loop2 (fun (out : SlV) (got : Int) => [(9, some (.slice out.a out.n out.c)), (10, some (.int .i64 got))])
 (fun again out got w7 => iteP ((decide (got < (4096:Int))) && (decide (((out.n : Nat) : Int) < (256:Int))))
 (callK Pr f_sponge_Sponge_Read [.pointer t17, .int .i64 (3:Int)] w7 fun v_3 w8 =>
 asSl v_3 fun t36 =>
 callK Pr f_bits_Unpack [.int .i64 (12:Int), .slice t36.a t36.n t36.c] w8 fun v_4 w9 =>
 asSl v_4 fun t37 =>
 loop2 (fun (out_1 : SlV) (t39 : Int) => [(9, some (.slice out_1.a out_1.n out_1.c)), (39, some (.int .i64 t39))])
 (fun again_1 out_1 t39 w10 => iteP (decide (t39 < ((t37.n : Nat) : Int)))
 (idxS t37.a t39 t37.n
 (ldI .i64 (Addr.add (base t37.a) (Int.toNat t39 * 1)) w10 fun t42 =>
 iteP ((decide (t42 < (3329:Int))) && (decide (((out_1.n : Nat) : Int) < (256:Int))))
 (nw t_int [.int .i64 t42] w10 fun p_2 w11 =>
 appK Pr [t_s_int, t_s_int] t_s_int [.slice out_1.a out_1.n out_1.c, .slice (some p_2) 1 1] w11 fun t53 w12 =>
 (I64 (t39 + (1:Int)) ∧
 again_1 t53 (t39 + (1:Int)) w12))
 ((I64 (t39 + (1:Int)) ∧
 again_1 out_1 (t39 + (1:Int)) w10))))
 ((I64 (got + (3:Int)) ∧
 again out_1 (got + (3:Int)) w10)))
 out (0:Int) w9)
 ((I64 ((256:Int) - ((out.n : Nat) : Int)) ∧
 appK Pr [t_s_int, t_int] t_s_int [.slice out.a out.n out.c, .int .i64 ((256:Int) - ((out.n : Nat) : Int))] w7 fun t59 w13 =>
 R (.tuple ⟨[.slice t59.a t59.n t59.c, .nilIface]⟩) w13)))
 t25 (3:Int) w6)
theorem V_draw_Even_eq (seed : SlV) (i : Int) (j : Int) (w : World) (R : Value → World → Prop) : evF Pr ⟨true, true⟩ [] [(7, [(9, .sl), (10, .int .i64)]), (10, [(9, .sl), (39, .int .i64)])] Tryd.f16 [.slice seed.a seed.n seed.c, .int .u8 i, .int .u8 j] w R = V_draw_Even seed i j w R := by kernel_rfl
theorem V_draw_Even_of {seed : SlV} {i : Int} {j : Int} {w : World} {R : Value → World → Prop} (h : V_draw_Even seed i j w R) : Ok Pr f_draw_Even [.slice seed.a seed.n seed.c, .int .u8 i, .int .u8 j] w R :=
  have g := (V_draw_Even_eq seed i j w R).mpr h
  evF_ok good Tryd.func16 (by kernel_rfl) g

def V_ref6_Even (seed : SlV) (i : Int) (j : Int) (w : World) (R : Value → World → Prop) : Prop :=
 iteP (!decide (((seed.n : Nat) : Int) = (32:Int)))
 (R (.tuple ⟨[.slice none 0 0, .int .i64 (3:Int)]⟩) w)
 (appK Pr [t_s_uint8, t_s_uint8] t_s_uint8 [.slice none 0 0, .slice seed.a seed.n seed.c] w fun t14 w1 =>
 nw t_uint8 [.int .u8 i, .int .u8 j] w1 fun p w2 =>
 appK Pr [t_s_uint8, t_s_uint8] t_s_uint8 [.slice t14.a t14.n t14.c, .slice (some p) 2 2] w2 fun t18 w3 =>
 callK Pr f_ref2_Shake128 [.int .i64 (840:Int), .slice t18.a t18.n t18.c] w3 fun v w4 =>
 asSl v fun t19 =>
 callK Pr f_ref6_even [.slice t19.a t19.n t19.c] w4 fun v_1 w5 =>
 asSl v_1 fun t21 =>
 join1 (fun (out : SlV) => [(9, some (.slice out.a out.n out.c))])
 (fun out w6 => loop1 (fun (out_1 : SlV) => [(9, some (.slice out_1.a out_1.n out_1.c))])
 (fun again out_1 w7 => iteP (decide (((out_1.n : Nat) : Int) < (256:Int)))
 (nw t_int [.int .i64 (0:Int)] w7 fun p_1 w8 =>
 appK Pr [t_s_int, t_s_int] t_s_int [.slice out_1.a out_1.n out_1.c, .slice (some p_1) 1 1] w8 fun t38 w9 =>
 again t38 w9)
 (R (.tuple ⟨[.slice out_1.a out_1.n out_1.c, .int .i64 (0:Int)]⟩) w7))
 out w6)
 (fun go =>
 iteP (decide (((t21.n : Nat) : Int) < (256:Int)))
 (appK Pr [t_s_uint8, t_s_uint8] t_s_uint8 [.slice none 0 0, .slice seed.a seed.n seed.c] w5 fun t26 w10 =>
 nw t_uint8 [.int .u8 i, .int .u8 j] w10 fun p_2 w11 =>
 appK Pr [t_s_uint8, t_s_uint8] t_s_uint8 [.slice t26.a t26.n t26.c, .slice (some p_2) 2 2] w11 fun t30 w12 =>
 callK Pr f_ref2_Shake128 [.int .i64 (4095:Int), .slice t30.a t30.n t30.c] w12 fun v_2 w13 =>
 asSl v_2 fun t31 =>
 callK Pr f_ref6_even [.slice t31.a t31.n t31.c] w13 fun v_3 w14 =>
 asSl v_3 fun t32 =>
 go t32 w14)
 (go t21 w5)))
theorem V_ref6_Even_eq (seed : SlV) (i : Int) (j : Int) (w : World) (R : Value → World → Prop) : evF Pr ⟨true, true⟩ [(7, [(9, .sl)])] [(7, [(9, .sl)])] Tryd.f17 [.slice seed.a seed.n seed.c, .int .u8 i, .int .u8 j] w R = V_ref6_Even seed i j w R := by kernel_rfl
theorem V_ref6_Even_of {seed : SlV} {i : Int} {j : Int} {w : World} {R : Value → World → Prop} (h : V_ref6_Even seed i j w R) : Ok Pr f_ref6_Even [.slice seed.a seed.n seed.c, .int .u8 i, .int .u8 j] w R :=
  have g := (V_ref6_Even_eq seed i j w R).mpr h
  evF_ok good Tryd.func17 (by kernel_rfl) g

def V_ref6_Lean (eta : Int) (b : SlV) (w : World) (R : Value → World → Prop) : Prop :=
 iteP ((!decide (eta = (2:Int))) && (!decide (eta = (3:Int))))
 (R (.tuple ⟨[.slice none 0 0, .int .i64 (2:Int)]⟩) w)
 ((I64 ((64:Int) * eta) ∧
 iteP (!decide (((b.n : Nat) : Int) = (64:Int) * eta))
 (R (.tuple ⟨[.slice none 0 0, .int .i64 (3:Int)]⟩) w)
 (loop2 (fun (out : SlV) (i : Int) => [(6, some (.slice out.a out.n out.c)), (7, some (.int .i64 i))])
 (fun again out i w1 => iteP (decide (i < (256:Int)))
 (loop2 (fun (x : Int) (kv : Int) => [(8, some (.int .i64 x)), (9, some (.int .i64 kv))])
 (fun again_1 x kv w2 => iteP (decide (kv < eta))
 ((I64 ((2:Int) * i) ∧
 (I64 (((2:Int) * i) * eta) ∧
 (I64 ((((2:Int) * i) * eta) + kv) ∧
 callK Pr f_ref5_Bit [.slice b.a b.n b.c, .int .i64 ((((2:Int) * i) * eta) + kv)] w2 fun v w3 =>
 asI .i64 v fun t38 =>
 (I64 (x + t38) ∧
 (I64 ((2:Int) * i) ∧
 (I64 (((2:Int) * i) * eta) ∧
 (I64 ((((2:Int) * i) * eta) + eta) ∧
 (I64 (((((2:Int) * i) * eta) + eta) + kv) ∧
 callK Pr f_ref5_Bit [.slice b.a b.n b.c, .int .i64 (((((2:Int) * i) * eta) + eta) + kv)] w3 fun v_1 w4 =>
 asI .i64 v_1 fun t49 =>
 (I64 ((x + t38) - t49) ∧
 (I64 (kv + (1:Int)) ∧
 again_1 ((x + t38) - t49) (kv + (1:Int)) w4)))))))))))
 ((I64 (x + (3329:Int)) ∧
 (0 ≤ x + (3329:Int) ∧
 nw t_int [.int .i64 ((x + (3329:Int)) % (3329:Int))] w2 fun p w5 =>
 appK Pr [t_s_int, t_s_int] t_s_int [.slice out.a out.n out.c, .slice (some p) 1 1] w5 fun t56 w6 =>
 (I64 (i + (1:Int)) ∧
 again t56 (i + (1:Int)) w6)))))
 (0:Int) (0:Int) w1)
 (R (.tuple ⟨[.slice out.a out.n out.c, .int .i64 (0:Int)]⟩) w1))
 ⟨none, 0, 0⟩ (0:Int) w)))
theorem V_ref6_Lean_eq (eta : Int) (b : SlV) (w : World) (R : Value → World → Prop) : evF Pr ⟨true, true⟩ [] [(7, [(6, .sl), (7, .int .i64)]), (11, [(8, .int .i64), (9, .int .i64)])] Tryd.f18 [.int .i64 eta, .slice b.a b.n b.c] w R = V_ref6_Lean eta b w R := by kernel_rfl
theorem V_ref6_Lean_of {eta : Int} {b : SlV} {w : World} {R : Value → World → Prop} (h : V_ref6_Lean eta b w R) : Ok Pr f_ref6_Lean [.int .i64 eta, .slice b.a b.n b.c] w R :=
  have g := (V_ref6_Lean_eq eta b w R).mpr h
  evF_ok good Tryd.func18 (by kernel_rfl) g

def V_draw_From (eta : Int) (seed : SlV) (n : Int) (w : World) (R : Value → World → Prop) : Prop :=
 iteP ((!decide (eta = (2:Int))) && (!decide (eta = (3:Int))))
 (callK Pr f_draw_fault [.int .i64 (2:Int)] w fun v w1 =>
 R (.tuple ⟨[.slice none 0 0, v]⟩) w1)
 (iteP (!decide (((seed.n : Nat) : Int) = (32:Int)))
 (callK Pr f_draw_fault [.int .i64 (3:Int)] w fun v_1 w2 =>
 R (.tuple ⟨[.slice none 0 0, v_1]⟩) w2)
 ((I64 ((64:Int) * eta) ∧
 nw t_uint8 [.int .u8 n] w fun p w3 =>
 nw t_s_uint8 [.slice seed.a seed.n seed.c, .slice (some p) 1 1] w3 fun p_1 w4 =>
 callK Pr f_sponge_Shake256 [.int .i64 ((64:Int) * eta), .slice (some p_1) 2 2] w4 fun v_2 w5 =>
 asSl v_2 fun t26 =>
 callK Pr f_draw_Lean [.int .i64 eta, .slice t26.a t26.n t26.c] w5 fun v_3 w6 =>
 destr.asArr' v_3 fun vs =>
 uncons vs fun v_4 r =>
 asSl v_4 fun t27 =>
 uncons r fun v_5 r_1 =>
 (r_1 = [] ∧
 R (.tuple ⟨[.slice t27.a t27.n t27.c, v_5]⟩) w6))))
theorem V_draw_From_eq (eta : Int) (seed : SlV) (n : Int) (w : World) (R : Value → World → Prop) : evF Pr ⟨true, true⟩ [] [] Tryd.f19 [.int .i64 eta, .slice seed.a seed.n seed.c, .int .u8 n] w R = V_draw_From eta seed n w R := by kernel_rfl
theorem V_draw_From_of {eta : Int} {seed : SlV} {n : Int} {w : World} {R : Value → World → Prop} (h : V_draw_From eta seed n w R) : Ok Pr f_draw_From [.int .i64 eta, .slice seed.a seed.n seed.c, .int .u8 n] w R :=
  have g := (V_draw_From_eq eta seed n w R).mpr h
  evF_ok good Tryd.func19 (by kernel_rfl) g

def V_ref6_From (eta : Int) (seed : SlV) (n : Int) (w : World) (R : Value → World → Prop) : Prop :=
 iteP ((!decide (eta = (2:Int))) && (!decide (eta = (3:Int))))
 (R (.tuple ⟨[.slice none 0 0, .int .i64 (2:Int)]⟩) w)
 (iteP (!decide (((seed.n : Nat) : Int) = (32:Int)))
 (R (.tuple ⟨[.slice none 0 0, .int .i64 (3:Int)]⟩) w)
 ((I64 ((64:Int) * eta) ∧
 appK Pr [t_s_uint8, t_s_uint8] t_s_uint8 [.slice none 0 0, .slice seed.a seed.n seed.c] w fun t21 w1 =>
 nw t_uint8 [.int .u8 n] w1 fun p w2 =>
 appK Pr [t_s_uint8, t_s_uint8] t_s_uint8 [.slice t21.a t21.n t21.c, .slice (some p) 1 1] w2 fun t24 w3 =>
 callK Pr f_ref2_Shake256 [.int .i64 ((64:Int) * eta), .slice t24.a t24.n t24.c] w3 fun v w4 =>
 asSl v fun t25 =>
 callK Pr f_ref6_Lean [.int .i64 eta, .slice t25.a t25.n t25.c] w4 fun v_1 w5 =>
 destr.asArr' v_1 fun vs =>
 uncons vs fun v_2 r =>
 asSl v_2 fun t26 =>
 uncons r fun v_3 r_1 =>
 asI .i64 v_3 fun t26_1 =>
 (r_1 = [] ∧
 R (.tuple ⟨[.slice t26.a t26.n t26.c, .int .i64 t26_1]⟩) w5))))
theorem V_ref6_From_eq (eta : Int) (seed : SlV) (n : Int) (w : World) (R : Value → World → Prop) : evF Pr ⟨true, true⟩ [] [] Tryd.f20 [.int .i64 eta, .slice seed.a seed.n seed.c, .int .u8 n] w R = V_ref6_From eta seed n w R := by kernel_rfl
theorem V_ref6_From_of {eta : Int} {seed : SlV} {n : Int} {w : World} {R : Value → World → Prop} (h : V_ref6_From eta seed n w R) : Ok Pr f_ref6_From [.int .i64 eta, .slice seed.a seed.n seed.c, .int .u8 n] w R :=
  have g := (V_ref6_From_eq eta seed n w R).mpr h
  evF_ok good Tryd.func20 (by kernel_rfl) g

def V_law0_SameInts (a : SlV) (b : SlV) (w : World) (R : Value → World → Prop) : Prop :=
 iteP (!decide (((a.n : Nat) : Int) = ((b.n : Nat) : Int)))
 (R (.bool false) w)
 (loop1 (fun (i : Int) => [(5, some (.int .i64 i))])
 (fun again i w1 => iteP (decide (i < ((a.n : Nat) : Int)))
 (idxS a.a i a.n
 (ldI .i64 (Addr.add (base a.a) (Int.toNat i * 1)) (World.drew w1) fun t20 =>
 idxS b.a i b.n
 (ldI .i64 (Addr.add (base b.a) (Int.toNat i * 1)) (World.drew w1) fun t24 =>
 iteP (!decide (t20 = t24))
 (R (.bool false) (World.drew w1))
 ((I64 (i + (1:Int)) ∧
 again (i + (1:Int)) (World.drew w1))))))
 (R (.bool true) w1))
 (0:Int) w)
theorem V_law0_SameInts_eq (a : SlV) (b : SlV) (w : World) (R : Value → World → Prop) : evF Pr ⟨true, true⟩ [] [(4, [(5, .int .i64)])] Tryd.f21 [.slice a.a a.n a.c, .slice b.a b.n b.c] w R = V_law0_SameInts a b w R := by kernel_rfl
theorem V_law0_SameInts_of {a : SlV} {b : SlV} {w : World} {R : Value → World → Prop} (h : V_law0_SameInts a b w R) : Ok Pr f_law0_SameInts [.slice a.a a.n a.c, .slice b.a b.n b.c] w R :=
  have g := (V_law0_SameInts_eq a b w R).mpr h
  evF_ok good Tryd.func21 (by kernel_rfl) g

def V_law0_Num (e : Value) (w : World) (R : Value → World → Prop) : Prop :=
 ifaceNil e fun nil =>
 iteP nil
 (R (.int .i64 (0:Int)) w)
 (nw t_p_api_Fault (zc Pr t_p_api_Fault) w fun p w1 =>
 join0 []
 (fun w2 => ldP p w2 fun t40 =>
 nilchk t40 fun a =>
 ldI .i64 (Addr.add a 0) w2 fun t43 =>
 R (.int .i64 t43) w2)
 (fun go =>
 callK Pr f_errors_As [e, .iface t_p_p_api_Fault (.pointer (some p))] (World.drew w1) fun v w3 =>
 asB v fun t8 =>
 ldP p w3 fun t11 =>
 ldP p w3 fun t15 =>
 iteP ((!t8) || (Option.isNone (α := Addr) t11))
 (ldP p w3 fun t23 =>
 ldP p w3 fun t34 =>
 (kept p 1 w3 w3 ∧
 R (.int .i64 (-1:Int)) w3))
 (nilchk t15 fun a_1 =>
 ldI .i64 (Addr.add a_1 0) w3 fun t18 =>
 ldP p w3 fun t23_1 =>
 iteP (decide (t18 = (0:Int)))
 (ldP p w3 fun t34_1 =>
 (kept p 1 w3 w3 ∧
 R (.int .i64 (-1:Int)) w3))
 (nilchk t23_1 fun a_2 =>
 ldI .i64 (Addr.add a_2 0) w3 fun t26 =>
 callK Pr f_errors_Is [e, .iface t_api_Errno (.int .i64 t26)] w3 fun v_1 w4 =>
 asB v_1 fun t28 =>
 ldP p w4 fun t34_2 =>
 iteP (!t28)
 ((kept p 1 w4 w4 ∧
 R (.int .i64 (-1:Int)) w4))
 (nilchk t34_2 fun a_3 =>
 ldI .i64 (Addr.add a_3 0) w4 fun t37 =>
 callK Pr f_api_Code [e] w4 fun v_2 w5 =>
 asI .i64 v_2 fun t33 =>
 (kept (Addr.add a_3 0) 1 w4 w5 ∧
 (kept p 1 w4 w5 ∧
 iteP (!decide (t33 = t37))
 (R (.int .i64 (-1:Int)) w5)
 (go w5))))))))
theorem V_law0_Num_eq (e : Value) (w : World) (R : Value → World → Prop) : evF Pr ⟨true, true⟩ [(6, [])] [] Tryd.f22 [e] w R = V_law0_Num e w R := by kernel_rfl
theorem V_law0_Num_of {e : Value} {w : World} {R : Value → World → Prop} (h : V_law0_Num e w R) : Ok Pr f_law0_Num [e] w R :=
  have g := (V_law0_Num_eq e w R).mpr h
  evF_ok good Tryd.func22 (by kernel_rfl) g

def V_law0_OverInts (l : SlV) (w : World) (R : Value → World → Prop) : Prop :=
 loop1 (fun (i : Int) => [(2, some (.int .i64 i))])
 (fun again i w1 => iteP (decide (i < ((l.n : Nat) : Int)))
 (idxS l.a i l.n
 (st (Addr.add (base l.a) (Int.toNat i * 1)) (.int .i64 (-999:Int)) w1 fun w2 =>
 (I64 (i + (1:Int)) ∧
 again (i + (1:Int)) w2)))
 (nw t_int [.int .i64 (-999:Int)] w1 fun p w3 =>
 appK Pr [t_s_int, t_s_int] t_s_int [.slice l.a l.n l.c, .slice (some p) 1 1] w3 fun t14 w4 =>
 R (.tuple ⟨[]⟩) w4))
 (0:Int) w
theorem V_law0_OverInts_eq (l : SlV) (w : World) (R : Value → World → Prop) : evF Pr ⟨true, true⟩ [] [(1, [(2, .int .i64)])] Tryd.f23 [.slice l.a l.n l.c] w R = V_law0_OverInts l w R := by kernel_rfl
theorem V_law0_OverInts_of {l : SlV} {w : World} {R : Value → World → Prop} (h : V_law0_OverInts l w R) : Ok Pr f_law0_OverInts [.slice l.a l.n l.c] w R :=
  have g := (V_law0_OverInts_eq l w R).mpr h
  evF_ok good Tryd.func23 (by kernel_rfl) g

def V_law0_KeptBytes (lent : SlV) (l : SlV) (w : World) (R : Value → World → Prop) : Prop :=
 (I64 (((lent.n : Nat) : Int) + (3:Int)) ∧
 slLH 1 lent ((lent.n : Nat) : Int) (((lent.n : Nat) : Int) + (3:Int)) fun t13 =>
 loop1 (fun (i : Int) => [(6, some (.int .i64 i))])
 (fun again i w1 => iteP (decide (i < (3:Int)))
 (idxS t13.a i t13.n
 (ldI .u8 (Addr.add (base t13.a) (Int.toNat i * 1)) w1 fun t21 =>
 iteP (!decide (t21 = (119:Int)))
 (R (.bool false) w1)
 ((I64 (i + (1:Int)) ∧
 again (i + (1:Int)) w1))))
 (callK Pr f_law0_SameBytes [.slice lent.a lent.n lent.c, .slice l.a l.n l.c] w1 fun v w2 =>
 asB v fun t25 =>
 R (.bool t25) w2))
 (0:Int) w)
theorem V_law0_KeptBytes_eq (lent : SlV) (l : SlV) (w : World) (R : Value → World → Prop) : evF Pr ⟨true, true⟩ [] [(3, [(6, .int .i64)])] Tryd.f24 [.slice lent.a lent.n lent.c, .slice l.a l.n l.c] w R = V_law0_KeptBytes lent l w R := by kernel_rfl
theorem V_law0_KeptBytes_of {lent : SlV} {l : SlV} {w : World} {R : Value → World → Prop} (h : V_law0_KeptBytes lent l w R) : Ok Pr f_law0_KeptBytes [.slice lent.a lent.n lent.c, .slice l.a l.n l.c] w R :=
  have g := (V_law0_KeptBytes_eq lent l w R).mpr h
  evF_ok good Tryd.func24 (by kernel_rfl) g

def V_law0_SameBytes (a : SlV) (b : SlV) (w : World) (R : Value → World → Prop) : Prop :=
 iteP (!decide (((a.n : Nat) : Int) = ((b.n : Nat) : Int)))
 (R (.bool false) w)
 (loop1 (fun (i : Int) => [(5, some (.int .i64 i))])
 (fun again i w1 => iteP (decide (i < ((a.n : Nat) : Int)))
 (idxS a.a i a.n
 (ldI .u8 (Addr.add (base a.a) (Int.toNat i * 1)) (World.drew w1) fun t20 =>
 idxS b.a i b.n
 (ldI .u8 (Addr.add (base b.a) (Int.toNat i * 1)) (World.drew w1) fun t24 =>
 iteP (!decide (t20 = t24))
 (R (.bool false) (World.drew w1))
 ((I64 (i + (1:Int)) ∧
 again (i + (1:Int)) (World.drew w1))))))
 (R (.bool true) w1))
 (0:Int) w)
theorem V_law0_SameBytes_eq (a : SlV) (b : SlV) (w : World) (R : Value → World → Prop) : evF Pr ⟨true, true⟩ [] [(4, [(5, .int .i64)])] Tryd.f29 [.slice a.a a.n a.c, .slice b.a b.n b.c] w R = V_law0_SameBytes a b w R := by kernel_rfl
theorem V_law0_SameBytes_of {a : SlV} {b : SlV} {w : World} {R : Value → World → Prop} (h : V_law0_SameBytes a b w R) : Ok Pr f_law0_SameBytes [.slice a.a a.n a.c, .slice b.a b.n b.c] w R :=
  have g := (V_law0_SameBytes_eq a b w R).mpr h
  evF_ok good Tryd.func29 (by kernel_rfl) g

def V_law0_OverBytes (l : SlV) (w : World) (R : Value → World → Prop) : Prop :=
 loop1 (fun (i : Int) => [(2, some (.int .i64 i))])
 (fun again i w1 => iteP (decide (i < ((l.n : Nat) : Int)))
 (idxS l.a i l.n
 (st (Addr.add (base l.a) (Int.toNat i * 1)) (.int .u8 (238:Int)) w1 fun w2 =>
 (I64 (i + (1:Int)) ∧
 again (i + (1:Int)) w2)))
 (nw t_uint8 [.int .u8 (238:Int)] w1 fun p w3 =>
 appK Pr [t_s_uint8, t_s_uint8] t_s_uint8 [.slice l.a l.n l.c, .slice (some p) 1 1] w3 fun t14 w4 =>
 R (.tuple ⟨[]⟩) w4))
 (0:Int) w
theorem V_law0_OverBytes_eq (l : SlV) (w : World) (R : Value → World → Prop) : evF Pr ⟨true, true⟩ [] [(1, [(2, .int .i64)])] Tryd.f37 [.slice l.a l.n l.c] w R = V_law0_OverBytes l w R := by kernel_rfl
theorem V_law0_OverBytes_of {l : SlV} {w : World} {R : Value → World → Prop} (h : V_law0_OverBytes l w R) : Ok Pr f_law0_OverBytes [.slice l.a l.n l.c] w R :=
  have g := (V_law0_OverBytes_eq l w R).mpr h
  evF_ok good Tryd.func37 (by kernel_rfl) g

def V_sponge_Shake256 (n : Int) (parts : SlV) (w : World) (R : Value → World → Prop) : Prop :=
 callK Pr f_sponge_of [.int .i64 (136:Int), .int .u8 (31:Int), .int .i64 n, .slice parts.a parts.n parts.c] w fun v w1 =>
 asSl v fun t7 =>
 R (.slice t7.a t7.n t7.c) w1
theorem V_sponge_Shake256_eq (n : Int) (parts : SlV) (w : World) (R : Value → World → Prop) : evF Pr ⟨true, true⟩ [] [] Tryd.f38 [.int .i64 n, .slice parts.a parts.n parts.c] w R = V_sponge_Shake256 n parts w R := by kernel_rfl
theorem V_sponge_Shake256_of {n : Int} {parts : SlV} {w : World} {R : Value → World → Prop} (h : V_sponge_Shake256 n parts w R) : Ok Pr f_sponge_Shake256 [.int .i64 n, .slice parts.a parts.n parts.c] w R :=
  have g := (V_sponge_Shake256_eq n parts w R).mpr h
  evF_ok good Tryd.func38 (by kernel_rfl) g

def V_poly_May (f : SlV) (w : World) (R : Value → World → Prop) : Prop :=
 iteP (decide (((f.n : Nat) : Int) = (256:Int)))
 (callK Pr f_slices_ContainsFunc_int_int [.slice f.a f.n f.c, .func (.func f_poly_May_1) ⟨[]⟩ ⟨[]⟩] w fun v w1 =>
 asB v fun t8 =>
 R (.bool (!t8)) w1)
 (R (.bool false) w)
theorem V_poly_May_eq (f : SlV) (w : World) (R : Value → World → Prop) : evF Pr ⟨true, true⟩ [] [] Tryd.f39 [.slice f.a f.n f.c] w R = V_poly_May f w R := by kernel_rfl
theorem V_poly_May_of {f : SlV} {w : World} {R : Value → World → Prop} (h : V_poly_May f w R) : Ok Pr f_poly_May [.slice f.a f.n f.c] w R :=
  have g := (V_poly_May_eq f w R).mpr h
  evF_ok good Tryd.func39 (by kernel_rfl) g

def V_draw_fault (code : Int) (w : World) (R : Value → World → Prop) : Prop :=
 nw t_api_Fault [.int .i64 code, .string S_draw] w fun p w1 =>
 R (.iface t_p_api_Fault (.pointer (some p))) w1
theorem V_draw_fault_eq (code : Int) (w : World) (R : Value → World → Prop) : evF Pr ⟨true, true⟩ [] [] Tryd.f56 [.int .i64 code] w R = V_draw_fault code w R := by kernel_rfl
theorem V_draw_fault_of {code : Int} {w : World} {R : Value → World → Prop} (h : V_draw_fault code w R) : Ok Pr f_draw_fault [.int .i64 code] w R :=
  have g := (V_draw_fault_eq code w R).mpr h
  evF_ok good Tryd.func56 (by kernel_rfl) g

def V_bits_Unpack (d : Int) (b : SlV) (w : World) (R : Value → World → Prop) : Prop :=
 iteP ((decide (d < (1:Int))) || (decide ((24:Int) < d)))
 (R (.slice none 0 0) w)
 (loop4 (fun (out : SlV) (held : Int) (n : Int) (t18 : Int) => [(5, some (.slice out.a out.n out.c)), (6, some (.int .i64 held)), (7, some (.int .i64 n)), (18, some (.int .i64 t18))])
 (fun again out held n t18 w1 => iteP (decide (t18 < ((b.n : Nat) : Int)))
 (idxS b.a t18 b.n
 (ldI .u8 (Addr.add (base b.a) (Int.toNat t18 * 1)) w1 fun t21 =>
 (I64 (t21) ∧
 cnt n (lt (A := Int) (orI .i64 held (shl .i64 t21 n)) fun held_1 =>
 (I64 (n + (8:Int)) ∧
 loop3 (fun (out_1 : SlV) (held_2 : Int) (n_1 : Int) => [(5, some (.slice out_1.a out_1.n out_1.c)), (6, some (.int .i64 held_2)), (7, some (.int .i64 n_1))])
 (fun again_1 out_1 held_2 n_1 w2 => iteP (decide (d ≤ n_1))
 (callK Pr f_bits_Low [.int .i64 d, .int .i64 held_2] w2 fun v w3 =>
 asI .i64 v fun t39 =>
 nw t_int [.int .i64 t39] w3 fun p w4 =>
 appK Pr [t_s_int, t_s_int] t_s_int [.slice out_1.a out_1.n out_1.c, .slice (some p) 1 1] w4 fun t41 w5 =>
 cnt d ((I64 (n_1 - d) ∧
 again_1 t41 (shr .i64 held_2 d) (n_1 - d) w5)))
 ((I64 (t18 + (1:Int)) ∧
 again out_1 held_2 n_1 (t18 + (1:Int)) w2)))
 out held_1 (n + (8:Int)) w1)))))
 (R (.slice out.a out.n out.c) w1))
 ⟨none, 0, 0⟩ (0:Int) (0:Int) (0:Int) w)
theorem V_bits_Unpack_eq (d : Int) (b : SlV) (w : World) (R : Value → World → Prop) : evF Pr ⟨true, true⟩ [] [(6, [(5, .sl), (6, .int .i64), (7, .int .i64), (18, .int .i64)]), (10, [(5, .sl), (6, .int .i64), (7, .int .i64)])] Tryd.f57 [.int .i64 d, .slice b.a b.n b.c] w R = V_bits_Unpack d b w R := by kernel_rfl
theorem V_bits_Unpack_of {d : Int} {b : SlV} {w : World} {R : Value → World → Prop} (h : V_bits_Unpack d b w R) : Ok Pr f_bits_Unpack [.int .i64 d, .slice b.a b.n b.c] w R :=
  have g := (V_bits_Unpack_eq d b w R).mpr h
  evF_ok good Tryd.func57 (by kernel_rfl) g

def V_sponge_New (rate : Int) (suffix : Int) (w : World) (R : Value → World → Prop) : Prop :=
 iteP (((((decide (rate < (8:Int))) || (decide ((192:Int) < rate))) || (!decide (Int.tmod rate (8:Int) = (0:Int)))) || (decide (suffix < (1:Int)))) || (decide ((127:Int) < suffix)))
 (R (.pointer none) w)
 (nw t_sponge_Sponge [.int .u64 (0:Int), .int .u64 (0:Int), .int .u64 (0:Int), .int .u64 (0:Int), .int .u64 (0:Int), .int .u64 (0:Int), .int .u64 (0:Int), .int .u64 (0:Int), .int .u64 (0:Int), .int .u64 (0:Int), .int .u64 (0:Int), .int .u64 (0:Int), .int .u64 (0:Int), .int .u64 (0:Int), .int .u64 (0:Int), .int .u64 (0:Int), .int .u64 (0:Int), .int .u64 (0:Int), .int .u64 (0:Int), .int .u64 (0:Int), .int .u64 (0:Int), .int .u64 (0:Int), .int .u64 (0:Int), .int .u64 (0:Int), .int .u64 (0:Int), .int .i64 rate, .int .u8 suffix, .int .i64 (0:Int), .bool false] w fun p w1 =>
 R (.pointer (some p)) w1)
theorem V_sponge_New_eq (rate : Int) (suffix : Int) (w : World) (R : Value → World → Prop) : evF Pr ⟨true, true⟩ [] [] Tryd.f58 [.int .i64 rate, .int .u8 suffix] w R = V_sponge_New rate suffix w R := by kernel_rfl
theorem V_sponge_New_of {rate : Int} {suffix : Int} {w : World} {R : Value → World → Prop} (h : V_sponge_New rate suffix w R) : Ok Pr f_sponge_New [.int .i64 rate, .int .u8 suffix] w R :=
  have g := (V_sponge_New_eq rate suffix w R).mpr h
  evF_ok good Tryd.func58 (by kernel_rfl) g

def V_sponge_Sponge_Write (s : Option Addr) (parts : SlV) (w : World) (R : Value → World → Prop) : Prop :=
 iteP (Option.isNone (α := Addr) s)
 (callK Pr f_sponge_fault [.int .i64 (1:Int)] w fun v w1 =>
 R v w1)
 (nilchk s fun a =>
 ldB (Addr.add a 28) w fun t17 =>
 iteP t17
 (callK Pr f_sponge_fault [.int .i64 (5:Int)] w fun v_1 w2 =>
 R v_1 w2)
 (loop1 (fun (t21 : Int) => [(21, some (.int .i64 t21))])
 (fun again t21 w3 => iteP (decide (t21 < ((parts.n : Nat) : Int)))
 (idxS parts.a t21 parts.n
 (ldL (Addr.add (base parts.a) (Int.toNat t21 * 1)) w3 fun t24 =>
 loop1 (fun (t27 : Int) => [(27, some (.int .i64 t27))])
 (fun again_1 t27 w4 => iteP (decide (t27 < ((t24.n : Nat) : Int)))
 (idxS t24.a t27 t24.n
 (ldI .u8 (Addr.add (base t24.a) (Int.toNat t27 * 1)) w4 fun t30 =>
 nilchk s fun a_1 =>
 ldI .i64 (Addr.add a_1 27) w4 fun t35 =>
 callK Pr f_sponge_Sponge_flip [.pointer s, .int .i64 t35, .int .u8 t30] w4 fun v_2 w5 =>
 nilchk s fun a_2 =>
 ldI .i64 (Addr.add a_2 27) w5 fun t41 =>
 (I64 (t41 + (1:Int)) ∧
 nilchk s fun a_3 =>
 st (Addr.add a_3 27) (.int .i64 (t41 + (1:Int))) w5 fun w6 =>
 callK Pr f_sponge_Sponge_turn [.pointer s] w6 fun v_3 w7 =>
 (I64 (t27 + (1:Int)) ∧
 again_1 (t27 + (1:Int)) w7))))
 ((I64 (t21 + (1:Int)) ∧
 again (t21 + (1:Int)) w4)))
 (0:Int) w3))
 (R (.nilIface) w3))
 (0:Int) w))
theorem V_sponge_Sponge_Write_eq (s : Option Addr) (parts : SlV) (w : World) (R : Value → World → Prop) : evF Pr ⟨true, true⟩ [] [(6, [(21, .int .i64)]), (9, [(27, .int .i64)])] Tryd.f59 [.pointer s, .slice parts.a parts.n parts.c] w R = V_sponge_Sponge_Write s parts w R := by kernel_rfl
theorem V_sponge_Sponge_Write_of {s : Option Addr} {parts : SlV} {w : World} {R : Value → World → Prop} (h : V_sponge_Sponge_Write s parts w R) : Ok Pr f_sponge_Sponge_Write [.pointer s, .slice parts.a parts.n parts.c] w R :=
  have g := (V_sponge_Sponge_Write_eq s parts w R).mpr h
  evF_ok good Tryd.func59 (by kernel_rfl) g

def V_sponge_Sponge_Read (s : Option Addr) (n : Int) (w : World) (R : Value → World → Prop) : Prop :=
 iteP (((Option.isNone (α := Addr) s) || (decide (n < (1:Int)))) || (decide ((1048576:Int) < n)))
 (R (.slice none 0 0) w)
 (join0 []
 (fun w1 => mkSl Pr t_uint8 (0:Int) n w1 fun t49 w2 =>
 loop2 (fun (out : SlV) (t51 : Int) => [(5, some (.slice out.a out.n out.c)), (51, some (.int .i64 t51))])
 (fun again out t51 w3 => iteP (decide (t51 < n))
 (callK Pr f_sponge_Sponge_turn [.pointer s] w3 fun v w4 =>
 nilchk s fun a =>
 ldI .i64 (Addr.add a 27) (World.drew w4) fun t60 =>
 ((0 ≤ t60 ∧ t60 ≤ IntKind.max .i64) ∧
 nilchk s fun a_1 =>
 idx (t60 / (8:Int)) 25
 (ldI .u64 (Addr.add (Addr.add a_1 0) (Int.toNat (t60 / (8:Int)) * 1)) (World.drew w4) fun t65 =>
 nilchk s fun a_2 =>
 ldI .i64 (Addr.add a_2 27) (World.drew w4) fun t69 =>
 (0 ≤ t69 ∧
 (I64 ((8:Int) * (t69 % (8:Int))) ∧
 cnt ((8:Int) * (t69 % (8:Int))) (nw t_uint8 [.int .u8 (IntKind.wrap .u8 (shr .u64 t65 ((8:Int) * (t69 % (8:Int)))))] (World.drew w4) fun p w5 =>
 appK Pr [t_s_uint8, t_s_uint8] t_s_uint8 [.slice out.a out.n out.c, .slice (some p) 1 1] w5 fun t75 w6 =>
 nilchk s fun a_3 =>
 ldI .i64 (Addr.add a_3 27) w6 fun t79 =>
 (I64 (t79 + (1:Int)) ∧
 nilchk s fun a_4 =>
 st (Addr.add a_4 27) (.int .i64 (t79 + (1:Int))) w6 fun w7 =>
 (I64 (t51 + (1:Int)) ∧
 again t75 (t51 + (1:Int)) w7))))))))
 (R (.slice out.a out.n out.c) w3))
 t49 (0:Int) w2)
 (fun go =>
 nilchk s fun a_5 =>
 ldB (Addr.add a_5 28) w fun t19 =>
 iteP (!t19)
 (nilchk s fun a_6 =>
 ldI .i64 (Addr.add a_6 27) (World.drew w) fun t25 =>
 nilchk s fun a_7 =>
 ldI .u8 (Addr.add a_7 26) (World.drew w) fun t29 =>
 callK Pr f_sponge_Sponge_flip [.pointer s, .int .i64 t25, .int .u8 t29] (World.drew w) fun v_1 w8 =>
 nilchk s fun a_8 =>
 ldI .i64 (Addr.add a_8 25) w8 fun t35 =>
 (I64 (t35 - (1:Int)) ∧
 callK Pr f_sponge_Sponge_flip [.pointer s, .int .i64 (t35 - (1:Int)), .int .u8 (128:Int)] w8 fun v_2 w9 =>
 nilchk s fun a_9 =>
 ldI .i64 (Addr.add a_9 25) w9 fun t43 =>
 nilchk s fun a_10 =>
 st (Addr.add a_10 28) (.bool true) w9 fun w10 =>
 nilchk s fun a_11 =>
 st (Addr.add a_11 27) (.int .i64 t43) w10 fun w11 =>
 go w11))
 (go w)))
theorem V_sponge_Sponge_Read_eq (s : Option Addr) (n : Int) (w : World) (R : Value → World → Prop) : evF Pr ⟨true, true⟩ [(7, [])] [(9, [(5, .sl), (51, .int .i64)])] Tryd.f60 [.pointer s, .int .i64 n] w R = V_sponge_Sponge_Read s n w R := by kernel_rfl
theorem V_sponge_Sponge_Read_of {s : Option Addr} {n : Int} {w : World} {R : Value → World → Prop} (h : V_sponge_Sponge_Read s n w R) : Ok Pr f_sponge_Sponge_Read [.pointer s, .int .i64 n] w R :=
  have g := (V_sponge_Sponge_Read_eq s n w R).mpr h
  evF_ok good Tryd.func60 (by kernel_rfl) g

def V_ref2_Shake128 (n : Int) (b : SlV) (w : World) (R : Value → World → Prop) : Prop :=
 callK Pr f_ref2_Many [.int .i64 n] w fun v w1 =>
 asI .i64 v fun t7 =>
 callK Pr f_ref2_Out [.int .i64 (168:Int), .int .u8 (31:Int), .slice b.a b.n b.c, .int .i64 t7] w1 fun v_1 w2 =>
 asSl v_1 fun t8 =>
 R (.slice t8.a t8.n t8.c) w2
theorem V_ref2_Shake128_eq (n : Int) (b : SlV) (w : World) (R : Value → World → Prop) : evF Pr ⟨true, true⟩ [] [] Tryd.f61 [.int .i64 n, .slice b.a b.n b.c] w R = V_ref2_Shake128 n b w R := by kernel_rfl
theorem V_ref2_Shake128_of {n : Int} {b : SlV} {w : World} {R : Value → World → Prop} (h : V_ref2_Shake128 n b w R) : Ok Pr f_ref2_Shake128 [.int .i64 n, .slice b.a b.n b.c] w R :=
  have g := (V_ref2_Shake128_eq n b w R).mpr h
  evF_ok good Tryd.func61 (by kernel_rfl) g

def V_ref6_even (b : SlV) (w : World) (R : Value → World → Prop) : Prop :=
 loop2 (fun (out : SlV) (kv : Int) => [(3, some (.slice out.a out.n out.c)), (4, some (.int .i64 kv))])
 (fun again out kv w1 => (I64 (kv + (2:Int)) ∧
 iteP (decide (kv + (2:Int) < ((b.n : Nat) : Int)))
 (idxS b.a kv b.n
 (ldI .u8 (Addr.add (base b.a) (Int.toNat kv * 1)) (World.drew w1) fun t17 =>
 (I64 (t17) ∧
 (I64 (kv + (1:Int)) ∧
 idxS b.a (kv + (1:Int)) b.n
 (ldI .u8 (Addr.add (base b.a) (Int.toNat (kv + (1:Int)) * 1)) (World.drew w1) fun t23 =>
 (I64 (t23) ∧
 (0 ≤ t23 ∧
 (I64 ((256:Int) * (t23 % (16:Int))) ∧
 (I64 (t17 + ((256:Int) * (t23 % (16:Int)))) ∧
 lt (A := Int) (t17 + ((256:Int) * (t23 % (16:Int)))) fun x =>
 (I64 (kv + (1:Int)) ∧
 idxS b.a (kv + (1:Int)) b.n
 (ldI .u8 (Addr.add (base b.a) (Int.toNat (kv + (1:Int)) * 1)) (World.drew (World.drew w1)) fun t32 =>
 (I64 (t32) ∧
 ((0 ≤ t32 ∧ t32 ≤ IntKind.max .i64) ∧
 (I64 (kv + (2:Int)) ∧
 idxS b.a (kv + (2:Int)) b.n
 (ldI .u8 (Addr.add (base b.a) (Int.toNat (kv + (2:Int)) * 1)) (World.drew (World.drew w1)) fun t39 =>
 (I64 (t39) ∧
 (I64 ((16:Int) * t39) ∧
 (I64 ((t32 / (16:Int)) + ((16:Int) * t39)) ∧
 lt (A := Int) ((t32 / (16:Int)) + ((16:Int) * t39)) fun y =>
 join1 (fun (out_1 : SlV) => [(3, some (.slice out_1.a out_1.n out_1.c))])
 (fun out_1 w2 => iteP ((decide (y < (3329:Int))) && (decide (((out_1.n : Nat) : Int) < (256:Int))))
 (nw t_int [.int .i64 y] w2 fun p w3 =>
 appK Pr [t_s_int, t_s_int] t_s_int [.slice out_1.a out_1.n out_1.c, .slice (some p) 1 1] w3 fun t64 w4 =>
 (I64 (kv + (3:Int)) ∧
 again t64 (kv + (3:Int)) w4))
 ((I64 (kv + (3:Int)) ∧
 again out_1 (kv + (3:Int)) w2)))
 (fun go =>
 iteP ((decide (x < (3329:Int))) && (decide (((out.n : Nat) : Int) < (256:Int))))
 (nw t_int [.int .i64 x] (World.drew (World.drew w1)) fun p_1 w5 =>
 appK Pr [t_s_int, t_s_int] t_s_int [.slice out.a out.n out.c, .slice (some p_1) 1 1] w5 fun t53 w6 =>
 go t53 w6)
 (go out (World.drew (World.drew w1))))))))))))))))))))))
 (R (.slice out.a out.n out.c) w1)))
 ⟨none, 0, 0⟩ (0:Int) w
theorem V_ref6_even_eq (b : SlV) (w : World) (R : Value → World → Prop) : evF Pr ⟨true, true⟩ [(9, [(3, .sl)])] [(3, [(3, .sl), (4, .int .i64)])] Tryd.f62 [.slice b.a b.n b.c] w R = V_ref6_even b w R := by kernel_rfl
theorem V_ref6_even_of {b : SlV} {w : World} {R : Value → World → Prop} (h : V_ref6_even b w R) : Ok Pr f_ref6_even [.slice b.a b.n b.c] w R :=
  have g := (V_ref6_even_eq b w R).mpr h
  evF_ok good Tryd.func62 (by kernel_rfl) g

def V_ref5_Bit (b : SlV) (kv : Int) (w : World) (R : Value → World → Prop) : Prop :=
 ((0 ≤ kv ∧ kv ≤ IntKind.max .i64) ∧
 idxS b.a (kv / (8:Int)) b.n
 (ldI .u8 (Addr.add (base b.a) (Int.toNat (kv / (8:Int)) * 1)) w fun t9 =>
 (I64 (t9) ∧
 (0 ≤ kv ∧
 cnt (kv % (8:Int)) (R (.int .i64 (andI .i64 (shr .i64 t9 (kv % (8:Int))) (1:Int))) w)))))
theorem V_ref5_Bit_eq (b : SlV) (kv : Int) (w : World) (R : Value → World → Prop) : evF Pr ⟨true, true⟩ [] [] Tryd.f63 [.slice b.a b.n b.c, .int .i64 kv] w R = V_ref5_Bit b kv w R := by kernel_rfl
theorem V_ref5_Bit_of {b : SlV} {kv : Int} {w : World} {R : Value → World → Prop} (h : V_ref5_Bit b kv w R) : Ok Pr f_ref5_Bit [.slice b.a b.n b.c, .int .i64 kv] w R :=
  have g := (V_ref5_Bit_eq b kv w R).mpr h
  evF_ok good Tryd.func63 (by kernel_rfl) g

def V_ref2_Shake256 (n : Int) (b : SlV) (w : World) (R : Value → World → Prop) : Prop :=
 callK Pr f_ref2_Many [.int .i64 n] w fun v w1 =>
 asI .i64 v fun t7 =>
 callK Pr f_ref2_Out [.int .i64 (136:Int), .int .u8 (31:Int), .slice b.a b.n b.c, .int .i64 t7] w1 fun v_1 w2 =>
 asSl v_1 fun t8 =>
 R (.slice t8.a t8.n t8.c) w2
theorem V_ref2_Shake256_eq (n : Int) (b : SlV) (w : World) (R : Value → World → Prop) : evF Pr ⟨true, true⟩ [] [] Tryd.f64 [.int .i64 n, .slice b.a b.n b.c] w R = V_ref2_Shake256 n b w R := by kernel_rfl
theorem V_ref2_Shake256_of {n : Int} {b : SlV} {w : World} {R : Value → World → Prop} (h : V_ref2_Shake256 n b w R) : Ok Pr f_ref2_Shake256 [.int .i64 n, .slice b.a b.n b.c] w R :=
  have g := (V_ref2_Shake256_eq n b w R).mpr h
  evF_ok good Tryd.func64 (by kernel_rfl) g

def V_api_Code (e : Value) (w : World) (R : Value → World → Prop) : Prop :=
 nw t_api_Errno (zc Pr t_api_Errno) w fun p w1 =>
 ifaceNil e fun nil =>
 iteP nil
 (R (.int .i64 (0:Int)) w1)
 (callK Pr f_errors_As [e, .iface t_p_api_Errno (.pointer (some p))] w1 fun v w2 =>
 asB v fun t8 =>
 iteP t8
 (ldI .i64 p w2 fun t9 =>
 R (.int .i64 t9) w2)
 (R (.int .i64 (2:Int)) w2))
theorem V_api_Code_eq (e : Value) (w : World) (R : Value → World → Prop) : evF Pr ⟨true, true⟩ [] [] Tryd.f67 [e] w R = V_api_Code e w R := by kernel_rfl
theorem V_api_Code_of {e : Value} {w : World} {R : Value → World → Prop} (h : V_api_Code e w R) : Ok Pr f_api_Code [e] w R :=
  have g := (V_api_Code_eq e w R).mpr h
  evF_ok good Tryd.func67 (by kernel_rfl) g

def V_slices_ContainsFunc_int_int (s : SlV) (f : Value) (w : World) (R : Value → World → Prop) : Prop :=
 callK Pr f_slices_IndexFunc_int_int [.slice s.a s.n s.c, f] w fun v w1 =>
 asI .i64 v fun t7 =>
 R (.bool (decide ((0:Int) ≤ t7))) w1
theorem V_slices_ContainsFunc_int_int_eq (s : SlV) (f : Value) (w : World) (R : Value → World → Prop) : evF Pr ⟨true, true⟩ [] [] Tryd.f77 [.slice s.a s.n s.c, f] w R = V_slices_ContainsFunc_int_int s f w R := by kernel_rfl
theorem V_slices_ContainsFunc_int_int_of {s : SlV} {f : Value} {w : World} {R : Value → World → Prop} (h : V_slices_ContainsFunc_int_int s f w R) : Ok Pr f_slices_ContainsFunc_int_int [.slice s.a s.n s.c, f] w R :=
  have g := (V_slices_ContainsFunc_int_int_eq s f w R).mpr h
  evF_ok good Tryd.func77 (by kernel_rfl) g

def V_slices_Equal_int_int (s1 : SlV) (s2 : SlV) (w : World) (R : Value → World → Prop) : Prop :=
 iteP (!decide (((s1.n : Nat) : Int) = ((s2.n : Nat) : Int)))
 (R (.bool false) w)
 (loop1 (fun (t13 : Int) => [(13, some (.int .i64 t13))])
 (fun again t13 w1 => iteP (decide (t13 < ((s1.n : Nat) : Int)))
 (idxS s1.a t13 s1.n
 (ldI .i64 (Addr.add (base s1.a) (Int.toNat t13 * 1)) (World.drew w1) fun t19 =>
 idxS s2.a t13 s2.n
 (ldI .i64 (Addr.add (base s2.a) (Int.toNat t13 * 1)) (World.drew w1) fun t23 =>
 iteP (!decide (t19 = t23))
 (R (.bool false) (World.drew w1))
 ((I64 (t13 + (1:Int)) ∧
 again (t13 + (1:Int)) (World.drew w1))))))
 (R (.bool true) w1))
 (0:Int) w)
theorem V_slices_Equal_int_int_eq (s1 : SlV) (s2 : SlV) (w : World) (R : Value → World → Prop) : evF Pr ⟨true, true⟩ [] [(4, [(13, .int .i64)])] Tryd.f79 [.slice s1.a s1.n s1.c, .slice s2.a s2.n s2.c] w R = V_slices_Equal_int_int s1 s2 w R := by kernel_rfl
theorem V_slices_Equal_int_int_of {s1 : SlV} {s2 : SlV} {w : World} {R : Value → World → Prop} (h : V_slices_Equal_int_int s1 s2 w R) : Ok Pr f_slices_Equal_int_int [.slice s1.a s1.n s1.c, .slice s2.a s2.n s2.c] w R :=
  have g := (V_slices_Equal_int_int_eq s1 s2 w R).mpr h
  evF_ok good Tryd.func79 (by kernel_rfl) g

def V_bytes_Equal (a : SlV) (b : SlV) (w : World) (R : Value → World → Prop) : Prop :=
 b2sK Pr a w fun t6 w1 =>
 b2sK Pr b w1 fun t8 w2 =>
 R (.bool (decide (t6 = t8))) w2
theorem V_bytes_Equal_eq (a : SlV) (b : SlV) (w : World) (R : Value → World → Prop) : evF Pr ⟨true, true⟩ [] [] Tryd.f80 [.slice a.a a.n a.c, .slice b.a b.n b.c] w R = V_bytes_Equal a b w R := by kernel_rfl
theorem V_bytes_Equal_of {a : SlV} {b : SlV} {w : World} {R : Value → World → Prop} (h : V_bytes_Equal a b w R) : Ok Pr f_bytes_Equal [.slice a.a a.n a.c, .slice b.a b.n b.c] w R :=
  have g := (V_bytes_Equal_eq a b w R).mpr h
  evF_ok good Tryd.func80 (by kernel_rfl) g

def V_slices_Clone_byte_byte (s : SlV) (w : World) (R : Value → World → Prop) : Prop :=
 iteP (Option.isNone (α := Addr) s.a)
 (R (.slice none 0 0) w)
 (nw t_uint8 [] w fun p w1 =>
 appK Pr [t_s_uint8, t_s_uint8] t_s_uint8 [.slice (some p) 0 0, .slice s.a s.n s.c] w1 fun t7 w2 =>
 R (.slice t7.a t7.n t7.c) w2)
theorem V_slices_Clone_byte_byte_eq (s : SlV) (w : World) (R : Value → World → Prop) : evF Pr ⟨true, true⟩ [] [] Tryd.f82 [.slice s.a s.n s.c] w R = V_slices_Clone_byte_byte s w R := by kernel_rfl
theorem V_slices_Clone_byte_byte_of {s : SlV} {w : World} {R : Value → World → Prop} (h : V_slices_Clone_byte_byte s w R) : Ok Pr f_slices_Clone_byte_byte [.slice s.a s.n s.c] w R :=
  have g := (V_slices_Clone_byte_byte_eq s w R).mpr h
  evF_ok good Tryd.func82 (by kernel_rfl) g

def V_sponge_of (rate : Int) (suffix : Int) (n : Int) (parts : SlV) (w : World) (R : Value → World → Prop) : Prop :=
 callK Pr f_sponge_New [.int .i64 rate, .int .u8 suffix] w fun v w1 =>
 asP v fun t12 =>
 callK Pr f_sponge_Sponge_Write [.pointer t12, .slice parts.a parts.n parts.c] w1 fun v_1 w2 =>
 callK Pr f_sponge_Sponge_Read [.pointer t12, .int .i64 n] w2 fun v_2 w3 =>
 asSl v_2 fun t18 =>
 R (.slice t18.a t18.n t18.c) w3
theorem V_sponge_of_eq (rate : Int) (suffix : Int) (n : Int) (parts : SlV) (w : World) (R : Value → World → Prop) : evF Pr ⟨true, true⟩ [] [] Tryd.f87 [.int .i64 rate, .int .u8 suffix, .int .i64 n, .slice parts.a parts.n parts.c] w R = V_sponge_of rate suffix n parts w R := by kernel_rfl
theorem V_sponge_of_of {rate : Int} {suffix : Int} {n : Int} {parts : SlV} {w : World} {R : Value → World → Prop} (h : V_sponge_of rate suffix n parts w R) : Ok Pr f_sponge_of [.int .i64 rate, .int .u8 suffix, .int .i64 n, .slice parts.a parts.n parts.c] w R :=
  have g := (V_sponge_of_eq rate suffix n parts w R).mpr h
  evF_ok good Tryd.func87 (by kernel_rfl) g

def V_poly_May_1 (x : Int) (w : World) (R : Value → World → Prop) : Prop :=
 R (.bool ((decide (x < (0:Int))) || (decide ((3329:Int) ≤ x)))) w
theorem V_poly_May_1_eq (x : Int) (w : World) (R : Value → World → Prop) : evF Pr ⟨true, true⟩ [] [] Tryd.f88 [.int .i64 x] w R = V_poly_May_1 x w R := by kernel_rfl
theorem V_poly_May_1_of {x : Int} {w : World} {R : Value → World → Prop} (h : V_poly_May_1 x w R) : Ok Pr f_poly_May_1 [.int .i64 x] w R :=
  have g := (V_poly_May_1_eq x w R).mpr h
  evF_ok good Tryd.func88 (by kernel_rfl) g

def V_bits_Low (d : Int) (x : Int) (w : World) (R : Value → World → Prop) : Prop :=
 iteP ((decide (d < (0:Int))) || (decide ((62:Int) < d)))
 (R (.int .i64 (0:Int)) w)
 (cnt d ((I64 ((shl .i64 (1:Int) d) - (1:Int)) ∧
 R (.int .i64 (andI .i64 x ((shl .i64 (1:Int) d) - (1:Int)))) w)))
theorem V_bits_Low_eq (d : Int) (x : Int) (w : World) (R : Value → World → Prop) : evF Pr ⟨true, true⟩ [] [] Tryd.f98 [.int .i64 d, .int .i64 x] w R = V_bits_Low d x w R := by kernel_rfl
theorem V_bits_Low_of {d : Int} {x : Int} {w : World} {R : Value → World → Prop} (h : V_bits_Low d x w R) : Ok Pr f_bits_Low [.int .i64 d, .int .i64 x] w R :=
  have g := (V_bits_Low_eq d x w R).mpr h
  evF_ok good Tryd.func98 (by kernel_rfl) g

def V_sponge_fault (code : Int) (w : World) (R : Value → World → Prop) : Prop :=
 nw t_api_Fault [.int .i64 code, .string S_sponge] w fun p w1 =>
 R (.iface t_p_api_Fault (.pointer (some p))) w1
theorem V_sponge_fault_eq (code : Int) (w : World) (R : Value → World → Prop) : evF Pr ⟨true, true⟩ [] [] Tryd.f99 [.int .i64 code] w R = V_sponge_fault code w R := by kernel_rfl
theorem V_sponge_fault_of {code : Int} {w : World} {R : Value → World → Prop} (h : V_sponge_fault code w R) : Ok Pr f_sponge_fault [.int .i64 code] w R :=
  have g := (V_sponge_fault_eq code w R).mpr h
  evF_ok good Tryd.func99 (by kernel_rfl) g

def V_sponge_Sponge_flip (s : Option Addr) (i : Int) (b : Int) (w : World) (R : Value → World → Prop) : Prop :=
 ((0 ≤ i ∧ i ≤ IntKind.max .i64) ∧
 nilchk s fun a =>
 idx (i / (8:Int)) 25
 (ldI .u64 (Addr.add (Addr.add a 0) (Int.toNat (i / (8:Int)) * 1)) (World.drew w) fun t12 =>
 (0 ≤ i ∧
 (I64 ((8:Int) * (i % (8:Int))) ∧
 cnt ((8:Int) * (i % (8:Int))) (nilchk s fun a_1 =>
 idx (i / (8:Int)) 25
 (st (Addr.add (Addr.add a_1 0) (Int.toNat (i / (8:Int)) * 1)) (.int .u64 (xorI .u64 t12 (shl .u64 (IntKind.wrap .u64 (b)) ((8:Int) * (i % (8:Int)))))) (World.drew w) fun w1 =>
 R (.tuple ⟨[]⟩) w1))))))
theorem V_sponge_Sponge_flip_eq (s : Option Addr) (i : Int) (b : Int) (w : World) (R : Value → World → Prop) : evF Pr ⟨true, true⟩ [] [] Tryd.f100 [.pointer s, .int .i64 i, .int .u8 b] w R = V_sponge_Sponge_flip s i b w R := by kernel_rfl
theorem V_sponge_Sponge_flip_of {s : Option Addr} {i : Int} {b : Int} {w : World} {R : Value → World → Prop} (h : V_sponge_Sponge_flip s i b w R) : Ok Pr f_sponge_Sponge_flip [.pointer s, .int .i64 i, .int .u8 b] w R :=
  have g := (V_sponge_Sponge_flip_eq s i b w R).mpr h
  evF_ok good Tryd.func100 (by kernel_rfl) g

def V_sponge_Sponge_turn (s : Option Addr) (w : World) (R : Value → World → Prop) : Prop :=
 nilchk s fun a =>
 ldI .i64 (Addr.add a 27) (World.drew w) fun t5 =>
 nilchk s fun a_1 =>
 ldI .i64 (Addr.add a_1 25) (World.drew w) fun t9 =>
 iteP (decide (t5 = t9))
 (nilchk s fun a_2 =>
 ldA 25 (Addr.add a_2 0) (World.drew w) fun t16 =>
 callK Pr f_keccak_Permute [.agg ⟨t16⟩] (World.drew w) fun v w1 =>
 asArr v fun t17 =>
 nilchk s fun a_3 =>
 stA 25 (Addr.add a_3 0) t17 w1 fun w2 =>
 nilchk s fun a_4 =>
 st (Addr.add a_4 27) (.int .i64 (0:Int)) w2 fun w3 =>
 R (.tuple ⟨[]⟩) w3)
 (R (.tuple ⟨[]⟩) (World.drew w))
theorem V_sponge_Sponge_turn_eq (s : Option Addr) (w : World) (R : Value → World → Prop) : evF Pr ⟨true, true⟩ [] [] Tryd.f101 [.pointer s] w R = V_sponge_Sponge_turn s w R := by kernel_rfl
theorem V_sponge_Sponge_turn_of {s : Option Addr} {w : World} {R : Value → World → Prop} (h : V_sponge_Sponge_turn s w R) : Ok Pr f_sponge_Sponge_turn [.pointer s] w R :=
  have g := (V_sponge_Sponge_turn_eq s w R).mpr h
  evF_ok good Tryd.func101 (by kernel_rfl) g

def V_ref2_Out (rate : Int) (suffix : Int) (b : SlV) (n : Int) (w : World) (R : Value → World → Prop) : Prop :=
 callK Pr f_ref1_Words [] w fun v w1 =>
 asArr v fun t15 =>
 nw t_24_uint64 (zc Pr t_24_uint64) w1 fun p w2 =>
 stA 24 p t15 w2 fun w3 =>
 appK Pr [t_s_uint8, t_s_uint8] t_s_uint8 [.slice none 0 0, .slice b.a b.n b.c] w3 fun t17 w4 =>
 nw t_uint8 [.int .u8 suffix] w4 fun p_1 w5 =>
 appK Pr [t_s_uint8, t_s_uint8] t_s_uint8 [.slice t17.a t17.n t17.c, .slice (some p_1) 1 1] w5 fun t20 w6 =>
 loop1 (fun (inv : SlV) => [(10, some (.slice inv.a inv.n inv.c))])
 (fun again inv w7 => pos rate ((0 ≤ ((inv.n : Nat) : Int) ∧
 iteP (!decide (((inv.n : Nat) : Int) % rate = (0:Int)))
 (nw t_uint8 [.int .u8 (0:Int)] w7 fun p_2 w8 =>
 appK Pr [t_s_uint8, t_s_uint8] t_s_uint8 [.slice inv.a inv.n inv.c, .slice (some p_2) 1 1] w8 fun t28 w9 =>
 again t28 w9)
 ((I64 (((inv.n : Nat) : Int) - (1:Int)) ∧
 (I64 (((inv.n : Nat) : Int) - (1:Int)) ∧
 idxS inv.a (((inv.n : Nat) : Int) - (1:Int)) inv.n
 (ldI .u8 (Addr.add (base inv.a) (Int.toNat (((inv.n : Nat) : Int) - (1:Int)) * 1)) w7 fun t38 =>
 idxS inv.a (((inv.n : Nat) : Int) - (1:Int)) inv.n
 (st (Addr.add (base inv.a) (Int.toNat (((inv.n : Nat) : Int) - (1:Int)) * 1)) (.int .u8 (xorI .u8 t38 (128:Int))) w7 fun w10 =>
 nw t_25_uint64 (zc Pr t_25_uint64) w10 fun p_3 w11 =>
 loop1 (fun (i : Int) => [(12, some (.int .i64 i))])
 (fun again_1 i w12 => iteP (decide (i < ((inv.n : Nat) : Int)))
 (ldA 25 p_3 (World.drew w12) fun t48 =>
 (I64 (i + rate) ∧
 slLH 1 inv i (i + rate) fun t54 =>
 ldA 24 p (World.drew w12) fun t56 =>
 callK Pr f_ref2_mix [.agg ⟨t48⟩, .slice t54.a t54.n t54.c] (World.drew w12) fun v_1 w13 =>
 asArr v_1 fun t55 =>
 (kept p 24 (World.drew w12) w13 ∧
 callK Pr f_ref1_With [.agg ⟨t55⟩, .agg ⟨t56⟩] w13 fun v_2 w14 =>
 asArr v_2 fun t57 =>
 stA 25 p_3 t57 w14 fun w15 =>
 (I64 (i + rate) ∧
 again_1 (i + rate) w15))))
 (loop2 (fun (out : SlV) (i_1 : Int) => [(13, some (.slice out.a out.n out.c)), (14, some (.int .i64 i_1))])
 (fun again_2 out i_1 w16 => iteP (decide (i_1 < n))
 (join0 []
 (fun w17 => pos rate ((0 ≤ i_1 ∧
 ((0 ≤ i_1 % rate ∧ i_1 % rate ≤ IntKind.max .i64) ∧
 idx ((i_1 % rate) / (8:Int)) 25
 (ldI .u64 (Addr.add p_3 (Int.toNat ((i_1 % rate) / (8:Int)) * 1)) w17 fun t80 =>
 (0 ≤ i_1 ∧
 (I64 ((8:Int) * (i_1 % (8:Int))) ∧
 cnt ((8:Int) * (i_1 % (8:Int))) (nw t_uint8 [.int .u8 (IntKind.wrap .u8 (shr .u64 t80 ((8:Int) * (i_1 % (8:Int)))))] w17 fun p_4 w18 =>
 appK Pr [t_s_uint8, t_s_uint8] t_s_uint8 [.slice out.a out.n out.c, .slice (some p_4) 1 1] w18 fun t87 w19 =>
 (I64 (i_1 + (1:Int)) ∧
 again_2 t87 (i_1 + (1:Int)) w19)))))))))
 (fun go =>
 join1 (fun (t70 : Bool) => [(70, some (.bool t70))])
 (fun t70 w20 => iteP t70
 (ldA 25 p_3 w20 fun t71 =>
 ldA 24 p w20 fun t72 =>
 callK Pr f_ref1_With [.agg ⟨t71⟩, .agg ⟨t72⟩] w20 fun v_3 w21 =>
 asArr v_3 fun t73 =>
 stA 25 p_3 t73 w21 fun w22 =>
 go w22)
 (go w20))
 (fun go_1 =>
 iteP (decide ((0:Int) < i_1))
 (pos rate ((0 ≤ i_1 ∧
 go_1 (decide (i_1 % rate = (0:Int))) w16)))
 (go_1 false w16))))
 (R (.slice out.a out.n out.c) w16))
 ⟨none, 0, 0⟩ (0:Int) w12))
 (0:Int) w11))))))))
 t20 w6
theorem V_ref2_Out_eq (rate : Int) (suffix : Int) (b : SlV) (n : Int) (w : World) (R : Value → World → Prop) : evF Pr ⟨true, true⟩ [(17, []), (16, [(70, .bool)])] [(3, [(10, .sl)]), (8, [(12, .int .i64)]), (13, [(13, .sl), (14, .int .i64)])] Tryd.f102 [.int .i64 rate, .int .u8 suffix, .slice b.a b.n b.c, .int .i64 n] w R = V_ref2_Out rate suffix b n w R := by kernel_rfl
theorem V_ref2_Out_of {rate : Int} {suffix : Int} {b : SlV} {n : Int} {w : World} {R : Value → World → Prop} (h : V_ref2_Out rate suffix b n w R) : Ok Pr f_ref2_Out [.int .i64 rate, .int .u8 suffix, .slice b.a b.n b.c, .int .i64 n] w R :=
  have g := (V_ref2_Out_eq rate suffix b n w R).mpr h
  evF_ok good Tryd.func102 (by kernel_rfl) g

def V_ref2_Many (n : Int) (w : World) (R : Value → World → Prop) : Prop :=
 iteP ((decide (n < (1:Int))) || (decide ((1048576:Int) < n)))
 (R (.int .i64 (0:Int)) w)
 (R (.int .i64 n) w)
theorem V_ref2_Many_eq (n : Int) (w : World) (R : Value → World → Prop) : evF Pr ⟨true, true⟩ [] [] Tryd.f103 [.int .i64 n] w R = V_ref2_Many n w R := by kernel_rfl
theorem V_ref2_Many_of {n : Int} {w : World} {R : Value → World → Prop} (h : V_ref2_Many n w R) : Ok Pr f_ref2_Many [.int .i64 n] w R :=
  have g := (V_ref2_Many_eq n w R).mpr h
  evF_ok good Tryd.func103 (by kernel_rfl) g

def V_slices_IndexFunc_int_int (s : SlV) (f : Value) (w : World) (R : Value → World → Prop) : Prop :=
 loop1 (fun (t8 : Int) => [(8, some (.int .i64 t8))])
 (fun again t8 w1 => iteP (decide (t8 < ((s.n : Nat) : Int)))
 (idxS s.a t8 s.n
 (ldI .i64 (Addr.add (base s.a) (Int.toNat t8 * 1)) w1 fun t15 =>
 callV Pr f [.int .i64 t15] w1 fun v w2 =>
 asB v fun t16 =>
 iteP t16
 (R (.int .i64 t8) w2)
 ((I64 (t8 + (1:Int)) ∧
 again (t8 + (1:Int)) w2))))
 (R (.int .i64 (-1:Int)) w1))
 (0:Int) w
theorem V_slices_IndexFunc_int_int_eq (s : SlV) (f : Value) (w : World) (R : Value → World → Prop) : evF Pr ⟨true, true⟩ [] [(2, [(8, .int .i64)])] Tryd.f111 [.slice s.a s.n s.c, f] w R = V_slices_IndexFunc_int_int s f w R := by kernel_rfl
theorem V_slices_IndexFunc_int_int_of {s : SlV} {f : Value} {w : World} {R : Value → World → Prop} (h : V_slices_IndexFunc_int_int s f w R) : Ok Pr f_slices_IndexFunc_int_int [.slice s.a s.n s.c, f] w R :=
  have g := (V_slices_IndexFunc_int_int_eq s f w R).mpr h
  evF_ok good Tryd.func111 (by kernel_rfl) g

def V_keccak_Permute (a : List Value) (w : World) (R : Value → World → Prop) : Prop :=
 nw t_25_uint64 a w fun p w1 =>
 nw t_25_uint64 (zc Pr t_25_uint64) w1 fun p_1 w2 =>
 loop1 (fun (t4 : Int) => [(4, some (.int .i64 t4))])
 (fun again t4 w3 => iteP (decide (t4 < (24:Int)))
 (ldA 25 p w3 fun t7 =>
 callK Pr f_keccak_Round [.agg ⟨t7⟩, .int .i64 t4] w3 fun v w4 =>
 asArr v fun t9 =>
 stA 25 p t9 w4 fun w5 =>
 (I64 (t4 + (1:Int)) ∧
 again (t4 + (1:Int)) w5))
 (ldA 25 p w3 fun t11 =>
 stA 25 p_1 t11 w3 fun w6 =>
 ldA 25 p_1 w6 fun res =>
 R (.agg ⟨res⟩) w6))
 (0:Int) w2
theorem V_keccak_Permute_eq (a : List Value) (w : World) (R : Value → World → Prop) : evF Pr ⟨true, true⟩ [] [(2, [(4, .int .i64)])] Tryd.f125 [.agg ⟨a⟩] w R = V_keccak_Permute a w R := by kernel_rfl
theorem V_keccak_Permute_of {a : List Value} {w : World} {R : Value → World → Prop} (h : V_keccak_Permute a w R) : Ok Pr f_keccak_Permute [.agg ⟨a⟩] w R :=
  have g := (V_keccak_Permute_eq a w R).mpr h
  evF_ok good Tryd.func125 (by kernel_rfl) g

def V_ref1_Words (w : World) (R : Value → World → Prop) : Prop :=
 nw t_24_uint64 (zc Pr t_24_uint64) w fun p w1 =>
 nw t_24_uint64 (zc Pr t_24_uint64) w1 fun p_1 w2 =>
 loop1 (fun (i : Int) => [(2, some (.int .i64 i))])
 (fun again i w3 => iteP (decide (i < (24:Int)))
 (loop1 (fun (j : Int) => [(3, some (.int .i64 j))])
 (fun again_1 j w4 => iteP (decide (j < (7:Int)))
 (idx i 24
 (ldI .u64 (Addr.add p_1 (Int.toNat i * 1)) (World.drew w4) fun t15 =>
 (I64 ((7:Int) * i) ∧
 (I64 (j + ((7:Int) * i)) ∧
 cnt j (callK Pr f_ref1_rc [.int .i64 (j + ((7:Int) * i))] (World.drew w4) fun v w5 =>
 asI .u64 v fun t20 =>
 (kept (Addr.add p_1 (Int.toNat i * 1)) 1 (World.drew w4) w5 ∧
 cnt (IntKind.wrap .u64 ((shl .u64 (1:Int) j) - (1:Int))) (idx i 24
 (st (Addr.add p_1 (Int.toNat i * 1)) (.int .u64 (orI .u64 t15 (shl .u64 t20 (IntKind.wrap .u64 ((shl .u64 (1:Int) j) - (1:Int)))))) w5 fun w6 =>
 (I64 (j + (1:Int)) ∧
 again_1 (j + (1:Int)) w6)))))))))
 ((I64 (i + (1:Int)) ∧
 again (i + (1:Int)) w4)))
 (0:Int) w3)
 (ldA 24 p_1 w3 fun t27 =>
 stA 24 p t27 w3 fun w7 =>
 ldA 24 p w7 fun res =>
 R (.agg ⟨res⟩) w7))
 (0:Int) w2
theorem V_ref1_Words_eq (w : World) (R : Value → World → Prop) : evF Pr ⟨true, true⟩ [] [(3, [(2, .int .i64)]), (6, [(3, .int .i64)])] Tryd.f126 [] w R = V_ref1_Words w R := by kernel_rfl
theorem V_ref1_Words_of {w : World} {R : Value → World → Prop} (h : V_ref1_Words w R) : Ok Pr f_ref1_Words [] w R :=
  have g := (V_ref1_Words_eq w R).mpr h
  evF_ok good Tryd.func126 (by kernel_rfl) g

def V_ref1_With (a : List Value) (words : List Value) (w : World) (R : Value → World → Prop) : Prop :=
 nw t_25_uint64 a w fun p w1 =>
 nw t_24_uint64 words w1 fun p_1 w2 =>
 nw t_25_uint64 (zc Pr t_25_uint64) w2 fun p_2 w3 =>
 loop1 (fun (i : Int) => [(5, some (.int .i64 i))])
 (fun again i w4 => iteP (decide (i < (24:Int)))
 (ldA 25 p w4 fun t10 =>
 callK Pr f_ref1_Theta [.agg ⟨t10⟩] w4 fun v w5 =>
 asArr v fun t11 =>
 callK Pr f_ref1_Rho [.agg ⟨t11⟩] w5 fun v_1 w6 =>
 asArr v_1 fun t12 =>
 callK Pr f_ref1_Pi [.agg ⟨t12⟩] w6 fun v_2 w7 =>
 asArr v_2 fun t13 =>
 callK Pr f_ref1_Chi [.agg ⟨t13⟩] w7 fun v_3 w8 =>
 asArr v_3 fun t14 =>
 stA 25 p t14 w8 fun w9 =>
 idx (0:Int) 25
 (ldI .u64 (Addr.add p (Int.toNat (0:Int) * 1)) (World.drew w9) fun t16 =>
 idx i 24
 (ldI .u64 (Addr.add p_1 (Int.toNat i * 1)) (World.drew w9) fun t19 =>
 idx (0:Int) 25
 (st (Addr.add p (Int.toNat (0:Int) * 1)) (.int .u64 (xorI .u64 t16 t19)) (World.drew w9) fun w10 =>
 (I64 (i + (1:Int)) ∧
 again (i + (1:Int)) w10)))))
 (ldA 25 p w4 fun t22 =>
 stA 25 p_2 t22 w4 fun w11 =>
 ldA 25 p_2 w11 fun res =>
 R (.agg ⟨res⟩) w11))
 (0:Int) w3
theorem V_ref1_With_eq (a : List Value) (words : List Value) (w : World) (R : Value → World → Prop) : evF Pr ⟨true, true⟩ [] [(2, [(5, .int .i64)])] Tryd.f127 [.agg ⟨a⟩, .agg ⟨words⟩] w R = V_ref1_With a words w R := by kernel_rfl
theorem V_ref1_With_of {a : List Value} {words : List Value} {w : World} {R : Value → World → Prop} (h : V_ref1_With a words w R) : Ok Pr f_ref1_With [.agg ⟨a⟩, .agg ⟨words⟩] w R :=
  have g := (V_ref1_With_eq a words w R).mpr h
  evF_ok good Tryd.func127 (by kernel_rfl) g

def V_ref2_mix (a : List Value) (b : SlV) (w : World) (R : Value → World → Prop) : Prop :=
 nw t_25_uint64 a w fun p w1 =>
 nw t_25_uint64 (zc Pr t_25_uint64) w1 fun p_1 w2 =>
 loop1 (fun (i : Int) => [(5, some (.int .i64 i))])
 (fun again i w3 => iteP (decide (i < ((b.n : Nat) : Int)))
 (((0 ≤ i ∧ i ≤ IntKind.max .i64) ∧
 ((0 ≤ i ∧ i ≤ IntKind.max .i64) ∧
 idx (i / (8:Int)) 25
 (ldI .u64 (Addr.add p (Int.toNat (i / (8:Int)) * 1)) (World.drew w3) fun t17 =>
 idxS b.a i b.n
 (ldI .u8 (Addr.add (base b.a) (Int.toNat i * 1)) (World.drew w3) fun t21 =>
 (0 ≤ i ∧
 (I64 ((8:Int) * (i % (8:Int))) ∧
 cnt ((8:Int) * (i % (8:Int))) (idx (i / (8:Int)) 25
 (st (Addr.add p (Int.toNat (i / (8:Int)) * 1)) (.int .u64 (xorI .u64 t17 (shl .u64 (IntKind.wrap .u64 (t21)) ((8:Int) * (i % (8:Int)))))) (World.drew w3) fun w4 =>
 (I64 (i + (1:Int)) ∧
 again (i + (1:Int)) w4))))))))))
 (ldA 25 p w3 fun t29 =>
 stA 25 p_1 t29 w3 fun w5 =>
 ldA 25 p_1 w5 fun res =>
 R (.agg ⟨res⟩) w5))
 (0:Int) w2
theorem V_ref2_mix_eq (a : List Value) (b : SlV) (w : World) (R : Value → World → Prop) : evF Pr ⟨true, true⟩ [] [(2, [(5, .int .i64)])] Tryd.f128 [.agg ⟨a⟩, .slice b.a b.n b.c] w R = V_ref2_mix a b w R := by kernel_rfl
theorem V_ref2_mix_of {a : List Value} {b : SlV} {w : World} {R : Value → World → Prop} (h : V_ref2_mix a b w R) : Ok Pr f_ref2_mix [.agg ⟨a⟩, .slice b.a b.n b.c] w R :=
  have g := (V_ref2_mix_eq a b w R).mpr h
  evF_ok good Tryd.func128 (by kernel_rfl) g

def V_math_bits_Len (x : Int) (w : World) (R : Value → World → Prop) : Prop :=
 callK Pr f_math_bits_Len64 [.int .u64 x] w fun v w1 =>
 asI .i64 v fun t7 =>
 R (.int .i64 t7) w1
theorem V_math_bits_Len_eq (x : Int) (w : World) (R : Value → World → Prop) : evF Pr ⟨true, true⟩ [] [] Tryd.f131 [.int .u64 x] w R = V_math_bits_Len x w R := by kernel_rfl
theorem V_math_bits_Len_of {x : Int} {w : World} {R : Value → World → Prop} (h : V_math_bits_Len x w R) : Ok Pr f_math_bits_Len [.int .u64 x] w R :=
  have g := (V_math_bits_Len_eq x w R).mpr h
  evF_ok good Tryd.func131 (by kernel_rfl) g

def V_keccak_Round (a : List Value) (round : Int) (w : World) (R : Value → World → Prop) : Prop :=
 nw t_25_uint64 a w fun p w1 =>
 nw t_25_uint64 (zc Pr t_25_uint64) w1 fun p_1 w2 =>
 ldA 25 p w2 fun t5 =>
 callK Pr f_keccak_Theta [.agg ⟨t5⟩] w2 fun v w3 =>
 asArr v fun t6 =>
 callK Pr f_keccak_Rho [.agg ⟨t6⟩] w3 fun v_1 w4 =>
 asArr v_1 fun t7 =>
 callK Pr f_keccak_Pi [.agg ⟨t7⟩] w4 fun v_2 w5 =>
 asArr v_2 fun t8 =>
 callK Pr f_keccak_Chi [.agg ⟨t8⟩] w5 fun v_3 w6 =>
 asArr v_3 fun t9 =>
 callK Pr f_keccak_Iota [.agg ⟨t9⟩, .int .i64 round] w6 fun v_4 w7 =>
 asArr v_4 fun t11 =>
 stA 25 p_1 t11 w7 fun w8 =>
 ldA 25 p_1 w8 fun res =>
 R (.agg ⟨res⟩) w8
theorem V_keccak_Round_eq (a : List Value) (round : Int) (w : World) (R : Value → World → Prop) : evF Pr ⟨true, true⟩ [] [] Tryd.f133 [.agg ⟨a⟩, .int .i64 round] w R = V_keccak_Round a round w R := by kernel_rfl
theorem V_keccak_Round_of {a : List Value} {round : Int} {w : World} {R : Value → World → Prop} (h : V_keccak_Round a round w R) : Ok Pr f_keccak_Round [.agg ⟨a⟩, .int .i64 round] w R :=
  have g := (V_keccak_Round_eq a round w R).mpr h
  evF_ok good Tryd.func133 (by kernel_rfl) g

def V_ref1_rc (t : Int) (w : World) (R : Value → World → Prop) : Prop :=
 loop2 (fun (r : Int) (i : Int) => [(3, some (.int .u64 r)), (4, some (.int .i64 i))])
 (fun again r i w1 => (0 ≤ t ∧
 iteP (decide (i < t % (255:Int)))
 (iteP (!decide (andI .u64 (shl .u64 r (1:Int)) (256:Int) = (0:Int)))
 (lt (A := Int) (xorI .u64 (xorI .u64 (xorI .u64 (xorI .u64 (xorI .u64 (shl .u64 r (1:Int)) (256:Int)) (1:Int)) (16:Int)) (32:Int)) (64:Int)) fun r_1 =>
 (I64 (i + (1:Int)) ∧
 again r_1 (i + (1:Int)) w1))
 ((I64 (i + (1:Int)) ∧
 again (shl .u64 r (1:Int)) (i + (1:Int)) w1)))
 (R (.int .u64 (andI .u64 r (1:Int))) w1)))
 (1:Int) (0:Int) w
theorem V_ref1_rc_eq (t : Int) (w : World) (R : Value → World → Prop) : evF Pr ⟨true, true⟩ [] [(3, [(3, .int .u64), (4, .int .i64)])] Tryd.f134 [.int .i64 t] w R = V_ref1_rc t w R := by kernel_rfl
theorem V_ref1_rc_of {t : Int} {w : World} {R : Value → World → Prop} (h : V_ref1_rc t w R) : Ok Pr f_ref1_rc [.int .i64 t] w R :=
  have g := (V_ref1_rc_eq t w R).mpr h
  evF_ok good Tryd.func134 (by kernel_rfl) g

def V_ref1_Chi (a : List Value) (w : World) (R : Value → World → Prop) : Prop :=
 nw t_25_uint64 a w fun p w1 =>
 nw t_25_uint64 (zc Pr t_25_uint64) w1 fun p_1 w2 =>
 nw t_25_uint64 (zc Pr t_25_uint64) w2 fun p_2 w3 =>
 loop1 (fun (x : Int) => [(4, some (.int .i64 x))])
 (fun again x w4 => iteP (decide (x < (5:Int)))
 (loop1 (fun (y : Int) => [(5, some (.int .i64 y))])
 (fun again_1 y w5 => iteP (decide (y < (5:Int)))
 ((I64 (x + (1:Int)) ∧
 (I64 (x + (2:Int)) ∧
 callK Pr f_ref1_at [.int .i64 x, .int .i64 y] (World.drew w5) fun v w6 =>
 asI .i64 v fun t16 =>
 callK Pr f_ref1_at [.int .i64 x, .int .i64 y] w6 fun v_1 w7 =>
 asI .i64 v_1 fun t19 =>
 idx t19 25
 (ldI .u64 (Addr.add p (Int.toNat t19 * 1)) w7 fun t21 =>
 callK Pr f_ref1_at [.int .i64 (x + (1:Int)), .int .i64 y] w7 fun v_2 w8 =>
 asI .i64 v_2 fun t25 =>
 (kept (Addr.add p (Int.toNat t19 * 1)) 1 w7 w8 ∧
 idx t25 25
 (ldI .u64 (Addr.add p (Int.toNat t25 * 1)) w8 fun t27 =>
 callK Pr f_ref1_at [.int .i64 (x + (2:Int)), .int .i64 y] w8 fun v_3 w9 =>
 asI .i64 v_3 fun t32 =>
 (kept (Addr.add p (Int.toNat t25 * 1)) 1 w8 w9 ∧
 (kept (Addr.add p (Int.toNat t19 * 1)) 1 w8 w9 ∧
 idx t32 25
 (ldI .u64 (Addr.add p (Int.toNat t32 * 1)) w9 fun t34 =>
 idx t16 25
 (st (Addr.add p_2 (Int.toNat t16 * 1)) (.int .u64 (xorI .u64 t21 (andI .u64 (notI .u64 t27) t34))) w9 fun w10 =>
 (I64 (y + (1:Int)) ∧
 again_1 (y + (1:Int)) w10)))))))))))
 ((I64 (x + (1:Int)) ∧
 again (x + (1:Int)) w5)))
 (0:Int) w4)
 (ldA 25 p_2 w4 fun t38 =>
 stA 25 p_1 t38 w4 fun w11 =>
 ldA 25 p_1 w11 fun res =>
 R (.agg ⟨res⟩) w11))
 (0:Int) w3
theorem V_ref1_Chi_eq (a : List Value) (w : World) (R : Value → World → Prop) : evF Pr ⟨true, true⟩ [] [(3, [(4, .int .i64)]), (6, [(5, .int .i64)])] Tryd.f135 [.agg ⟨a⟩] w R = V_ref1_Chi a w R := by kernel_rfl
theorem V_ref1_Chi_of {a : List Value} {w : World} {R : Value → World → Prop} (h : V_ref1_Chi a w R) : Ok Pr f_ref1_Chi [.agg ⟨a⟩] w R :=
  have g := (V_ref1_Chi_eq a w R).mpr h
  evF_ok good Tryd.func135 (by kernel_rfl) g

def V_ref1_Pi (a : List Value) (w : World) (R : Value → World → Prop) : Prop :=
 nw t_25_uint64 a w fun p w1 =>
 nw t_25_uint64 (zc Pr t_25_uint64) w1 fun p_1 w2 =>
 nw t_25_uint64 (zc Pr t_25_uint64) w2 fun p_2 w3 =>
 loop1 (fun (x : Int) => [(4, some (.int .i64 x))])
 (fun again x w4 => iteP (decide (x < (5:Int)))
 (loop1 (fun (y : Int) => [(5, some (.int .i64 y))])
 (fun again_1 y w5 => iteP (decide (y < (5:Int)))
 (callK Pr f_ref1_at [.int .i64 x, .int .i64 y] w5 fun v w6 =>
 asI .i64 v fun t16 =>
 (I64 ((3:Int) * y) ∧
 (I64 (x + ((3:Int) * y)) ∧
 callK Pr f_ref1_at [.int .i64 (x + ((3:Int) * y)), .int .i64 x] w6 fun v_1 w7 =>
 asI .i64 v_1 fun t22 =>
 idx t22 25
 (ldI .u64 (Addr.add p (Int.toNat t22 * 1)) w7 fun t24 =>
 idx t16 25
 (st (Addr.add p_2 (Int.toNat t16 * 1)) (.int .u64 t24) w7 fun w8 =>
 (I64 (y + (1:Int)) ∧
 again_1 (y + (1:Int)) w8))))))
 ((I64 (x + (1:Int)) ∧
 again (x + (1:Int)) w5)))
 (0:Int) w4)
 (ldA 25 p_2 w4 fun t26 =>
 stA 25 p_1 t26 w4 fun w9 =>
 ldA 25 p_1 w9 fun res =>
 R (.agg ⟨res⟩) w9))
 (0:Int) w3
theorem V_ref1_Pi_eq (a : List Value) (w : World) (R : Value → World → Prop) : evF Pr ⟨true, true⟩ [] [(3, [(4, .int .i64)]), (6, [(5, .int .i64)])] Tryd.f136 [.agg ⟨a⟩] w R = V_ref1_Pi a w R := by kernel_rfl
theorem V_ref1_Pi_of {a : List Value} {w : World} {R : Value → World → Prop} (h : V_ref1_Pi a w R) : Ok Pr f_ref1_Pi [.agg ⟨a⟩] w R :=
  have g := (V_ref1_Pi_eq a w R).mpr h
  evF_ok good Tryd.func136 (by kernel_rfl) g

def V_ref1_Rho (a : List Value) (w : World) (R : Value → World → Prop) : Prop :=
 nw t_25_uint64 a w fun p w1 =>
 nw t_25_uint64 (zc Pr t_25_uint64) w1 fun p_1 w2 =>
 ldA 25 p w2 fun t7 =>
 nw t_25_uint64 (zc Pr t_25_uint64) w2 fun p_2 w3 =>
 stA 25 p_2 t7 w3 fun w4 =>
 loop3 (fun (x : Int) (y : Int) (t : Int) => [(4, some (.int .i64 x)), (5, some (.int .i64 y)), (6, some (.int .i64 t))])
 (fun again x y t w5 => iteP (decide (t < (24:Int)))
 (callK Pr f_ref1_at [.int .i64 x, .int .i64 y] w5 fun v w6 =>
 asI .i64 v fun t14 =>
 callK Pr f_ref1_at [.int .i64 x, .int .i64 y] w6 fun v_1 w7 =>
 asI .i64 v_1 fun t17 =>
 idx t17 25
 (ldI .u64 (Addr.add p (Int.toNat t17 * 1)) w7 fun t19 =>
 (I64 (t + (1:Int)) ∧
 (I64 (t + (2:Int)) ∧
 (I64 ((t + (1:Int)) * (t + (2:Int))) ∧
 ((0 ≤ (t + (1:Int)) * (t + (2:Int)) ∧ (t + (1:Int)) * (t + (2:Int)) ≤ IntKind.max .i64) ∧
 (0 ≤ ((t + (1:Int)) * (t + (2:Int))) / (2:Int) ∧
 callK Pr f_math_bits_RotateLeft64 [.int .u64 t19, .int .i64 ((((t + (1:Int)) * (t + (2:Int))) / (2:Int)) % (64:Int))] w7 fun v_2 w8 =>
 asI .u64 v_2 fun t27 =>
 idx t14 25
 (st (Addr.add p_2 (Int.toNat t14 * 1)) (.int .u64 t27) w8 fun w9 =>
 (I64 ((2:Int) * x) ∧
 (I64 ((3:Int) * y) ∧
 (I64 (((2:Int) * x) + ((3:Int) * y)) ∧
 (0 ≤ ((2:Int) * x) + ((3:Int) * y) ∧
 lt (A := Int) ((((2:Int) * x) + ((3:Int) * y)) % (5:Int)) fun y_1 =>
 (I64 (t + (1:Int)) ∧
 again y y_1 (t + (1:Int)) w9)))))))))))))
 (ldA 25 p_2 w5 fun t36 =>
 stA 25 p_1 t36 w5 fun w10 =>
 ldA 25 p_1 w10 fun res =>
 R (.agg ⟨res⟩) w10))
 (1:Int) (0:Int) (0:Int) w4
theorem V_ref1_Rho_eq (a : List Value) (w : World) (R : Value → World → Prop) : evF Pr ⟨true, true⟩ [] [(4, [(4, .int .i64), (5, .int .i64), (6, .int .i64)])] Tryd.f137 [.agg ⟨a⟩] w R = V_ref1_Rho a w R := by kernel_rfl
theorem V_ref1_Rho_of {a : List Value} {w : World} {R : Value → World → Prop} (h : V_ref1_Rho a w R) : Ok Pr f_ref1_Rho [.agg ⟨a⟩] w R :=
  have g := (V_ref1_Rho_eq a w R).mpr h
  evF_ok good Tryd.func137 (by kernel_rfl) g

def V_ref1_Theta (a : List Value) (w : World) (R : Value → World → Prop) : Prop :=
 nw t_25_uint64 a w fun p w1 =>
 nw t_25_uint64 (zc Pr t_25_uint64) w1 fun p_1 w2 =>
 nw t_5_uint64 (zc Pr t_5_uint64) w2 fun p_2 w3 =>
 loop1 (fun (i : Int) => [(4, some (.int .i64 i))])
 (fun again i w4 => iteP (decide (i < (25:Int)))
 ((0 ≤ i ∧
 (0 ≤ i ∧
 idx (i % (5:Int)) 5
 (ldI .u64 (Addr.add p_2 (Int.toNat (i % (5:Int)) * 1)) (World.drew w4) fun t16 =>
 idx i 25
 (ldI .u64 (Addr.add p (Int.toNat i * 1)) (World.drew w4) fun t19 =>
 idx (i % (5:Int)) 5
 (st (Addr.add p_2 (Int.toNat (i % (5:Int)) * 1)) (.int .u64 (xorI .u64 t16 t19)) (World.drew w4) fun w5 =>
 (I64 (i + (1:Int)) ∧
 again (i + (1:Int)) w5)))))))
 (nw t_25_uint64 (zc Pr t_25_uint64) w4 fun p_3 w6 =>
 loop1 (fun (i_1 : Int) => [(6, some (.int .i64 i_1))])
 (fun again_1 i_1 w7 => iteP (decide (i_1 < (25:Int)))
 (idx i_1 25
 (ldI .u64 (Addr.add p (Int.toNat i_1 * 1)) (World.drew w7) fun t29 =>
 (I64 (i_1 + (4:Int)) ∧
 (0 ≤ i_1 + (4:Int) ∧
 idx ((i_1 + (4:Int)) % (5:Int)) 5
 (ldI .u64 (Addr.add p_2 (Int.toNat ((i_1 + (4:Int)) % (5:Int)) * 1)) (World.drew w7) fun t34 =>
 (I64 (i_1 + (1:Int)) ∧
 (0 ≤ i_1 + (1:Int) ∧
 idx ((i_1 + (1:Int)) % (5:Int)) 5
 (ldI .u64 (Addr.add p_2 (Int.toNat ((i_1 + (1:Int)) % (5:Int)) * 1)) (World.drew w7) fun t40 =>
 callK Pr f_math_bits_RotateLeft64 [.int .u64 t40, .int .i64 (1:Int)] (World.drew w7) fun v w8 =>
 asI .u64 v fun t41 =>
 (kept (Addr.add p_2 (Int.toNat ((i_1 + (4:Int)) % (5:Int)) * 1)) 1 (World.drew w7) w8 ∧
 (kept (Addr.add p (Int.toNat i_1 * 1)) 1 (World.drew w7) w8 ∧
 idx i_1 25
 (st (Addr.add p_3 (Int.toNat i_1 * 1)) (.int .u64 (xorI .u64 (xorI .u64 t29 t34) t41)) w8 fun w9 =>
 (I64 (i_1 + (1:Int)) ∧
 again_1 (i_1 + (1:Int)) w9))))))))))))
 (ldA 25 p_3 w7 fun t44 =>
 stA 25 p_1 t44 w7 fun w10 =>
 ldA 25 p_1 w10 fun res =>
 R (.agg ⟨res⟩) w10))
 (0:Int) w6))
 (0:Int) w3
theorem V_ref1_Theta_eq (a : List Value) (w : World) (R : Value → World → Prop) : evF Pr ⟨true, true⟩ [] [(3, [(4, .int .i64)]), (8, [(6, .int .i64)])] Tryd.f138 [.agg ⟨a⟩] w R = V_ref1_Theta a w R := by kernel_rfl
theorem V_ref1_Theta_of {a : List Value} {w : World} {R : Value → World → Prop} (h : V_ref1_Theta a w R) : Ok Pr f_ref1_Theta [.agg ⟨a⟩] w R :=
  have g := (V_ref1_Theta_eq a w R).mpr h
  evF_ok good Tryd.func138 (by kernel_rfl) g

def V_math_bits_Len32 (x : Int) (w : World) (R : Value → World → Prop) : Prop :=
 join2 (fun (x_1 : Int) (n : Int) => [(0, some (.int .u32 x_1)), (2, some (.int .i64 n))])
 (fun x_1 n w1 => join2 (fun (x_2 : Int) (n_1 : Int) => [(0, some (.int .u32 x_2)), (2, some (.int .i64 n_1))])
 (fun x_2 n_1 w2 => idx (IntKind.wrap .u8 (x_2)) (ByteArray.size S_empty_14a5d8)
 ((I64 (chr S_empty_14a5d8 (IntKind.wrap .u8 (x_2))) ∧
 (I64 (n_1 + (chr S_empty_14a5d8 (IntKind.wrap .u8 (x_2)))) ∧
 lt (A := Int) (n_1 + (chr S_empty_14a5d8 (IntKind.wrap .u8 (x_2)))) fun n_2 =>
 R (.int .i64 n_2) w2))))
 (fun go =>
 iteP (decide ((256:Int) ≤ x_1))
 ((I64 (n + (8:Int)) ∧
 go (shr .u32 x_1 (8:Int)) (n + (8:Int)) w1))
 (go x_1 n w1)))
 (fun go_1 =>
 iteP (decide ((65536:Int) ≤ x))
 (go_1 (shr .u32 x (16:Int)) (16:Int) w)
 (go_1 x (0:Int) w))
theorem V_math_bits_Len32_eq (x : Int) (w : World) (R : Value → World → Prop) : evF Pr ⟨true, true⟩ [(4, [(0, .int .u32), (2, .int .i64)]), (7, [(0, .int .u32), (2, .int .i64)])] [] Tryd.f139 [.int .u32 x] w R = V_math_bits_Len32 x w R := by kernel_rfl
theorem V_math_bits_Len32_of {x : Int} {w : World} {R : Value → World → Prop} (h : V_math_bits_Len32 x w R) : Ok Pr f_math_bits_Len32 [.int .u32 x] w R :=
  have g := (V_math_bits_Len32_eq x w R).mpr h
  evF_ok good Tryd.func139 (by kernel_rfl) g

def V_math_bits_Len64 (x : Int) (w : World) (R : Value → World → Prop) : Prop :=
 join2 (fun (x_1 : Int) (n : Int) => [(0, some (.int .u64 x_1)), (2, some (.int .i64 n))])
 (fun x_1 n w1 => join2 (fun (x_2 : Int) (n_1 : Int) => [(0, some (.int .u64 x_2)), (2, some (.int .i64 n_1))])
 (fun x_2 n_1 w2 => join2 (fun (x_3 : Int) (n_2 : Int) => [(0, some (.int .u64 x_3)), (2, some (.int .i64 n_2))])
 (fun x_3 n_2 w3 => idx (IntKind.wrap .u8 (x_3)) (ByteArray.size S_empty_14a5d8)
 ((I64 (chr S_empty_14a5d8 (IntKind.wrap .u8 (x_3))) ∧
 (I64 (n_2 + (chr S_empty_14a5d8 (IntKind.wrap .u8 (x_3)))) ∧
 lt (A := Int) (n_2 + (chr S_empty_14a5d8 (IntKind.wrap .u8 (x_3)))) fun n_3 =>
 R (.int .i64 n_3) w3))))
 (fun go =>
 iteP (decide ((256:Int) ≤ x_2))
 ((I64 (n_1 + (8:Int)) ∧
 go (shr .u64 x_2 (8:Int)) (n_1 + (8:Int)) w2))
 (go x_2 n_1 w2)))
 (fun go_1 =>
 iteP (decide ((65536:Int) ≤ x_1))
 ((I64 (n + (16:Int)) ∧
 go_1 (shr .u64 x_1 (16:Int)) (n + (16:Int)) w1))
 (go_1 x_1 n w1)))
 (fun go_2 =>
 iteP (decide ((4294967296:Int) ≤ x))
 (go_2 (shr .u64 x (32:Int)) (32:Int) w)
 (go_2 x (0:Int) w))
theorem V_math_bits_Len64_eq (x : Int) (w : World) (R : Value → World → Prop) : evF Pr ⟨true, true⟩ [(4, [(0, .int .u64), (2, .int .i64)]), (7, [(0, .int .u64), (2, .int .i64)]), (10, [(0, .int .u64), (2, .int .i64)])] [] Tryd.f140 [.int .u64 x] w R = V_math_bits_Len64 x w R := by kernel_rfl
theorem V_math_bits_Len64_of {x : Int} {w : World} {R : Value → World → Prop} (h : V_math_bits_Len64 x w R) : Ok Pr f_math_bits_Len64 [.int .u64 x] w R :=
  have g := (V_math_bits_Len64_eq x w R).mpr h
  evF_ok good Tryd.func140 (by kernel_rfl) g

def V_keccak_Iota (a : List Value) (round : Int) (w : World) (R : Value → World → Prop) : Prop :=
 nw t_25_uint64 a w fun p w1 =>
 nw t_25_uint64 (zc Pr t_25_uint64) w1 fun p_1 w2 =>
 iteP ((decide (round < (0:Int))) || (decide ((23:Int) < round)))
 (ldA 25 p w2 fun t12 =>
 stA 25 p_1 t12 w2 fun w3 =>
 ldA 25 p_1 w3 fun res =>
 R (.agg ⟨res⟩) w3)
 (nw t_24_uint64 (zc Pr t_24_uint64) w2 fun p_2 w4 =>
 stA 24 p_2 ([.int .u64 (1:Int), .int .u64 (32898:Int), .int .u64 (9223372036854808714:Int), .int .u64 (9223372039002292224:Int), .int .u64 (32907:Int), .int .u64 (2147483649:Int), .int .u64 (9223372039002292353:Int), .int .u64 (9223372036854808585:Int), .int .u64 (138:Int), .int .u64 (136:Int), .int .u64 (2147516425:Int), .int .u64 (2147483658:Int), .int .u64 (2147516555:Int), .int .u64 (9223372036854775947:Int), .int .u64 (9223372036854808713:Int), .int .u64 (9223372036854808579:Int), .int .u64 (9223372036854808578:Int), .int .u64 (9223372036854775936:Int), .int .u64 (32778:Int), .int .u64 (9223372039002259466:Int), .int .u64 (9223372039002292353:Int), .int .u64 (9223372036854808704:Int), .int .u64 (2147483649:Int), .int .u64 (9223372039002292232:Int)]) w4 fun w5 =>
 idx (0:Int) 25
 (ldI .u64 (Addr.add p (Int.toNat (0:Int) * 1)) (World.drew w5) fun t15 =>
 idx round 24
 (ldI .u64 (Addr.add p_2 (Int.toNat round * 1)) (World.drew w5) fun t18 =>
 idx (0:Int) 25
 (st (Addr.add p (Int.toNat (0:Int) * 1)) (.int .u64 (xorI .u64 t15 t18)) (World.drew w5) fun w6 =>
 ldA 25 p w6 fun t21 =>
 stA 25 p_1 t21 w6 fun w7 =>
 ldA 25 p_1 w7 fun res_1 =>
 R (.agg ⟨res_1⟩) w7))))
theorem V_keccak_Iota_eq (a : List Value) (round : Int) (w : World) (R : Value → World → Prop) : evF Pr ⟨true, true⟩ [] [] Tryd.f141 [.agg ⟨a⟩, .int .i64 round] w R = V_keccak_Iota a round w R := by kernel_rfl
theorem V_keccak_Iota_of {a : List Value} {round : Int} {w : World} {R : Value → World → Prop} (h : V_keccak_Iota a round w R) : Ok Pr f_keccak_Iota [.agg ⟨a⟩, .int .i64 round] w R :=
  have g := (V_keccak_Iota_eq a round w R).mpr h
  evF_ok good Tryd.func141 (by kernel_rfl) g

def V_keccak_Chi (a : List Value) (w : World) (R : Value → World → Prop) : Prop :=
 nw t_25_uint64 a w fun p w1 =>
 nw t_25_uint64 (zc Pr t_25_uint64) w1 fun p_1 w2 =>
 ldA 25 p w2 fun t6 =>
 nw t_25_uint64 (zc Pr t_25_uint64) w2 fun p_2 w3 =>
 stA 25 p_2 t6 w3 fun w4 =>
 loop1 (fun (t7 : Int) => [(7, some (.int .i64 t7))])
 (fun again t7 w5 => iteP (decide (t7 < (5:Int)))
 (loop1 (fun (t10 : Int) => [(10, some (.int .i64 t10))])
 (fun again_1 t10 w6 => iteP (decide (t10 < (5:Int)))
 ((I64 (t10 + (1:Int)) ∧
 (I64 (t10 + (2:Int)) ∧
 callK Pr f_keccak_at [.int .i64 t10, .int .i64 t7] (World.drew w6) fun v w7 =>
 asI .i64 v fun t15 =>
 idx t15 25
 (ldI .u64 (Addr.add p_2 (Int.toNat t15 * 1)) w7 fun t17 =>
 callK Pr f_keccak_at [.int .i64 (t10 + (1:Int)), .int .i64 t7] w7 fun v_1 w8 =>
 asI .i64 v_1 fun t21 =>
 (kept (Addr.add p_2 (Int.toNat t15 * 1)) 1 w7 w8 ∧
 idx t21 25
 (ldI .u64 (Addr.add p (Int.toNat t21 * 1)) w8 fun t23 =>
 callK Pr f_keccak_at [.int .i64 (t10 + (2:Int)), .int .i64 t7] w8 fun v_2 w9 =>
 asI .i64 v_2 fun t28 =>
 (kept (Addr.add p (Int.toNat t21 * 1)) 1 w8 w9 ∧
 (kept (Addr.add p_2 (Int.toNat t15 * 1)) 1 w8 w9 ∧
 idx t28 25
 (ldI .u64 (Addr.add p (Int.toNat t28 * 1)) w9 fun t30 =>
 idx t15 25
 (st (Addr.add p_2 (Int.toNat t15 * 1)) (.int .u64 (xorI .u64 t17 (andI .u64 (notI .u64 t23) t30))) w9 fun w10 =>
 (I64 (t10 + (1:Int)) ∧
 again_1 (t10 + (1:Int)) w10)))))))))))
 ((I64 (t7 + (1:Int)) ∧
 again (t7 + (1:Int)) w6)))
 (0:Int) w5)
 (ldA 25 p_2 w5 fun t36 =>
 stA 25 p_1 t36 w5 fun w11 =>
 ldA 25 p_1 w11 fun res =>
 R (.agg ⟨res⟩) w11))
 (0:Int) w4
theorem V_keccak_Chi_eq (a : List Value) (w : World) (R : Value → World → Prop) : evF Pr ⟨true, true⟩ [] [(3, [(7, .int .i64)]), (6, [(10, .int .i64)])] Tryd.f142 [.agg ⟨a⟩] w R = V_keccak_Chi a w R := by kernel_rfl
theorem V_keccak_Chi_of {a : List Value} {w : World} {R : Value → World → Prop} (h : V_keccak_Chi a w R) : Ok Pr f_keccak_Chi [.agg ⟨a⟩] w R :=
  have g := (V_keccak_Chi_eq a w R).mpr h
  evF_ok good Tryd.func142 (by kernel_rfl) g

def V_keccak_Pi (a : List Value) (w : World) (R : Value → World → Prop) : Prop :=
 nw t_25_uint64 a w fun p w1 =>
 nw t_25_uint64 (zc Pr t_25_uint64) w1 fun p_1 w2 =>
 nw t_25_uint64 (zc Pr t_25_uint64) w2 fun p_2 w3 =>
 loop1 (fun (t6 : Int) => [(6, some (.int .i64 t6))])
 (fun again t6 w4 => iteP (decide (t6 < (5:Int)))
 (loop1 (fun (t9 : Int) => [(9, some (.int .i64 t9))])
 (fun again_1 t9 w5 => iteP (decide (t9 < (5:Int)))
 (callK Pr f_keccak_at [.int .i64 t9, .int .i64 t6] w5 fun v w6 =>
 asI .i64 v fun t14 =>
 (I64 ((3:Int) * t6) ∧
 (I64 (t9 + ((3:Int) * t6)) ∧
 callK Pr f_keccak_at [.int .i64 (t9 + ((3:Int) * t6)), .int .i64 t9] w6 fun v_1 w7 =>
 asI .i64 v_1 fun t20 =>
 idx t20 25
 (ldI .u64 (Addr.add p (Int.toNat t20 * 1)) w7 fun t22 =>
 idx t14 25
 (st (Addr.add p_2 (Int.toNat t14 * 1)) (.int .u64 t22) w7 fun w8 =>
 (I64 (t9 + (1:Int)) ∧
 again_1 (t9 + (1:Int)) w8))))))
 ((I64 (t6 + (1:Int)) ∧
 again (t6 + (1:Int)) w5)))
 (0:Int) w4)
 (ldA 25 p_2 w4 fun t26 =>
 stA 25 p_1 t26 w4 fun w9 =>
 ldA 25 p_1 w9 fun res =>
 R (.agg ⟨res⟩) w9))
 (0:Int) w3
theorem V_keccak_Pi_eq (a : List Value) (w : World) (R : Value → World → Prop) : evF Pr ⟨true, true⟩ [] [(3, [(6, .int .i64)]), (6, [(9, .int .i64)])] Tryd.f143 [.agg ⟨a⟩] w R = V_keccak_Pi a w R := by kernel_rfl
theorem V_keccak_Pi_of {a : List Value} {w : World} {R : Value → World → Prop} (h : V_keccak_Pi a w R) : Ok Pr f_keccak_Pi [.agg ⟨a⟩] w R :=
  have g := (V_keccak_Pi_eq a w R).mpr h
  evF_ok good Tryd.func143 (by kernel_rfl) g

def V_keccak_Rho (a : List Value) (w : World) (R : Value → World → Prop) : Prop :=
 nw t_25_uint64 a w fun p w1 =>
 nw t_25_uint64 (zc Pr t_25_uint64) w1 fun p_1 w2 =>
 loop3 (fun (x : Int) (y : Int) (t : Int) => [(3, some (.int .i64 x)), (4, some (.int .i64 y)), (5, some (.int .i64 t))])
 (fun again x y t w3 => iteP (decide (t ≤ (24:Int)))
 (callK Pr f_keccak_at [.int .i64 x, .int .i64 y] w3 fun v w4 =>
 asI .i64 v fun t13 =>
 idx t13 25
 (ldI .u64 (Addr.add p (Int.toNat t13 * 1)) w4 fun t17 =>
 (I64 (t + (1:Int)) ∧
 (I64 (t * (t + (1:Int))) ∧
 ((0 ≤ t * (t + (1:Int)) ∧ t * (t + (1:Int)) ≤ IntKind.max .i64) ∧
 (0 ≤ (t * (t + (1:Int))) / (2:Int) ∧
 callK Pr f_math_bits_RotateLeft64 [.int .u64 t17, .int .i64 (((t * (t + (1:Int))) / (2:Int)) % (64:Int))] w4 fun v_1 w5 =>
 asI .u64 v_1 fun t24 =>
 idx t13 25
 (st (Addr.add p (Int.toNat t13 * 1)) (.int .u64 t24) w5 fun w6 =>
 (I64 ((2:Int) * x) ∧
 (I64 ((3:Int) * y) ∧
 (I64 (((2:Int) * x) + ((3:Int) * y)) ∧
 (0 ≤ ((2:Int) * x) + ((3:Int) * y) ∧
 lt (A := Int) ((((2:Int) * x) + ((3:Int) * y)) % (5:Int)) fun y_1 =>
 (I64 (t + (1:Int)) ∧
 again y y_1 (t + (1:Int)) w6))))))))))))
 (ldA 25 p w3 fun t33 =>
 stA 25 p_1 t33 w3 fun w7 =>
 ldA 25 p_1 w7 fun res =>
 R (.agg ⟨res⟩) w7))
 (1:Int) (0:Int) (1:Int) w2
theorem V_keccak_Rho_eq (a : List Value) (w : World) (R : Value → World → Prop) : evF Pr ⟨true, true⟩ [] [(3, [(3, .int .i64), (4, .int .i64), (5, .int .i64)])] Tryd.f144 [.agg ⟨a⟩] w R = V_keccak_Rho a w R := by kernel_rfl
theorem V_keccak_Rho_of {a : List Value} {w : World} {R : Value → World → Prop} (h : V_keccak_Rho a w R) : Ok Pr f_keccak_Rho [.agg ⟨a⟩] w R :=
  have g := (V_keccak_Rho_eq a w R).mpr h
  evF_ok good Tryd.func144 (by kernel_rfl) g

def V_keccak_Theta (a : List Value) (w : World) (R : Value → World → Prop) : Prop :=
 nw t_25_uint64 a w fun p w1 =>
 nw t_25_uint64 (zc Pr t_25_uint64) w1 fun p_1 w2 =>
 nw t_5_uint64 (zc Pr t_5_uint64) w2 fun p_2 w3 =>
 ldA 25 p w3 fun t8 =>
 loop1 (fun (t9 : Int) => [(9, some (.int .i64 t9))])
 (fun again t9 w4 => iteP (decide (t9 < (25:Int)))
 (atI .u64 t8 t9 25 fun t12 =>
 (0 ≤ t9 ∧
 idx (t9 % (5:Int)) 5
 (ldI .u64 (Addr.add p_2 (Int.toNat (t9 % (5:Int)) * 1)) w4 fun t16 =>
 idx (t9 % (5:Int)) 5
 (st (Addr.add p_2 (Int.toNat (t9 % (5:Int)) * 1)) (.int .u64 (xorI .u64 t16 t12)) w4 fun w5 =>
 (I64 (t9 + (1:Int)) ∧
 again (t9 + (1:Int)) w5)))))
 (loop1 (fun (t21 : Int) => [(21, some (.int .i64 t21))])
 (fun again_1 t21 w6 => iteP (decide (t21 < (25:Int)))
 ((0 ≤ t21 ∧
 idx t21 25
 (ldI .u64 (Addr.add p (Int.toNat t21 * 1)) (World.drew w6) fun t28 =>
 (I64 ((t21 % (5:Int)) + (4:Int)) ∧
 (0 ≤ (t21 % (5:Int)) + (4:Int) ∧
 idx (((t21 % (5:Int)) + (4:Int)) % (5:Int)) 5
 (ldI .u64 (Addr.add p_2 (Int.toNat (((t21 % (5:Int)) + (4:Int)) % (5:Int)) * 1)) (World.drew w6) fun t33 =>
 (I64 ((t21 % (5:Int)) + (1:Int)) ∧
 (0 ≤ (t21 % (5:Int)) + (1:Int) ∧
 idx (((t21 % (5:Int)) + (1:Int)) % (5:Int)) 5
 (ldI .u64 (Addr.add p_2 (Int.toNat (((t21 % (5:Int)) + (1:Int)) % (5:Int)) * 1)) (World.drew w6) fun t38 =>
 callK Pr f_math_bits_RotateLeft64 [.int .u64 t38, .int .i64 (1:Int)] (World.drew w6) fun v w7 =>
 asI .u64 v fun t39 =>
 (kept (Addr.add p_2 (Int.toNat (((t21 % (5:Int)) + (4:Int)) % (5:Int)) * 1)) 1 (World.drew w6) w7 ∧
 (kept (Addr.add p (Int.toNat t21 * 1)) 1 (World.drew w6) w7 ∧
 idx t21 25
 (st (Addr.add p (Int.toNat t21 * 1)) (.int .u64 (xorI .u64 t28 (xorI .u64 t33 t39))) w7 fun w8 =>
 (I64 (t21 + (1:Int)) ∧
 again_1 (t21 + (1:Int)) w8)))))))))))))
 (ldA 25 p w6 fun t44 =>
 stA 25 p_1 t44 w6 fun w9 =>
 ldA 25 p_1 w9 fun res =>
 R (.agg ⟨res⟩) w9))
 (0:Int) w4))
 (0:Int) w3
theorem V_keccak_Theta_eq (a : List Value) (w : World) (R : Value → World → Prop) : evF Pr ⟨true, true⟩ [] [(3, [(9, .int .i64)]), (8, [(21, .int .i64)])] Tryd.f145 [.agg ⟨a⟩] w R = V_keccak_Theta a w R := by kernel_rfl
theorem V_keccak_Theta_of {a : List Value} {w : World} {R : Value → World → Prop} (h : V_keccak_Theta a w R) : Ok Pr f_keccak_Theta [.agg ⟨a⟩] w R :=
  have g := (V_keccak_Theta_eq a w R).mpr h
  evF_ok good Tryd.func145 (by kernel_rfl) g

def V_ref1_at (x : Int) (y : Int) (w : World) (R : Value → World → Prop) : Prop :=
 (I64 (x + (10:Int)) ∧
 (0 ≤ x + (10:Int) ∧
 (I64 (y + (10:Int)) ∧
 (0 ≤ y + (10:Int) ∧
 (I64 ((5:Int) * ((y + (10:Int)) % (5:Int))) ∧
 (I64 (((x + (10:Int)) % (5:Int)) + ((5:Int) * ((y + (10:Int)) % (5:Int)))) ∧
 R (.int .i64 (((x + (10:Int)) % (5:Int)) + ((5:Int) * ((y + (10:Int)) % (5:Int))))) w))))))
theorem V_ref1_at_eq (x : Int) (y : Int) (w : World) (R : Value → World → Prop) : evF Pr ⟨true, true⟩ [] [] Tryd.f146 [.int .i64 x, .int .i64 y] w R = V_ref1_at x y w R := by kernel_rfl
theorem V_ref1_at_of {x : Int} {y : Int} {w : World} {R : Value → World → Prop} (h : V_ref1_at x y w R) : Ok Pr f_ref1_at [.int .i64 x, .int .i64 y] w R :=
  have g := (V_ref1_at_eq x y w R).mpr h
  evF_ok good Tryd.func146 (by kernel_rfl) g

def V_math_bits_RotateLeft64 (x : Int) (kv : Int) (w : World) (R : Value → World → Prop) : Prop :=
 lt (A := Int) (andI .u64 (IntKind.wrap .u64 (kv)) (63:Int)) fun s =>
 cnt s (cnt (IntKind.wrap .u64 ((64:Int) - s)) (R (.int .u64 (orI .u64 (shl .u64 x s) (shr .u64 x (IntKind.wrap .u64 ((64:Int) - s))))) w))
theorem V_math_bits_RotateLeft64_eq (x : Int) (kv : Int) (w : World) (R : Value → World → Prop) : evF Pr ⟨true, true⟩ [] [] Tryd.f147 [.int .u64 x, .int .i64 kv] w R = V_math_bits_RotateLeft64 x kv w R := by kernel_rfl
theorem V_math_bits_RotateLeft64_of {x : Int} {kv : Int} {w : World} {R : Value → World → Prop} (h : V_math_bits_RotateLeft64 x kv w R) : Ok Pr f_math_bits_RotateLeft64 [.int .u64 x, .int .i64 kv] w R :=
  have g := (V_math_bits_RotateLeft64_eq x kv w R).mpr h
  evF_ok good Tryd.func147 (by kernel_rfl) g

def V_keccak_at (x : Int) (y : Int) (w : World) (R : Value → World → Prop) : Prop :=
 (0 ≤ x ∧
 (0 ≤ y ∧
 (I64 ((5:Int) * (y % (5:Int))) ∧
 (I64 ((x % (5:Int)) + ((5:Int) * (y % (5:Int)))) ∧
 R (.int .i64 ((x % (5:Int)) + ((5:Int) * (y % (5:Int))))) w))))
theorem V_keccak_at_eq (x : Int) (y : Int) (w : World) (R : Value → World → Prop) : evF Pr ⟨true, true⟩ [] [] Tryd.f148 [.int .i64 x, .int .i64 y] w R = V_keccak_at x y w R := by kernel_rfl
theorem V_keccak_at_of {x : Int} {y : Int} {w : World} {R : Value → World → Prop} (h : V_keccak_at x y w R) : Ok Pr f_keccak_at [.int .i64 x, .int .i64 y] w R :=
  have g := (V_keccak_at_eq x y w R).mpr h
  evF_ok good Tryd.func148 (by kernel_rfl) g

def V_api_Fault_Unwrap (f : Option Addr) (w : World) (R : Value → World → Prop) : Prop :=
 nilchk f fun a =>
 ldI .i64 (Addr.add a 0) w fun t6 =>
 R (.iface t_api_Errno (.int .i64 t6)) w
theorem V_api_Fault_Unwrap_eq (f : Option Addr) (w : World) (R : Value → World → Prop) : evF Pr ⟨true, true⟩ [] [] Tryd.f168 [.pointer f] w R = V_api_Fault_Unwrap f w R := by kernel_rfl
theorem V_api_Fault_Unwrap_of {f : Option Addr} {w : World} {R : Value → World → Prop} (h : V_api_Fault_Unwrap f w R) : Ok Pr f_api_Fault_Unwrap [.pointer f] w R :=
  have g := (V_api_Fault_Unwrap_eq f w R).mpr h
  evF_ok good Tryd.func168 (by kernel_rfl) g
end Go.Proofs.YtoeedbljiocpdaaDoor
