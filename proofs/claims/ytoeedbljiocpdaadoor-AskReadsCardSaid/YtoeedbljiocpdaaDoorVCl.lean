/- WHAT THE CODE OF EACH FUNCTION ASKS FOR, by a program of this claim's author (vc.py); each is held against the code by the kernel. -/
import Derived.Test.YtoeedbljiocpdaaDoorN
import Derived.Test.YtoeedbljiocpdaaDoorEvOk8
import Derived.KernelRfl
import Derived.Test.YtoeedbljiocpdaaDoorVC
namespace Go.Proofs.YtoeedbljiocpdaaDoor
open Go Go.Ev
set_option maxRecDepth 100000
set_option linter.unusedVariables false
def V_law0_GreatAsk (ac0 : Int) (ac1 : Int) (ac2 : Int) (ac3 : Int) (ac4 : Int) (ac5 : Int) (ac6 : Int) (ac7 : Int) (ac8 : Int) (ac9 : Int) (ac10 : Int) (ac11 : ByteArray) (ac12 : SlV) (ac13 : SlV) (w : World) (R : Value → World → Prop) : Prop :=
 nw t_api_Ask [.int .i64 ac0, .int .i64 ac1, .int .i64 ac2, .int .i64 ac3, .int .i64 ac4, .int .i64 ac5, .int .i64 ac6, .int .i64 ac7, .int .i64 ac8, .int .i64 ac9, .int .i64 ac10, .string ac11, .slice ac12.a ac12.n ac12.c, .slice ac13.a ac13.n ac13.c] w fun p w1 =>
 ldS (Addr.add p 11) w1 fun t4 =>
 ldL (Addr.add p 12) w1 fun t9 =>
 ldL (Addr.add p 13) w1 fun t15 =>
 R (.bool (((decide ((400:Int) < ((ByteArray.size t4 : Nat) : Int))) || (decide ((3000:Int) < ((t9.n : Nat) : Int)))) || (decide ((200:Int) < ((t15.n : Nat) : Int))))) w1
theorem V_law0_GreatAsk_eq (ac0 : Int) (ac1 : Int) (ac2 : Int) (ac3 : Int) (ac4 : Int) (ac5 : Int) (ac6 : Int) (ac7 : Int) (ac8 : Int) (ac9 : Int) (ac10 : Int) (ac11 : ByteArray) (ac12 : SlV) (ac13 : SlV) (w : World) (R : Value → World → Prop) : evF Pr ⟨true, true⟩ [] [] Tryd.f25 [.agg ⟨[.int .i64 ac0, .int .i64 ac1, .int .i64 ac2, .int .i64 ac3, .int .i64 ac4, .int .i64 ac5, .int .i64 ac6, .int .i64 ac7, .int .i64 ac8, .int .i64 ac9, .int .i64 ac10, .string ac11, .slice ac12.a ac12.n ac12.c, .slice ac13.a ac13.n ac13.c]⟩] w R = V_law0_GreatAsk ac0 ac1 ac2 ac3 ac4 ac5 ac6 ac7 ac8 ac9 ac10 ac11 ac12 ac13 w R := by kernel_rfl
theorem V_law0_GreatAsk_of {ac0 : Int} {ac1 : Int} {ac2 : Int} {ac3 : Int} {ac4 : Int} {ac5 : Int} {ac6 : Int} {ac7 : Int} {ac8 : Int} {ac9 : Int} {ac10 : Int} {ac11 : ByteArray} {ac12 : SlV} {ac13 : SlV} {w : World} {R : Value → World → Prop} (h : V_law0_GreatAsk ac0 ac1 ac2 ac3 ac4 ac5 ac6 ac7 ac8 ac9 ac10 ac11 ac12 ac13 w R) : Ok Pr f_law0_GreatAsk [.agg ⟨[.int .i64 ac0, .int .i64 ac1, .int .i64 ac2, .int .i64 ac3, .int .i64 ac4, .int .i64 ac5, .int .i64 ac6, .int .i64 ac7, .int .i64 ac8, .int .i64 ac9, .int .i64 ac10, .string ac11, .slice ac12.a ac12.n ac12.c, .slice ac13.a ac13.n ac13.c]⟩] w R :=
  have g := (V_law0_GreatAsk_eq ac0 ac1 ac2 ac3 ac4 ac5 ac6 ac7 ac8 ac9 ac10 ac11 ac12 ac13 w R).mpr h
  evF_ok good Tryd.func25 (by kernel_rfl) g

def V_law0_SameAsk (ac0 : Int) (ac1 : Int) (ac2 : Int) (ac3 : Int) (ac4 : Int) (ac5 : Int) (ac6 : Int) (ac7 : Int) (ac8 : Int) (ac9 : Int) (ac10 : Int) (ac11 : ByteArray) (ac12 : SlV) (ac13 : SlV) (bc0 : Int) (bc1 : Int) (bc2 : Int) (bc3 : Int) (bc4 : Int) (bc5 : Int) (bc6 : Int) (bc7 : Int) (bc8 : Int) (bc9 : Int) (bc10 : Int) (bc11 : ByteArray) (bc12 : SlV) (bc13 : SlV) (w : World) (R : Value → World → Prop) : Prop :=
 nw t_api_Ask [.int .i64 ac0, .int .i64 ac1, .int .i64 ac2, .int .i64 ac3, .int .i64 ac4, .int .i64 ac5, .int .i64 ac6, .int .i64 ac7, .int .i64 ac8, .int .i64 ac9, .int .i64 ac10, .string ac11, .slice ac12.a ac12.n ac12.c, .slice ac13.a ac13.n ac13.c] w fun p w1 =>
 nw t_api_Ask [.int .i64 bc0, .int .i64 bc1, .int .i64 bc2, .int .i64 bc3, .int .i64 bc4, .int .i64 bc5, .int .i64 bc6, .int .i64 bc7, .int .i64 bc8, .int .i64 bc9, .int .i64 bc10, .string bc11, .slice bc12.a bc12.n bc12.c, .slice bc13.a bc13.n bc13.c] w1 fun p_1 w2 =>
 ldI .i64 (Addr.add p 0) w2 fun t6 =>
 ldI .i64 (Addr.add p_1 0) w2 fun t8 =>
 ldI .i64 (Addr.add p 1) w2 fun t12 =>
 ldI .i64 (Addr.add p_1 1) w2 fun t14 =>
 ldI .i64 (Addr.add p 2) w2 fun t19 =>
 ldI .i64 (Addr.add p_1 2) w2 fun t21 =>
 ldI .i64 (Addr.add p 3) w2 fun t26 =>
 ldI .i64 (Addr.add p_1 3) w2 fun t28 =>
 ldI .i64 (Addr.add p 4) w2 fun t33 =>
 ldI .i64 (Addr.add p_1 4) w2 fun t35 =>
 ldI .i64 (Addr.add p 5) w2 fun t40 =>
 ldI .i64 (Addr.add p_1 5) w2 fun t42 =>
 ldI .i64 (Addr.add p 6) w2 fun t47 =>
 ldI .i64 (Addr.add p_1 6) w2 fun t49 =>
 ldI .i64 (Addr.add p 7) w2 fun t54 =>
 ldI .i64 (Addr.add p_1 7) w2 fun t56 =>
 ldI .i64 (Addr.add p 8) w2 fun t61 =>
 ldI .i64 (Addr.add p_1 8) w2 fun t63 =>
 ldI .i64 (Addr.add p 9) w2 fun t68 =>
 ldI .i64 (Addr.add p_1 9) w2 fun t70 =>
 ldI .i64 (Addr.add p 10) w2 fun t75 =>
 ldI .i64 (Addr.add p_1 10) w2 fun t77 =>
 ldS (Addr.add p 11) w2 fun t82 =>
 ldS (Addr.add p_1 11) w2 fun t84 =>
 ldL (Addr.add p 12) w2 fun t89 =>
 ldL (Addr.add p_1 12) w2 fun t91 =>
 iteP ((((((((((((decide (t6 = t8)) && (decide (t12 = t14))) && (decide (t19 = t21))) && (decide (t26 = t28))) && (decide (t33 = t35))) && (decide (t40 = t42))) && (decide (t47 = t49))) && (decide (t54 = t56))) && (decide (t61 = t63))) && (decide (t68 = t70))) && (decide (t75 = t77))) && (decide (t82 = t84)))
 (callK Pr f_law0_SameBytes [.slice t89.a t89.n t89.c, .slice t91.a t91.n t91.c] w2 fun v w3 =>
 asB v fun t92 =>
 ldL (Addr.add p 13) w3 fun t96 =>
 ldL (Addr.add p_1 13) w3 fun t98 =>
 iteP t92
 (callK Pr f_law0_SameBytes [.slice t96.a t96.n t96.c, .slice t98.a t98.n t98.c] w3 fun v_1 w4 =>
 asB v_1 fun t99 =>
 R (.bool t99) w4)
 (R (.bool false) w3))
 (ldL (Addr.add p 13) w2 fun t96_1 =>
 ldL (Addr.add p_1 13) w2 fun t98_1 =>
 R (.bool false) w2)
theorem V_law0_SameAsk_eq (ac0 : Int) (ac1 : Int) (ac2 : Int) (ac3 : Int) (ac4 : Int) (ac5 : Int) (ac6 : Int) (ac7 : Int) (ac8 : Int) (ac9 : Int) (ac10 : Int) (ac11 : ByteArray) (ac12 : SlV) (ac13 : SlV) (bc0 : Int) (bc1 : Int) (bc2 : Int) (bc3 : Int) (bc4 : Int) (bc5 : Int) (bc6 : Int) (bc7 : Int) (bc8 : Int) (bc9 : Int) (bc10 : Int) (bc11 : ByteArray) (bc12 : SlV) (bc13 : SlV) (w : World) (R : Value → World → Prop) : evF Pr ⟨true, true⟩ [] [] Tryd.f33 [.agg ⟨[.int .i64 ac0, .int .i64 ac1, .int .i64 ac2, .int .i64 ac3, .int .i64 ac4, .int .i64 ac5, .int .i64 ac6, .int .i64 ac7, .int .i64 ac8, .int .i64 ac9, .int .i64 ac10, .string ac11, .slice ac12.a ac12.n ac12.c, .slice ac13.a ac13.n ac13.c]⟩, .agg ⟨[.int .i64 bc0, .int .i64 bc1, .int .i64 bc2, .int .i64 bc3, .int .i64 bc4, .int .i64 bc5, .int .i64 bc6, .int .i64 bc7, .int .i64 bc8, .int .i64 bc9, .int .i64 bc10, .string bc11, .slice bc12.a bc12.n bc12.c, .slice bc13.a bc13.n bc13.c]⟩] w R = V_law0_SameAsk ac0 ac1 ac2 ac3 ac4 ac5 ac6 ac7 ac8 ac9 ac10 ac11 ac12 ac13 bc0 bc1 bc2 bc3 bc4 bc5 bc6 bc7 bc8 bc9 bc10 bc11 bc12 bc13 w R := by kernel_rfl
theorem V_law0_SameAsk_of {ac0 : Int} {ac1 : Int} {ac2 : Int} {ac3 : Int} {ac4 : Int} {ac5 : Int} {ac6 : Int} {ac7 : Int} {ac8 : Int} {ac9 : Int} {ac10 : Int} {ac11 : ByteArray} {ac12 : SlV} {ac13 : SlV} {bc0 : Int} {bc1 : Int} {bc2 : Int} {bc3 : Int} {bc4 : Int} {bc5 : Int} {bc6 : Int} {bc7 : Int} {bc8 : Int} {bc9 : Int} {bc10 : Int} {bc11 : ByteArray} {bc12 : SlV} {bc13 : SlV} {w : World} {R : Value → World → Prop} (h : V_law0_SameAsk ac0 ac1 ac2 ac3 ac4 ac5 ac6 ac7 ac8 ac9 ac10 ac11 ac12 ac13 bc0 bc1 bc2 bc3 bc4 bc5 bc6 bc7 bc8 bc9 bc10 bc11 bc12 bc13 w R) : Ok Pr f_law0_SameAsk [.agg ⟨[.int .i64 ac0, .int .i64 ac1, .int .i64 ac2, .int .i64 ac3, .int .i64 ac4, .int .i64 ac5, .int .i64 ac6, .int .i64 ac7, .int .i64 ac8, .int .i64 ac9, .int .i64 ac10, .string ac11, .slice ac12.a ac12.n ac12.c, .slice ac13.a ac13.n ac13.c]⟩, .agg ⟨[.int .i64 bc0, .int .i64 bc1, .int .i64 bc2, .int .i64 bc3, .int .i64 bc4, .int .i64 bc5, .int .i64 bc6, .int .i64 bc7, .int .i64 bc8, .int .i64 bc9, .int .i64 bc10, .string bc11, .slice bc12.a bc12.n bc12.c, .slice bc13.a bc13.n bc13.c]⟩] w R :=
  have g := (V_law0_SameAsk_eq ac0 ac1 ac2 ac3 ac4 ac5 ac6 ac7 ac8 ac9 ac10 ac11 ac12 ac13 bc0 bc1 bc2 bc3 bc4 bc5 bc6 bc7 bc8 bc9 bc10 bc11 bc12 bc13 w R).mpr h
  evF_ok good Tryd.func33 (by kernel_rfl) g

def V_law0_SameGrants (a : SlV) (b : SlV) (w : World) (R : Value → World → Prop) : Prop :=
 iteP (!decide (((a.n : Nat) : Int) = ((b.n : Nat) : Int)))
 (R (.bool false) w)
 (loop1 (fun (i : Int) => [(5, some (.int .i64 i))])
 (fun again i w1 => iteP (decide (i < ((a.n : Nat) : Int)))
 (idxS a.a i a.n
 (ld_api_Grant (Addr.add (base a.a) (Int.toNat i * 6)) (World.drew w1) fun t20f0 t20f1 t20f2 t20f3 t20f4 t20f5 =>
 idxS b.a i b.n
 (ld_api_Grant (Addr.add (base b.a) (Int.toNat i * 6)) (World.drew w1) fun t24f0 t24f1 t24f2 t24f3 t24f4 t24f5 =>
 eqK Pr .neq t_api_Grant [.int .i64 t20f0, .int .i64 t20f1, .int .i64 t20f2, .int .i64 t20f3, .int .i64 t20f4, .bool t20f5] [.int .i64 t24f0, .int .i64 t24f1, .int .i64 t24f2, .int .i64 t24f3, .int .i64 t24f4, .bool t24f5] (World.drew w1) fun same w2 =>
 iteP same
 (R (.bool false) w2)
 ((I64 (i + (1:Int)) ∧
 again (i + (1:Int)) w2)))))
 (R (.bool true) w1))
 (0:Int) w)
theorem V_law0_SameGrants_eq (a : SlV) (b : SlV) (w : World) (R : Value → World → Prop) : evF Pr ⟨true, true⟩ [] [(4, [(5, .int .i64)])] Tryd.f50 [.slice a.a a.n a.c, .slice b.a b.n b.c] w R = V_law0_SameGrants a b w R := by kernel_rfl
theorem V_law0_SameGrants_of {a : SlV} {b : SlV} {w : World} {R : Value → World → Prop} (h : V_law0_SameGrants a b w R) : Ok Pr f_law0_SameGrants [.slice a.a a.n a.c, .slice b.a b.n b.c] w R :=
  have g := (V_law0_SameGrants_eq a b w R).mpr h
  evF_ok good Tryd.func50 (by kernel_rfl) g

def V_law0_OverGrants (l : SlV) (w : World) (R : Value → World → Prop) : Prop :=
 loop1 (fun (i : Int) => [(2, some (.int .i64 i))])
 (fun again i w1 => iteP (decide (i < ((l.n : Nat) : Int)))
 (idxS l.a i l.n
 (sT_api_Grant (Addr.add (base l.a) (Int.toNat i * 6)) (-9:Int) (0:Int) (0:Int) (0:Int) (0:Int) false w1 fun w2 =>
 (I64 (i + (1:Int)) ∧
 again (i + (1:Int)) w2)))
 (nw t_api_Grant [.int .i64 (-9:Int), .int .i64 (0:Int), .int .i64 (0:Int), .int .i64 (0:Int), .int .i64 (0:Int), .bool false] w1 fun p w3 =>
 appK Pr [t_s_api_Grant, t_s_api_Grant] t_s_api_Grant [.slice l.a l.n l.c, .slice (some p) 1 1] w3 fun t16 w4 =>
 R (.tuple ⟨[]⟩) w4))
 (0:Int) w
theorem V_law0_OverGrants_eq (l : SlV) (w : World) (R : Value → World → Prop) : evF Pr ⟨true, true⟩ [] [(1, [(2, .int .i64)])] Tryd.f55 [.slice l.a l.n l.c] w R = V_law0_OverGrants l w R := by kernel_rfl
theorem V_law0_OverGrants_of {l : SlV} {w : World} {R : Value → World → Prop} (h : V_law0_OverGrants l w R) : Ok Pr f_law0_OverGrants [.slice l.a l.n l.c] w R :=
  have g := (V_law0_OverGrants_eq l w R).mpr h
  evF_ok good Tryd.func55 (by kernel_rfl) g
end Go.Proofs.YtoeedbljiocpdaaDoor
