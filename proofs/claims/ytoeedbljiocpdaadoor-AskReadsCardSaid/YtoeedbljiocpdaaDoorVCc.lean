/- WHAT THE CODE OF EACH FUNCTION ASKS FOR, by a program of this claim's author (vc.py); each is held against the code by the kernel. -/
import Derived.Test.YtoeedbljiocpdaaDoorN
import Derived.Test.YtoeedbljiocpdaaDoorEvOk8
import Derived.KernelRfl
import Derived.Test.YtoeedbljiocpdaaDoorVC
namespace Go.Proofs.YtoeedbljiocpdaaDoor
open Go Go.Ev
set_option maxRecDepth 100000
set_option linter.unusedVariables false
def V_code_Bytes (b : SlV) (parts : SlV) (w : World) (R : Value → World → Prop) : Prop :=
 callK Pr f_slices_Clone_byte_byte [.slice b.a b.n b.c] w fun v w1 =>
 asSl v fun t8 =>
 loop2 (fun (b_1 : SlV) (t11 : Int) => [(0, some (.slice b_1.a b_1.n b_1.c)), (11, some (.int .i64 t11))])
 (fun again b_1 t11 w2 => iteP (decide (t11 < ((parts.n : Nat) : Int)))
 (idxS parts.a t11 parts.n
 (ldL (Addr.add (base parts.a) (Int.toNat t11 * 1)) w2 fun t14 =>
 nw t_int [.int .i64 ((t14.n : Nat) : Int)] w2 fun p w3 =>
 callK Pr f_code_Number [.slice b_1.a b_1.n b_1.c, .slice (some p) 1 1] w3 fun v_1 w4 =>
 asSl v_1 fun t19 =>
 appK Pr [t_s_uint8, t_s_uint8] t_s_uint8 [.slice t19.a t19.n t19.c, .slice t14.a t14.n t14.c] w4 fun t21 w5 =>
 (I64 (t11 + (1:Int)) ∧
 again t21 (t11 + (1:Int)) w5)))
 (R (.slice b_1.a b_1.n b_1.c) w2))
 t8 (0:Int) w1
theorem V_code_Bytes_eq (b : SlV) (parts : SlV) (w : World) (R : Value → World → Prop) : evF Pr ⟨true, true⟩ [] [(3, [(0, .sl), (11, .int .i64)])] Tryd.f70 [.slice b.a b.n b.c, .slice parts.a parts.n parts.c] w R = V_code_Bytes b parts w R := by kernel_rfl
theorem V_code_Bytes_of {b : SlV} {parts : SlV} {w : World} {R : Value → World → Prop} (h : V_code_Bytes b parts w R) : Ok Pr f_code_Bytes [.slice b.a b.n b.c, .slice parts.a parts.n parts.c] w R :=
  have g := (V_code_Bytes_eq b parts w R).mpr h
  evF_ok good Tryd.func70 (by kernel_rfl) g

def V_code_Text (b : SlV) (s : ByteArray) (w : World) (R : Value → World → Prop) : Prop :=
 s2bK Pr t_uint8 s w fun t7 w1 =>
 nw t_s_uint8 [.slice t7.a t7.n t7.c] w1 fun p w2 =>
 callK Pr f_code_Bytes [.slice b.a b.n b.c, .slice (some p) 1 1] w2 fun v w3 =>
 asSl v fun t9 =>
 R (.slice t9.a t9.n t9.c) w3
theorem V_code_Text_eq (b : SlV) (s : ByteArray) (w : World) (R : Value → World → Prop) : evF Pr ⟨true, true⟩ [] [] Tryd.f71 [.slice b.a b.n b.c, .string s] w R = V_code_Text b s w R := by kernel_rfl
theorem V_code_Text_of {b : SlV} {s : ByteArray} {w : World} {R : Value → World → Prop} (h : V_code_Text b s w R) : Ok Pr f_code_Text [.slice b.a b.n b.c, .string s] w R :=
  have g := (V_code_Text_eq b s w R).mpr h
  evF_ok good Tryd.func71 (by kernel_rfl) g

def V_code_Number (b : SlV) (ns : SlV) (w : World) (R : Value → World → Prop) : Prop :=
 callK Pr f_slices_Clone_byte_byte [.slice b.a b.n b.c] w fun v w1 =>
 asSl v fun t9 =>
 loop2 (fun (b_1 : SlV) (t12 : Int) => [(0, some (.slice b_1.a b_1.n b_1.c)), (12, some (.int .i64 t12))])
 (fun again b_1 t12 w2 => iteP (decide (t12 < ((ns.n : Nat) : Int)))
 (idxS ns.a t12 ns.n
 (ldI .i64 (Addr.add (base ns.a) (Int.toNat t12 * 1)) w2 fun t15 =>
 loop2 (fun (b_2 : SlV) (shift : Int) => [(0, some (.slice b_2.a b_2.n b_2.c)), (7, some (.int .i64 shift))])
 (fun again_1 b_2 shift w3 => iteP (decide ((0:Int) ≤ shift))
 (cnt shift (nw t_uint8 [.int .u8 (IntKind.wrap .u8 (shr .u64 (IntKind.wrap .u64 (t15)) shift))] w3 fun p w4 =>
 appK Pr [t_s_uint8, t_s_uint8] t_s_uint8 [.slice b_2.a b_2.n b_2.c, .slice (some p) 1 1] w4 fun t27 w5 =>
 (I64 (shift - (8:Int)) ∧
 again_1 t27 (shift - (8:Int)) w5)))
 ((I64 (t12 + (1:Int)) ∧
 again b_2 (t12 + (1:Int)) w3)))
 b_1 (56:Int) w2))
 (R (.slice b_1.a b_1.n b_1.c) w2))
 t9 (0:Int) w1
theorem V_code_Number_eq (b : SlV) (ns : SlV) (w : World) (R : Value → World → Prop) : evF Pr ⟨true, true⟩ [] [(3, [(0, .sl), (12, .int .i64)]), (6, [(0, .sl), (7, .int .i64)])] Tryd.f72 [.slice b.a b.n b.c, .slice ns.a ns.n ns.c] w R = V_code_Number b ns w R := by kernel_rfl
theorem V_code_Number_of {b : SlV} {ns : SlV} {w : World} {R : Value → World → Prop} (h : V_code_Number b ns w R) : Ok Pr f_code_Number [.slice b.a b.n b.c, .slice ns.a ns.n ns.c] w R :=
  have g := (V_code_Number_eq b ns w R).mpr h
  evF_ok good Tryd.func72 (by kernel_rfl) g

def V_ref14_Reader_End (r : Option Addr) (w : World) (R : Value → World → Prop) : Prop :=
 nilchk r fun a =>
 ldB (Addr.add a 1) w fun t6 =>
 iteP t6
 (R (.int .i64 (4:Int)) w)
 (nilchk r fun a_1 =>
 ldL (Addr.add a_1 0) w fun t11 =>
 iteP (decide ((0:Int) < ((t11.n : Nat) : Int)))
 (R (.int .i64 (4:Int)) w)
 (R (.int .i64 (0:Int)) w))
theorem V_ref14_Reader_End_eq (r : Option Addr) (w : World) (R : Value → World → Prop) : evF Pr ⟨true, true⟩ [] [] Tryd.f86 [.pointer r] w R = V_ref14_Reader_End r w R := by kernel_rfl
theorem V_ref14_Reader_End_of {r : Option Addr} {w : World} {R : Value → World → Prop} (h : V_ref14_Reader_End r w R) : Ok Pr f_ref14_Reader_End [.pointer r] w R :=
  have g := (V_ref14_Reader_End_eq r w R).mpr h
  evF_ok good Tryd.func86 (by kernel_rfl) g

def V_ref14_Number (b : SlV) (ns : SlV) (w : World) (R : Value → World → Prop) : Prop :=
 appK Pr [t_s_uint8, t_s_uint8] t_s_uint8 [.slice none 0 0, .slice b.a b.n b.c] w fun t9 w1 =>
 loop2 (fun (out : SlV) (i : Int) => [(5, some (.slice out.a out.n out.c)), (6, some (.int .i64 i))])
 (fun again out i w2 => iteP (decide (i < ((ns.n : Nat) : Int)))
 (loop2 (fun (out_1 : SlV) (kv : Int) => [(5, some (.slice out_1.a out_1.n out_1.c)), (7, some (.int .i64 kv))])
 (fun again_1 out_1 kv w3 => iteP (decide ((0:Int) ≤ kv))
 (idxS ns.a i ns.n
 (ldI .i64 (Addr.add (base ns.a) (Int.toNat i * 1)) w3 fun t24 =>
 (I64 ((8:Int) * kv) ∧
 cnt ((8:Int) * kv) (nw t_uint8 [.int .u8 (IntKind.wrap .u8 (shr .u64 (IntKind.wrap .u64 (t24)) ((8:Int) * kv)))] w3 fun p w4 =>
 appK Pr [t_s_uint8, t_s_uint8] t_s_uint8 [.slice out_1.a out_1.n out_1.c, .slice (some p) 1 1] w4 fun t31 w5 =>
 (I64 (kv - (1:Int)) ∧
 again_1 t31 (kv - (1:Int)) w5)))))
 ((I64 (i + (1:Int)) ∧
 again out_1 (i + (1:Int)) w3)))
 out (7:Int) w2)
 (R (.slice out.a out.n out.c) w2))
 t9 (0:Int) w1
theorem V_ref14_Number_eq (b : SlV) (ns : SlV) (w : World) (R : Value → World → Prop) : evF Pr ⟨true, true⟩ [] [(3, [(5, .sl), (6, .int .i64)]), (6, [(5, .sl), (7, .int .i64)])] Tryd.f96 [.slice b.a b.n b.c, .slice ns.a ns.n ns.c] w R = V_ref14_Number b ns w R := by kernel_rfl
theorem V_ref14_Number_of {b : SlV} {ns : SlV} {w : World} {R : Value → World → Prop} (h : V_ref14_Number b ns w R) : Ok Pr f_ref14_Number [.slice b.a b.n b.c, .slice ns.a ns.n ns.c] w R :=
  have g := (V_ref14_Number_eq b ns w R).mpr h
  evF_ok good Tryd.func96 (by kernel_rfl) g

def V_ref14_Bytes (b : SlV) (parts : SlV) (w : World) (R : Value → World → Prop) : Prop :=
 appK Pr [t_s_uint8, t_s_uint8] t_s_uint8 [.slice none 0 0, .slice b.a b.n b.c] w fun t8 w1 =>
 loop2 (fun (out : SlV) (i : Int) => [(5, some (.slice out.a out.n out.c)), (6, some (.int .i64 i))])
 (fun again out i w2 => iteP (decide (i < ((parts.n : Nat) : Int)))
 (idxS parts.a i parts.n
 (ldL (Addr.add (base parts.a) (Int.toNat i * 1)) (World.drew w2) fun t19 =>
 idxS parts.a i parts.n
 (ldL (Addr.add (base parts.a) (Int.toNat i * 1)) (World.drew w2) fun t26 =>
 nw t_int [.int .i64 ((t19.n : Nat) : Int)] (World.drew w2) fun p w3 =>
 (kept (Addr.add (base parts.a) (Int.toNat i * 1)) 1 (World.drew w2) w3 ∧
 callK Pr f_ref14_Number [.slice out.a out.n out.c, .slice (some p) 1 1] w3 fun v w4 =>
 asSl v fun t22 =>
 (kept (Addr.add (base parts.a) (Int.toNat i * 1)) 1 w3 w4 ∧
 appK Pr [t_s_uint8, t_s_uint8] t_s_uint8 [.slice t22.a t22.n t22.c, .slice t26.a t26.n t26.c] w4 fun t27 w5 =>
 (I64 (i + (1:Int)) ∧
 again t27 (i + (1:Int)) w5))))))
 (R (.slice out.a out.n out.c) w2))
 t8 (0:Int) w1
theorem V_ref14_Bytes_eq (b : SlV) (parts : SlV) (w : World) (R : Value → World → Prop) : evF Pr ⟨true, true⟩ [] [(3, [(5, .sl), (6, .int .i64)])] Tryd.f97 [.slice b.a b.n b.c, .slice parts.a parts.n parts.c] w R = V_ref14_Bytes b parts w R := by kernel_rfl
theorem V_ref14_Bytes_of {b : SlV} {parts : SlV} {w : World} {R : Value → World → Prop} (h : V_ref14_Bytes b parts w R) : Ok Pr f_ref14_Bytes [.slice b.a b.n b.c, .slice parts.a parts.n parts.c] w R :=
  have g := (V_ref14_Bytes_eq b parts w R).mpr h
  evF_ok good Tryd.func97 (by kernel_rfl) g

def V_ref14_Text (b : SlV) (s : ByteArray) (w : World) (R : Value → World → Prop) : Prop :=
 nw t_int [.int .i64 ((ByteArray.size s : Nat) : Int)] w fun p w1 =>
 callK Pr f_ref14_Number [.slice b.a b.n b.c, .slice (some p) 1 1] w1 fun v w2 =>
 asSl v fun t9 =>
 appK Pr [t_s_uint8, t_string] t_s_uint8 [.slice t9.a t9.n t9.c, .string s] w2 fun t11 w3 =>
 R (.slice t11.a t11.n t11.c) w3
theorem V_ref14_Text_eq (b : SlV) (s : ByteArray) (w : World) (R : Value → World → Prop) : evF Pr ⟨true, true⟩ [] [] Tryd.f110 [.slice b.a b.n b.c, .string s] w R = V_ref14_Text b s w R := by kernel_rfl
theorem V_ref14_Text_of {b : SlV} {s : ByteArray} {w : World} {R : Value → World → Prop} (h : V_ref14_Text b s w R) : Ok Pr f_ref14_Text [.slice b.a b.n b.c, .string s] w R :=
  have g := (V_ref14_Text_eq b s w R).mpr h
  evF_ok good Tryd.func110 (by kernel_rfl) g

def V_code_New (b : SlV) (w : World) (R : Value → World → Prop) : Prop :=
 callK Pr f_slices_Clone_byte_byte [.slice b.a b.n b.c] w fun v w1 =>
 asSl v fun t4 =>
 nw t_code_Reader [.slice t4.a t4.n t4.c, .bool false] w1 fun p w2 =>
 R (.pointer (some p)) w2
theorem V_code_New_eq (b : SlV) (w : World) (R : Value → World → Prop) : evF Pr ⟨true, true⟩ [] [] Tryd.f114 [.slice b.a b.n b.c] w R = V_code_New b w R := by kernel_rfl
theorem V_code_New_of {b : SlV} {w : World} {R : Value → World → Prop} (h : V_code_New b w R) : Ok Pr f_code_New [.slice b.a b.n b.c] w R :=
  have g := (V_code_New_eq b w R).mpr h
  evF_ok good Tryd.func114 (by kernel_rfl) g

def V_code_Reader_Number (r : Option Addr) (lo : Int) (hi : Int) (w : World) (R : Value → World → Prop) : Prop :=
 callK Pr f_code_Reader_take [.pointer r, .int .i64 (8:Int)] w fun v w1 =>
 asSl v fun t13 =>
 iteP (decide (((t13.n : Nat) : Int) = (0:Int)))
 (R (.int .i64 (0:Int)) w1)
 (loop2 (fun (word : Int) (t19 : Int) => [(8, some (.int .u64 word)), (19, some (.int .i64 t19))])
 (fun again word t19 w2 => iteP (decide (t19 < ((t13.n : Nat) : Int)))
 (idxS t13.a t19 t13.n
 (ldI .u8 (Addr.add (base t13.a) (Int.toNat t19 * 1)) w2 fun t22 =>
 lt (A := Int) (orI .u64 (shl .u64 word (8:Int)) (IntKind.wrap .u64 (t22))) fun word_1 =>
 again word_1 (IntKind.wrap .i64 (t19 + (1:Int))) w2))
 (iteP ((decide (IntKind.wrap .i64 (word) < lo)) || (decide (hi < IntKind.wrap .i64 (word))))
 (nilchk r fun a =>
 st (Addr.add a 1) (.bool true) w2 fun w3 =>
 R (.int .i64 (0:Int)) w3)
 (R (.int .i64 (IntKind.wrap .i64 (word))) w2)))
 (0:Int) (0:Int) w1)
theorem V_code_Reader_Number_eq (r : Option Addr) (lo : Int) (hi : Int) (w : World) (R : Value → World → Prop) : evF Pr ⟨false, true⟩ [] [(6, [(8, .int .u64), (19, .int .i64)])] Tryd.f116 [.pointer r, .int .i64 lo, .int .i64 hi] w R = V_code_Reader_Number r lo hi w R := by kernel_rfl
theorem V_code_Reader_Number_of {r : Option Addr} {lo : Int} {hi : Int} {w : World} {R : Value → World → Prop} (h : V_code_Reader_Number r lo hi w R) : Ok Pr f_code_Reader_Number [.pointer r, .int .i64 lo, .int .i64 hi] w R :=
  have g := (V_code_Reader_Number_eq r lo hi w R).mpr h
  evF_ok good Tryd.func116 (by kernel_rfl) g

def V_code_Reader_Text (r : Option Addr) (most : Int) (w : World) (R : Value → World → Prop) : Prop :=
 callK Pr f_code_Reader_Bytes [.pointer r, .int .i64 most] w fun v w1 =>
 asSl v fun t7 =>
 b2sK Pr t7 w1 fun t8 w2 =>
 R (.string t8) w2
theorem V_code_Reader_Text_eq (r : Option Addr) (most : Int) (w : World) (R : Value → World → Prop) : evF Pr ⟨true, true⟩ [] [] Tryd.f117 [.pointer r, .int .i64 most] w R = V_code_Reader_Text r most w R := by kernel_rfl
theorem V_code_Reader_Text_of {r : Option Addr} {most : Int} {w : World} {R : Value → World → Prop} (h : V_code_Reader_Text r most w R) : Ok Pr f_code_Reader_Text [.pointer r, .int .i64 most] w R :=
  have g := (V_code_Reader_Text_eq r most w R).mpr h
  evF_ok good Tryd.func117 (by kernel_rfl) g

def V_code_Reader_Bytes (r : Option Addr) (most : Int) (w : World) (R : Value → World → Prop) : Prop :=
 callK Pr f_code_Reader_Number [.pointer r, .int .i64 (0:Int), .int .i64 most] w fun v w1 =>
 asI .i64 v fun t8 =>
 callK Pr f_code_Reader_take [.pointer r, .int .i64 t8] w1 fun v_1 w2 =>
 asSl v_1 fun t9 =>
 R (.slice t9.a t9.n t9.c) w2
theorem V_code_Reader_Bytes_eq (r : Option Addr) (most : Int) (w : World) (R : Value → World → Prop) : evF Pr ⟨true, true⟩ [] [] Tryd.f118 [.pointer r, .int .i64 most] w R = V_code_Reader_Bytes r most w R := by kernel_rfl
theorem V_code_Reader_Bytes_of {r : Option Addr} {most : Int} {w : World} {R : Value → World → Prop} (h : V_code_Reader_Bytes r most w R) : Ok Pr f_code_Reader_Bytes [.pointer r, .int .i64 most] w R :=
  have g := (V_code_Reader_Bytes_eq r most w R).mpr h
  evF_ok good Tryd.func118 (by kernel_rfl) g

def V_code_Reader_End (r : Option Addr) (w : World) (R : Value → World → Prop) : Prop :=
 iteP (Option.isNone (α := Addr) r)
 (nw t_api_Fault [.int .i64 (1:Int), .string S_code] w fun p w1 =>
 R (.iface t_p_api_Fault (.pointer (some p))) w1)
 (join1 (fun (t9 : Bool) => [(9, some (.bool t9))])
 (fun t9 w2 => iteP t9
 (nw t_api_Fault [.int .i64 (4:Int), .string S_code] w2 fun p_1 w3 =>
 R (.iface t_p_api_Fault (.pointer (some p_1))) w3)
 (R (.nilIface) w2))
 (fun go =>
 nilchk r fun a =>
 ldB (Addr.add a 1) w fun t13 =>
 iteP t13
 (go true w)
 (nilchk r fun a_1 =>
 ldL (Addr.add a_1 0) w fun t18 =>
 go (decide ((0:Int) < ((t18.n : Nat) : Int))) w)))
theorem V_code_Reader_End_eq (r : Option Addr) (w : World) (R : Value → World → Prop) : evF Pr ⟨true, true⟩ [(4, [(9, .bool)])] [] Tryd.f119 [.pointer r] w R = V_code_Reader_End r w R := by kernel_rfl
theorem V_code_Reader_End_of {r : Option Addr} {w : World} {R : Value → World → Prop} (h : V_code_Reader_End r w R) : Ok Pr f_code_Reader_End [.pointer r] w R :=
  have g := (V_code_Reader_End_eq r w R).mpr h
  evF_ok good Tryd.func119 (by kernel_rfl) g

def V_ref14_Reader_Number (r : Option Addr) (lo : Int) (hi : Int) (w : World) (R : Value → World → Prop) : Prop :=
 join0 []
 (fun w1 => loop2 (fun (n : Int) (i : Int) => [(7, some (.int .u64 n)), (8, some (.int .i64 i))])
 (fun again n i w2 => iteP (decide (i < (8:Int)))
 (nilchk r fun a =>
 ldL (Addr.add a 0) w2 fun t34 =>
 idxS t34.a i t34.n
 (ldI .u8 (Addr.add (base t34.a) (Int.toNat i * 1)) w2 fun t37 =>
 lt (A := Int) (orI .u64 (shl .u64 n (8:Int)) (IntKind.wrap .u64 (t37))) fun n_1 =>
 lt (A := Int) (IntKind.wrap .i64 (i + (1:Int))) fun i_1 =>
 again n_1 i_1 w2))
 (iteP ((decide (IntKind.wrap .i64 (n) < lo)) || (decide (hi < IntKind.wrap .i64 (n))))
 (nilchk r fun a_1 =>
 st (Addr.add a_1 1) (.bool true) w2 fun w3 =>
 R (.int .i64 (0:Int)) w3)
 (nilchk r fun a_2 =>
 ldL (Addr.add a_2 0) w2 fun t57 =>
 slL 1 t57 (8:Int) fun t58 =>
 nilchk r fun a_3 =>
 st (Addr.add a_3 0) (.slice t58.a t58.n t58.c) w2 fun w4 =>
 R (.int .i64 (IntKind.wrap .i64 (n))) w4)))
 (0:Int) (0:Int) w1)
 (fun go =>
 join1 (fun (t21 : Bool) => [(21, some (.bool t21))])
 (fun t21 w5 => iteP t21
 (nilchk r fun a_4 =>
 st (Addr.add a_4 1) (.bool true) w5 fun w6 =>
 R (.int .i64 (0:Int)) w6)
 (go w5))
 (fun go_1 =>
 nilchk r fun a_5 =>
 ldB (Addr.add a_5 1) w fun t13 =>
 iteP t13
 (go_1 true w)
 (nilchk r fun a_6 =>
 ldL (Addr.add a_6 0) w fun t18 =>
 go_1 (decide (((t18.n : Nat) : Int) < (8:Int))) w)))
theorem V_ref14_Reader_Number_eq (r : Option Addr) (lo : Int) (hi : Int) (w : World) (R : Value → World → Prop) : evF Pr ⟨false, true⟩ [(4, []), (2, [(21, .bool)])] [(6, [(7, .int .u64), (8, .int .i64)])] Tryd.f122 [.pointer r, .int .i64 lo, .int .i64 hi] w R = V_ref14_Reader_Number r lo hi w R := by kernel_rfl
theorem V_ref14_Reader_Number_of {r : Option Addr} {lo : Int} {hi : Int} {w : World} {R : Value → World → Prop} (h : V_ref14_Reader_Number r lo hi w R) : Ok Pr f_ref14_Reader_Number [.pointer r, .int .i64 lo, .int .i64 hi] w R :=
  have g := (V_ref14_Reader_Number_eq r lo hi w R).mpr h
  evF_ok good Tryd.func122 (by kernel_rfl) g

def V_ref14_Reader_Text (r : Option Addr) (most : Int) (w : World) (R : Value → World → Prop) : Prop :=
 callK Pr f_ref14_Reader_Bytes [.pointer r, .int .i64 most] w fun v w1 =>
 asSl v fun t7 =>
 b2sK Pr t7 w1 fun t8 w2 =>
 R (.string t8) w2
theorem V_ref14_Reader_Text_eq (r : Option Addr) (most : Int) (w : World) (R : Value → World → Prop) : evF Pr ⟨true, true⟩ [] [] Tryd.f123 [.pointer r, .int .i64 most] w R = V_ref14_Reader_Text r most w R := by kernel_rfl
theorem V_ref14_Reader_Text_of {r : Option Addr} {most : Int} {w : World} {R : Value → World → Prop} (h : V_ref14_Reader_Text r most w R) : Ok Pr f_ref14_Reader_Text [.pointer r, .int .i64 most] w R :=
  have g := (V_ref14_Reader_Text_eq r most w R).mpr h
  evF_ok good Tryd.func123 (by kernel_rfl) g

def V_ref14_Reader_Bytes (r : Option Addr) (most : Int) (w : World) (R : Value → World → Prop) : Prop :=
 callK Pr f_ref14_Reader_Number [.pointer r, .int .i64 (0:Int), .int .i64 (max most (0:Int))] w fun v w1 =>
 asI .i64 v fun t10 =>
 join0 []
 (fun w2 => nilchk r fun a =>
 ldL (Addr.add a 0) w2 fun t34 =>
 slH t34 t10 fun t36 =>
 appK Pr [t_s_uint8, t_s_uint8] t_s_uint8 [.slice none 0 0, .slice t36.a t36.n t36.c] w2 fun t37 w3 =>
 nilchk r fun a_1 =>
 ldL (Addr.add a_1 0) w3 fun t42 =>
 slL 1 t42 t10 fun t44 =>
 nilchk r fun a_2 =>
 st (Addr.add a_2 0) (.slice t44.a t44.n t44.c) w3 fun w4 =>
 R (.slice t37.a t37.n t37.c) w4)
 (fun go =>
 join1 (fun (t27 : Bool) => [(27, some (.bool t27))])
 (fun t27 w5 => iteP t27
 (nilchk r fun a_3 =>
 st (Addr.add a_3 1) (.bool true) w5 fun w6 =>
 R (.slice none 0 0) w6)
 (go w5))
 (fun go_1 =>
 nilchk r fun a_4 =>
 ldB (Addr.add a_4 1) w1 fun t14 =>
 iteP (t14 || (decide (most < (0:Int))))
 (go_1 true w1)
 (nilchk r fun a_5 =>
 ldL (Addr.add a_5 0) w1 fun t24 =>
 go_1 (decide (((t24.n : Nat) : Int) < t10)) w1)))
theorem V_ref14_Reader_Bytes_eq (r : Option Addr) (most : Int) (w : World) (R : Value → World → Prop) : evF Pr ⟨true, true⟩ [(5, []), (3, [(27, .bool)])] [] Tryd.f124 [.pointer r, .int .i64 most] w R = V_ref14_Reader_Bytes r most w R := by kernel_rfl
theorem V_ref14_Reader_Bytes_of {r : Option Addr} {most : Int} {w : World} {R : Value → World → Prop} (h : V_ref14_Reader_Bytes r most w R) : Ok Pr f_ref14_Reader_Bytes [.pointer r, .int .i64 most] w R :=
  have g := (V_ref14_Reader_Bytes_eq r most w R).mpr h
  evF_ok good Tryd.func124 (by kernel_rfl) g

def V_code_Reader_take (r : Option Addr) (n : Int) (w : World) (R : Value → World → Prop) : Prop :=
 join0 []
 (fun w1 => nilchk r fun a =>
 ldL (Addr.add a 0) w1 fun t31 =>
 slHM t31 n n fun t34 =>
 nilchk r fun a_1 =>
 ldL (Addr.add a_1 0) w1 fun t39 =>
 slL 1 t39 n fun t41 =>
 nilchk r fun a_2 =>
 st (Addr.add a_2 0) (.slice t41.a t41.n t41.c) w1 fun w2 =>
 R (.slice t34.a t34.n t34.c) w2)
 (fun go =>
 join1 (fun (t22 : Bool) => [(22, some (.bool t22))])
 (fun t22 w3 => iteP t22
 (iteP (!Option.isNone (α := Addr) r)
 (nilchk r fun a_3 =>
 st (Addr.add a_3 1) (.bool true) w3 fun w4 =>
 R (.slice none 0 0) w4)
 (R (.slice none 0 0) w3))
 (go w3))
 (fun go_1 =>
 iteP (Option.isNone (α := Addr) r)
 (go_1 true w)
 (nilchk r fun a_4 =>
 ldB (Addr.add a_4 1) w fun t12 =>
 iteP t12
 (go_1 true w)
 (nilchk r fun a_5 =>
 ldL (Addr.add a_5 0) w fun t19 =>
 go_1 (decide (((t19.n : Nat) : Int) < n)) w))))
theorem V_code_Reader_take_eq (r : Option Addr) (n : Int) (w : World) (R : Value → World → Prop) : evF Pr ⟨true, true⟩ [(5, []), (2, [(22, .bool)])] [] Tryd.f132 [.pointer r, .int .i64 n] w R = V_code_Reader_take r n w R := by kernel_rfl
theorem V_code_Reader_take_of {r : Option Addr} {n : Int} {w : World} {R : Value → World → Prop} (h : V_code_Reader_take r n w R) : Ok Pr f_code_Reader_take [.pointer r, .int .i64 n] w R :=
  have g := (V_code_Reader_take_eq r n w R).mpr h
  evF_ok good Tryd.func132 (by kernel_rfl) g
end Go.Proofs.YtoeedbljiocpdaaDoor
