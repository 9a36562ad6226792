/- Texts of this claim, packed: what the last one leans on. -/
import Derived.KernelRfl
import Derived.Test.YtdnhoebcomffoaaGreatDoorRows
import Derived.Test.YtdnhoebcomffoaaGreatDoorCards
import Derived.Test.YtdnhoebcomffoaaGreatDoorTie
import Derived.LaidLaws
import Derived.LaidHandle
import Derived.JoinedCond
import Derived.ChangeSlices
import Derived.Deep.Matrix
import Derived.Deep.AppendSrc
import Derived.Lib.AppendZerosOnto
import Derived.Test.YtdnhoebcomffoaaGreatDoorQ1
import Derived.Test.YtdnhoebcomffoaaGreatDoorAErrCode
section
set_option linter.unusedVariables false
set_option linter.unusedSimpArgs false
/- WHAT THE CODE OF EACH FUNCTION ASKS FOR, by a program of this claim's author (vc.py); each is held against the code by the kernel. -/
namespace Go.Proofs.YtdnhoebcomffoaaGreatDoor
open Go Go.Ev
set_option maxRecDepth 100000
set_option linter.unusedVariables false
theorem good_names : (Pr.funcs.all fun fn => fn.name != "runtime.NumGoroutine") = true := by kernel_rfl
theorem good_mixed : Pr.follows .mixedOrders = true := by kernel_rfl
theorem good : Go.Ev.Good Pr where
  names := fun f fn h e => by
    have := Array.all_eq_true_iff_forall_mem.1 good_names fn (Array.mem_of_getElem? h)
    simp [e] at this
  mixed := good_mixed
abbrev S_sign : ByteArray := ⟨#[115, 105, 103, 110]⟩
abbrev S_lay : ByteArray := ⟨#[108, 97, 121]⟩
abbrev S_sift : ByteArray := ⟨#[115, 105, 102, 116]⟩
abbrev S_empty_14a5d8 : ByteArray := ⟨#[0, 1, 2, 2, 3, 3, 3, 3, 4, 4, 4, 4, 4, 4, 4, 4, 5, 5, 5, 5, 5, 5, 5, 5, 5, 5, 5, 5, 5, 5, 5, 5, 6, 6, 6, 6, 6, 6, 6, 6, 6, 6, 6, 6, 6, 6, 6, 6, 6, 6, 6, 6, 6, 6, 6, 6, 6, 6, 6, 6, 6, 6, 6, 6, 7, 7, 7, 7, 7, 7, 7, 7, 7, 7, 7, 7, 7, 7, 7, 7, 7, 7, 7, 7, 7, 7, 7, 7, 7, 7, 7, 7, 7, 7, 7, 7, 7, 7, 7, 7, 7, 7, 7, 7, 7, 7, 7, 7, 7, 7, 7, 7, 7, 7, 7, 7, 7, 7, 7, 7, 7, 7, 7, 7, 7, 7, 7, 7, 8, 8, 8, 8, 8, 8, 8, 8, 8, 8, 8, 8, 8, 8, 8, 8, 8, 8, 8, 8, 8, 8, 8, 8, 8, 8, 8, 8, 8, 8, 8, 8, 8, 8, 8, 8, 8, 8, 8, 8, 8, 8, 8, 8, 8, 8, 8, 8, 8, 8, 8, 8, 8, 8, 8, 8, 8, 8, 8, 8, 8, 8, 8, 8, 8, 8, 8, 8, 8, 8, 8, 8, 8, 8, 8, 8, 8, 8, 8, 8, 8, 8, 8, 8, 8, 8, 8, 8, 8, 8, 8, 8, 8, 8, 8, 8, 8, 8, 8, 8, 8, 8, 8, 8, 8, 8, 8, 8, 8, 8, 8, 8, 8, 8, 8, 8, 8, 8, 8, 8, 8, 8, 8, 8, 8, 8, 8, 8]⟩
def ld_ref11_Set (a : Addr) (w : World) (K : Int → Int → Int → Int → Int → Int → Int → Int → Int → Prop) : Prop :=
 ldI .i64 (Addr.add a 0) w fun c0 =>
 ldI .i64 (Addr.add a 1) w fun c1 =>
 ldI .i64 (Addr.add a 2) w fun c2 =>
 ldI .i64 (Addr.add a 3) w fun c3 =>
 ldI .i64 (Addr.add a 4) w fun c4 =>
 ldI .i64 (Addr.add a 5) w fun c5 =>
 ldI .i64 (Addr.add a 6) w fun c6 =>
 ldI .i64 (Addr.add a 7) w fun c7 =>
 ldI .i64 (Addr.add a 8) w fun c8 =>
 K c0 c1 c2 c3 c4 c5 c6 c7 c8
def sT_ref11_Set (a : Addr) (c0 : Int) (c1 : Int) (c2 : Int) (c3 : Int) (c4 : Int) (c5 : Int) (c6 : Int) (c7 : Int) (c8 : Int) (w : World) (K : World → Prop) : Prop :=
 st (Addr.add a 0) (.int .i64 c0) w fun w =>
 st (Addr.add a 1) (.int .i64 c1) w fun w =>
 st (Addr.add a 2) (.int .i64 c2) w fun w =>
 st (Addr.add a 3) (.int .i64 c3) w fun w =>
 st (Addr.add a 4) (.int .i64 c4) w fun w =>
 st (Addr.add a 5) (.int .i64 c5) w fun w =>
 st (Addr.add a 6) (.int .i64 c6) w fun w =>
 st (Addr.add a 7) (.int .i64 c7) w fun w =>
 st (Addr.add a 8) (.int .i64 c8) w fun w =>
 K w
def as_ref11_Set (v : Value) (K : Int → Int → Int → Int → Int → Int → Int → Int → Int → Prop) : Prop :=
 asArr v fun r =>
 uncons r fun v0 r =>
 asI .i64 v0 fun c0 =>
 uncons r fun v1 r =>
 asI .i64 v1 fun c1 =>
 uncons r fun v2 r =>
 asI .i64 v2 fun c2 =>
 uncons r fun v3 r =>
 asI .i64 v3 fun c3 =>
 uncons r fun v4 r =>
 asI .i64 v4 fun c4 =>
 uncons r fun v5 r =>
 asI .i64 v5 fun c5 =>
 uncons r fun v6 r =>
 asI .i64 v6 fun c6 =>
 uncons r fun v7 r =>
 asI .i64 v7 fun c7 =>
 uncons r fun v8 r =>
 asI .i64 v8 fun c8 =>
 (r = [] ∧ K c0 c1 c2 c3 c4 c5 c6 c7 c8)
def ld_lay_Set (a : Addr) (w : World) (K : Int → Int → Int → Int → Int → Int → Int → Int → Int → Prop) : Prop :=
 ldI .i64 (Addr.add a 0) w fun c0 =>
 ldI .i64 (Addr.add a 1) w fun c1 =>
 ldI .i64 (Addr.add a 2) w fun c2 =>
 ldI .i64 (Addr.add a 3) w fun c3 =>
 ldI .i64 (Addr.add a 4) w fun c4 =>
 ldI .i64 (Addr.add a 5) w fun c5 =>
 ldI .i64 (Addr.add a 6) w fun c6 =>
 ldI .i64 (Addr.add a 7) w fun c7 =>
 ldI .i64 (Addr.add a 8) w fun c8 =>
 K c0 c1 c2 c3 c4 c5 c6 c7 c8
def sT_lay_Set (a : Addr) (c0 : Int) (c1 : Int) (c2 : Int) (c3 : Int) (c4 : Int) (c5 : Int) (c6 : Int) (c7 : Int) (c8 : Int) (w : World) (K : World → Prop) : Prop :=
 st (Addr.add a 0) (.int .i64 c0) w fun w =>
 st (Addr.add a 1) (.int .i64 c1) w fun w =>
 st (Addr.add a 2) (.int .i64 c2) w fun w =>
 st (Addr.add a 3) (.int .i64 c3) w fun w =>
 st (Addr.add a 4) (.int .i64 c4) w fun w =>
 st (Addr.add a 5) (.int .i64 c5) w fun w =>
 st (Addr.add a 6) (.int .i64 c6) w fun w =>
 st (Addr.add a 7) (.int .i64 c7) w fun w =>
 st (Addr.add a 8) (.int .i64 c8) w fun w =>
 K w
def as_lay_Set (v : Value) (K : Int → Int → Int → Int → Int → Int → Int → Int → Int → Prop) : Prop :=
 asArr v fun r =>
 uncons r fun v0 r =>
 asI .i64 v0 fun c0 =>
 uncons r fun v1 r =>
 asI .i64 v1 fun c1 =>
 uncons r fun v2 r =>
 asI .i64 v2 fun c2 =>
 uncons r fun v3 r =>
 asI .i64 v3 fun c3 =>
 uncons r fun v4 r =>
 asI .i64 v4 fun c4 =>
 uncons r fun v5 r =>
 asI .i64 v5 fun c5 =>
 uncons r fun v6 r =>
 asI .i64 v6 fun c6 =>
 uncons r fun v7 r =>
 asI .i64 v7 fun c7 =>
 uncons r fun v8 r =>
 asI .i64 v8 fun c8 =>
 (r = [] ∧ K c0 c1 c2 c3 c4 c5 c6 c7 c8)
def ld_sign_secret (a : Addr) (w : World) (K : SlV → SlV → SlV → SlV → SlV → SlV → Prop) : Prop :=
 ldL (Addr.add a 0) w fun c0 =>
 ldL (Addr.add a 1) w fun c1 =>
 ldL (Addr.add a 2) w fun c2 =>
 ldL (Addr.add a 3) w fun c3 =>
 ldL (Addr.add a 4) w fun c4 =>
 ldL (Addr.add a 5) w fun c5 =>
 K c0 c1 c2 c3 c4 c5
def sT_sign_secret (a : Addr) (c0 : SlV) (c1 : SlV) (c2 : SlV) (c3 : SlV) (c4 : SlV) (c5 : SlV) (w : World) (K : World → Prop) : Prop :=
 st (Addr.add a 0) (.slice c0.a c0.n c0.c) w fun w =>
 st (Addr.add a 1) (.slice c1.a c1.n c1.c) w fun w =>
 st (Addr.add a 2) (.slice c2.a c2.n c2.c) w fun w =>
 st (Addr.add a 3) (.slice c3.a c3.n c3.c) w fun w =>
 st (Addr.add a 4) (.slice c4.a c4.n c4.c) w fun w =>
 st (Addr.add a 5) (.slice c5.a c5.n c5.c) w fun w =>
 K w
def as_sign_secret (v : Value) (K : SlV → SlV → SlV → SlV → SlV → SlV → Prop) : Prop :=
 asArr v fun r =>
 uncons r fun v0 r =>
 asSl v0 fun c0 =>
 uncons r fun v1 r =>
 asSl v1 fun c1 =>
 uncons r fun v2 r =>
 asSl v2 fun c2 =>
 uncons r fun v3 r =>
 asSl v3 fun c3 =>
 uncons r fun v4 r =>
 asSl v4 fun c4 =>
 uncons r fun v5 r =>
 asSl v5 fun c5 =>
 (r = [] ∧ K c0 c1 c2 c3 c4 c5)
def V_law0_Num (e : Value) (w : World) (R : Value → World → Prop) : Prop :=
 ifaceNil e fun a =>
 iteP a
 (R (.int .i64 0) w)
 (nw t_p_api_Fault (zc Pr t_p_api_Fault) w fun b c =>
 join0 []
 (fun d => ldP b d fun f =>
 nilchk f fun g =>
 ldI .i64 (Addr.add g 0) d fun i =>
 R (.int .i64 i) d)
 (fun j =>
 callK Pr f_errors_As [e, .iface t_p_p_api_Fault (.pointer (some b))] (World.drew c) fun k l =>
 asB k fun m =>
 ldP b l fun n =>
 ldP b l fun o =>
 iteP ((!m) || (Option.isNone (α := Addr) n))
 (ldP b l fun p =>
 ldP b l fun q =>
 (kept b 1 l l ∧
 R (.int .i64 (-1:Int)) l))
 (nilchk o fun s =>
 ldI .i64 (Addr.add s 0) l fun t =>
 ldP b l fun u =>
 iteP (decide (t = 0))
 (ldP b l fun v =>
 (kept b 1 l l ∧
 R (.int .i64 (-1:Int)) l))
 (nilchk u fun x =>
 ldI .i64 (Addr.add x 0) l fun y =>
 callK Pr f_errors_Is [e, .iface t_api_Errno (.int .i64 y)] l fun z A =>
 asB z fun B =>
 ldP b A fun C =>
 iteP (!B)
 ((kept b 1 A A ∧
 R (.int .i64 (-1:Int)) A))
 (nilchk C fun D =>
 ldI .i64 (Addr.add D 0) A fun E =>
 callK Pr f_api_Code [e] A fun F G =>
 asI .i64 F fun I =>
 (kept (Addr.add D 0) 1 A G ∧
 (kept b 1 A G ∧
 iteP (!decide (I = E))
 (R (.int .i64 (-1:Int)) G)
 (j G))))))))
theorem V_law0_Num_of {e : Value} {w : World} {R : Value → World → Prop} (h : V_law0_Num e w R) : Ok Pr f_law0_Num [e] w R :=
 evF_ok (m := ⟨true, true⟩) (J := [(6, [])]) (L := []) good Tryz.func14 (by kernel_rfl) ((by kernel_rfl : evF Pr _ _ _ Tryz.f14 _ w R = V_law0_Num e w R).mpr h)

def V_law0_Low (x : Int) (n : Int) (w : World) (R : Value → World → Prop) : Prop :=
 pos (IntKind.wrap .u64 (n)) ((0 ≤ IntKind.wrap .u64 (x) ∧
 (I64 ((IntKind.wrap .u64 (x)) % (IntKind.wrap .u64 (n))) ∧
 R (.int .i64 ((IntKind.wrap .u64 (x)) % (IntKind.wrap .u64 (n)))) w)))
theorem V_law0_Low_of {x : Int} {n : Int} {w : World} {R : Value → World → Prop} (h : V_law0_Low x n w R) : Ok Pr f_law0_Low [.int .i64 x, .int .i64 n] w R :=
 evF_ok (m := ⟨true, true⟩) (J := []) (L := []) good Tryz.func16 (by kernel_rfl) ((by kernel_rfl : evF Pr _ _ _ Tryz.f16 _ w R = V_law0_Low x n w R).mpr h)

def V_sponge_Shake256 (n : Int) (parts : SlV) (w : World) (R : Value → World → Prop) : Prop :=
 callK Pr f_sponge_of [.int .i64 136, .int .u8 31, .int .i64 n, .slice parts.a parts.n parts.c] w fun a b =>
 asSl a fun c =>
 R (.slice c.a c.n c.c) b
theorem V_sponge_Shake256_of {n : Int} {parts : SlV} {w : World} {R : Value → World → Prop} (h : V_sponge_Shake256 n parts w R) : Ok Pr f_sponge_Shake256 [.int .i64 n, .slice parts.a parts.n parts.c] w R :=
 evF_ok (m := ⟨true, true⟩) (J := []) (L := []) good Tryz.func30 (by kernel_rfl) ((by kernel_rfl : evF Pr _ _ _ Tryz.f30 _ w R = V_sponge_Shake256 n parts w R).mpr h)

def V_slices_Concat_byte_byte (slices : SlV) (w : World) (R : Value → World → Prop) : Prop :=
 loop2 (fun (a : Int) (b : Int) => [(3, some (.int .i64 a)), (11, some (.int .i64 b))])
 (fun c a b d => iteP (decide (b < (slices.n:Int)))
 (idxS slices.a b slices.n
 (ldL (Addr.add (base slices.a) (Int.toNat b * 1)) d fun e =>
 (I64 (a + (e.n:Int)) ∧
 iteP (decide (a + (e.n:Int) < 0))
 (False)
 ((I64 (b + 1) ∧
 c (a + (e.n:Int)) (b + 1) d)))))
 (callK Pr f_slices_Grow_byte_byte [.slice none 0 0, .int .i64 a] d fun f g =>
 asSl f fun i =>
 loop2 (fun (j : SlV) (k : Int) => [(6, some (.slice j.a j.n j.c)), (27, some (.int .i64 k))])
 (fun l j k m => iteP (decide (k < (slices.n:Int)))
 (idxS slices.a k slices.n
 (ldL (Addr.add (base slices.a) (Int.toNat k * 1)) m fun n =>
 appK Pr [t_s_uint8, t_s_uint8] t_s_uint8 [.slice j.a j.n j.c, .slice n.a n.n n.c] m fun o p =>
 (I64 (k + 1) ∧
 l o (k + 1) p)))
 (R (.slice j.a j.n j.c) m))
 i 0 g))
 0 0 w
theorem V_slices_Concat_byte_byte_of {slices : SlV} {w : World} {R : Value → World → Prop} (h : V_slices_Concat_byte_byte slices w R) : Ok Pr f_slices_Concat_byte_byte [.slice slices.a slices.n slices.c] w R :=
 evF_ok (m := ⟨true, true⟩) (J := []) (L := [(3, [(3, .int .i64), (11, .int .i64)]), (11, [(6, .sl), (27, .int .i64)])]) good Tryz.func37 (by kernel_rfl) ((by kernel_rfl : evF Pr _ _ _ Tryz.f37 _ w R = V_slices_Concat_byte_byte slices w R).mpr h)

def V_slices_Concat_int_int (slices : SlV) (w : World) (R : Value → World → Prop) : Prop :=
 loop2 (fun (a : Int) (b : Int) => [(3, some (.int .i64 a)), (11, some (.int .i64 b))])
 (fun c a b d => iteP (decide (b < (slices.n:Int)))
 (idxS slices.a b slices.n
 (ldL (Addr.add (base slices.a) (Int.toNat b * 1)) d fun e =>
 (I64 (a + (e.n:Int)) ∧
 iteP (decide (a + (e.n:Int) < 0))
 (False)
 ((I64 (b + 1) ∧
 c (a + (e.n:Int)) (b + 1) d)))))
 (callK Pr f_slices_Grow_int_int [.slice none 0 0, .int .i64 a] d fun f g =>
 asSl f fun i =>
 loop2 (fun (j : SlV) (k : Int) => [(6, some (.slice j.a j.n j.c)), (27, some (.int .i64 k))])
 (fun l j k m => iteP (decide (k < (slices.n:Int)))
 (idxS slices.a k slices.n
 (ldL (Addr.add (base slices.a) (Int.toNat k * 1)) m fun n =>
 appK Pr [t_s_s_int, t_s_s_int] t_s_s_int [.slice j.a j.n j.c, .slice n.a n.n n.c] m fun o p =>
 (I64 (k + 1) ∧
 l o (k + 1) p)))
 (R (.slice j.a j.n j.c) m))
 i 0 g))
 0 0 w
theorem V_slices_Concat_int_int_of {slices : SlV} {w : World} {R : Value → World → Prop} (h : V_slices_Concat_int_int slices w R) : Ok Pr f_slices_Concat_int_int [.slice slices.a slices.n slices.c] w R :=
 evF_ok (m := ⟨true, true⟩) (J := []) (L := [(3, [(3, .int .i64), (11, .int .i64)]), (11, [(6, .sl), (27, .int .i64)])]) good Tryz.func38 (by kernel_rfl) ((by kernel_rfl : evF Pr _ _ _ Tryz.f38 _ w R = V_slices_Concat_int_int slices w R).mpr h)

def V_ref2_Shake256 (n : Int) (b : SlV) (w : World) (R : Value → World → Prop) : Prop :=
 callK Pr f_ref2_Many [.int .i64 n] w fun a c =>
 asI .i64 a fun d =>
 callK Pr f_ref2_Out [.int .i64 136, .int .u8 31, .slice b.a b.n b.c, .int .i64 d] c fun e f =>
 asSl e fun g =>
 R (.slice g.a g.n g.c) f
theorem V_ref2_Shake256_of {n : Int} {b : SlV} {w : World} {R : Value → World → Prop} (h : V_ref2_Shake256 n b w R) : Ok Pr f_ref2_Shake256 [.int .i64 n, .slice b.a b.n b.c] w R :=
 evF_ok (m := ⟨true, true⟩) (J := []) (L := []) good Tryz.func48 (by kernel_rfl) ((by kernel_rfl : evF Pr _ _ _ Tryz.f48 _ w R = V_ref2_Shake256 n b w R).mpr h)

def V_api_Code (e : Value) (w : World) (R : Value → World → Prop) : Prop :=
 nw t_api_Errno (zc Pr t_api_Errno) w fun a b =>
 ifaceNil e fun c =>
 iteP c
 (R (.int .i64 0) b)
 (callK Pr f_errors_As [e, .iface t_p_api_Errno (.pointer (some a))] b fun d f =>
 asB d fun g =>
 iteP g
 (ldI .i64 a f fun i =>
 R (.int .i64 i) f)
 (R (.int .i64 2) f))
theorem V_api_Code_of {e : Value} {w : World} {R : Value → World → Prop} (h : V_api_Code e w R) : Ok Pr f_api_Code [e] w R :=
 evF_ok (m := ⟨true, true⟩) (J := []) (L := []) good Tryz.func51 (by kernel_rfl) ((by kernel_rfl : evF Pr _ _ _ Tryz.f51 _ w R = V_api_Code e w R).mpr h)

def V_slices_Chunk_byte_byte (s : SlV) (n : Int) (w : World) (R : Value → World → Prop) : Prop :=
 nw t_s_uint8 [.slice s.a s.n s.c] w fun a b =>
 nw t_int [.int .i64 n] b fun c d =>
 ldI .i64 c d fun e =>
 iteP (decide (e < 1))
 (False)
 (R (.func (.func f_slices_Chunk_byte_byte_1) ⟨[]⟩ ⟨[.pointer (some a), .pointer (some c)]⟩) d)
theorem V_slices_Chunk_byte_byte_of {s : SlV} {n : Int} {w : World} {R : Value → World → Prop} (h : V_slices_Chunk_byte_byte s n w R) : Ok Pr f_slices_Chunk_byte_byte [.slice s.a s.n s.c, .int .i64 n] w R :=
 evF_ok (m := ⟨true, true⟩) (J := []) (L := []) good Tryz.func58 (by kernel_rfl) ((by kernel_rfl : evF Pr _ _ _ Tryz.f58 _ w R = V_slices_Chunk_byte_byte s n w R).mpr h)

def V_bits_Unpack (d : Int) (b : SlV) (w : World) (R : Value → World → Prop) : Prop :=
 iteP ((decide (d < 1)) || (decide (24 < d)))
 (R (.slice none 0 0) w)
 (loop4 (fun (a : SlV) (c : Int) (e : Int) (f : Int) => [(5, some (.slice a.a a.n a.c)), (6, some (.int .i64 c)), (7, some (.int .i64 e)), (18, some (.int .i64 f))])
 (fun g a c e f i => iteP (decide (f < (b.n:Int)))
 (idxS b.a f b.n
 (ldI .u8 (Addr.add (base b.a) (Int.toNat f * 1)) i fun j =>
 (I64 (j) ∧
 cnt e (lt (A := Int) (orI .i64 c (shl .i64 j e)) fun k =>
 (I64 (e + 8) ∧
 loop3 (fun (l : SlV) (m : Int) (n : Int) => [(5, some (.slice l.a l.n l.c)), (6, some (.int .i64 m)), (7, some (.int .i64 n))])
 (fun o l m n p => iteP (decide (d ≤ n))
 (callK Pr f_bits_Low [.int .i64 d, .int .i64 m] p fun q s =>
 asI .i64 q fun t =>
 nw t_int [.int .i64 t] s fun u v =>
 appK Pr [t_s_int, t_s_int] t_s_int [.slice l.a l.n l.c, .slice (some u) 1 1] v fun x y =>
 cnt d ((I64 (n - d) ∧
 o x (shr .i64 m d) (n - d) y)))
 ((I64 (f + 1) ∧
 g l m n (f + 1) p)))
 a k (e + 8) i)))))
 (R (.slice a.a a.n a.c) i))
 ⟨none, 0, 0⟩ 0 0 0 w)
theorem V_bits_Unpack_of {d : Int} {b : SlV} {w : World} {R : Value → World → Prop} (h : V_bits_Unpack d b w R) : Ok Pr f_bits_Unpack [.int .i64 d, .slice b.a b.n b.c] w R :=
 evF_ok (m := ⟨true, true⟩) (J := []) (L := [(6, [(5, .sl), (6, .int .i64), (7, .int .i64), (18, .int .i64)]), (10, [(5, .sl), (6, .int .i64), (7, .int .i64)])]) good Tryz.func59 (by kernel_rfl) ((by kernel_rfl : evF Pr _ _ _ Tryz.f59 _ w R = V_bits_Unpack d b w R).mpr h)

def V_bytes_Equal (a : SlV) (b : SlV) (w : World) (R : Value → World → Prop) : Prop :=
 b2sK Pr a w fun c d =>
 b2sK Pr b d fun e f =>
 R (.bool (decide (c = e))) f
theorem V_bytes_Equal_of {a : SlV} {b : SlV} {w : World} {R : Value → World → Prop} (h : V_bytes_Equal a b w R) : Ok Pr f_bytes_Equal [.slice a.a a.n a.c, .slice b.a b.n b.c] w R :=
 evF_ok (m := ⟨true, true⟩) (J := []) (L := []) good Tryz.func66 (by kernel_rfl) ((by kernel_rfl : evF Pr _ _ _ Tryz.f66 _ w R = V_bytes_Equal a b w R).mpr h)

def V_ref5_Unpack (d : Int) (b : SlV) (w : World) (R : Value → World → Prop) : Prop :=
 iteP ((decide (d < 1)) || (decide (24 < d)))
 (R (.slice none 0 0) w)
 (loop2 (fun (a : SlV) (c : Int) => [(5, some (.slice a.a a.n a.c)), (6, some (.int .i64 c))])
 (fun e a c f => (I64 (c + 1) ∧
 (I64 ((c + 1) * d) ∧
 (I64 (8 * (b.n:Int)) ∧
 iteP (decide ((c + 1) * d ≤ 8 * (b.n:Int)))
 (loop2 (fun (g : Int) (i : Int) => [(7, some (.int .i64 g)), (8, some (.int .i64 i))])
 (fun j g i k => iteP (decide (i < d))
 ((I64 (c * d) ∧
 (I64 ((c * d) + i) ∧
 callK Pr f_ref5_Bit [.slice b.a b.n b.c, .int .i64 ((c * d) + i)] k fun l m =>
 asI .i64 l fun n =>
 cnt i ((I64 (i + 1) ∧
 j (orI .i64 g (shl .i64 n i)) (i + 1) m)))))
 (nw t_int [.int .i64 g] k fun o p =>
 appK Pr [t_s_int, t_s_int] t_s_int [.slice a.a a.n a.c, .slice (some o) 1 1] p fun q s =>
 (I64 (c + 1) ∧
 e q (c + 1) s)))
 0 0 f)
 (R (.slice a.a a.n a.c) f)))))
 ⟨none, 0, 0⟩ 0 w)
theorem V_ref5_Unpack_of {d : Int} {b : SlV} {w : World} {R : Value → World → Prop} (h : V_ref5_Unpack d b w R) : Ok Pr f_ref5_Unpack [.int .i64 d, .slice b.a b.n b.c] w R :=
 evF_ok (m := ⟨true, true⟩) (J := []) (L := [(5, [(5, .sl), (6, .int .i64)]), (9, [(7, .int .i64), (8, .int .i64)])]) good Tryz.func70 (by kernel_rfl) ((by kernel_rfl : evF Pr _ _ _ Tryz.f70 _ w R = V_ref5_Unpack d b w R).mpr h)

def V_slices_ContainsFunc_int_int (s : SlV) (f : Value) (w : World) (R : Value → World → Prop) : Prop :=
 callK Pr f_slices_IndexFunc_int_int [.slice s.a s.n s.c, f] w fun a b =>
 asI .i64 a fun c =>
 R (.bool (decide (0 ≤ c))) b
theorem V_slices_ContainsFunc_int_int_of {s : SlV} {f : Value} {w : World} {R : Value → World → Prop} (h : V_slices_ContainsFunc_int_int s f w R) : Ok Pr f_slices_ContainsFunc_int_int [.slice s.a s.n s.c, f] w R :=
 evF_ok (m := ⟨true, true⟩) (J := []) (L := []) good Tryz.func86 (by kernel_rfl) ((by kernel_rfl : evF Pr _ _ _ Tryz.f86 _ w R = V_slices_ContainsFunc_int_int s f w R).mpr h)

def V_slices_Clone_byte_byte (s : SlV) (w : World) (R : Value → World → Prop) : Prop :=
 iteP (Option.isNone (α := Addr) s.a)
 (R (.slice none 0 0) w)
 (nw t_uint8 [] w fun a b =>
 appK Pr [t_s_uint8, t_s_uint8] t_s_uint8 [.slice (some a) 0 0, .slice s.a s.n s.c] b fun c d =>
 R (.slice c.a c.n c.c) d)
theorem V_slices_Clone_byte_byte_of {s : SlV} {w : World} {R : Value → World → Prop} (h : V_slices_Clone_byte_byte s w R) : Ok Pr f_slices_Clone_byte_byte [.slice s.a s.n s.c] w R :=
 evF_ok (m := ⟨true, true⟩) (J := []) (L := []) good Tryz.func89 (by kernel_rfl) ((by kernel_rfl : evF Pr _ _ _ Tryz.f89 _ w R = V_slices_Clone_byte_byte s w R).mpr h)

def V_sponge_of (rate : Int) (suffix : Int) (n : Int) (parts : SlV) (w : World) (R : Value → World → Prop) : Prop :=
 callK Pr f_sponge_New [.int .i64 rate, .int .u8 suffix] w fun a b =>
 asP a fun c =>
 callK Pr f_sponge_Sponge_Write [.pointer c, .slice parts.a parts.n parts.c] b fun d e =>
 callK Pr f_sponge_Sponge_Read [.pointer c, .int .i64 n] e fun f g =>
 asSl f fun i =>
 R (.slice i.a i.n i.c) g
theorem V_sponge_of_of {rate : Int} {suffix : Int} {n : Int} {parts : SlV} {w : World} {R : Value → World → Prop} (h : V_sponge_of rate suffix n parts w R) : Ok Pr f_sponge_of [.int .i64 rate, .int .u8 suffix, .int .i64 n, .slice parts.a parts.n parts.c] w R :=
 evF_ok (m := ⟨true, true⟩) (J := []) (L := []) good Tryz.func94 (by kernel_rfl) ((by kernel_rfl : evF Pr _ _ _ Tryz.f94 _ w R = V_sponge_of rate suffix n parts w R).mpr h)

def V_bits_Pack (d : Int) (xs : SlV) (w : World) (R : Value → World → Prop) : Prop :=
 iteP ((decide (d < 1)) || (decide (24 < d)))
 (R (.slice none 0 0) w)
 (loop4 (fun (a : SlV) (b : Int) (c : Int) (e : Int) => [(5, some (.slice a.a a.n a.c)), (6, some (.int .i64 b)), (7, some (.int .i64 c)), (18, some (.int .i64 e))])
 (fun f a b c e g => iteP (decide (e < (xs.n:Int)))
 (idxS xs.a e xs.n
 (ldI .i64 (Addr.add (base xs.a) (Int.toNat e * 1)) g fun i =>
 join0 []
 (fun j => cnt c (lt (A := Int) (orI .i64 b (shl .i64 i c)) fun k =>
 (I64 (c + d) ∧
 loop3 (fun (l : SlV) (m : Int) (n : Int) => [(5, some (.slice l.a l.n l.c)), (6, some (.int .i64 m)), (7, some (.int .i64 n))])
 (fun o l m n p => iteP (decide (8 ≤ n))
 (nw t_uint8 [.int .u8 (IntKind.wrap .u8 (m))] p fun q s =>
 appK Pr [t_s_uint8, t_s_uint8] t_s_uint8 [.slice l.a l.n l.c, .slice (some q) 1 1] s fun t u =>
 (I64 (n - 8) ∧
 o t (shr .i64 m 8) (n - 8) u))
 ((I64 (e + 1) ∧
 f l m n (e + 1) p)))
 a k (c + d) j)))
 (fun v =>
 iteP (decide (i < 0))
 (R (.slice none 0 0) g)
 (cnt d (iteP (!decide (shr .i64 i d = 0))
 (R (.slice none 0 0) g)
 (v g))))))
 (iteP (decide (0 < c))
 (nw t_uint8 [.int .u8 (IntKind.wrap .u8 (b))] g fun x y =>
 appK Pr [t_s_uint8, t_s_uint8] t_s_uint8 [.slice a.a a.n a.c, .slice (some x) 1 1] y fun z B =>
 R (.slice z.a z.n z.c) B)
 (R (.slice a.a a.n a.c) g)))
 ⟨none, 0, 0⟩ 0 0 0 w)
theorem V_bits_Pack_of {d : Int} {xs : SlV} {w : World} {R : Value → World → Prop} (h : V_bits_Pack d xs w R) : Ok Pr f_bits_Pack [.int .i64 d, .slice xs.a xs.n xs.c] w R :=
 evF_ok (m := ⟨true, true⟩) (J := [(10, [])]) (L := [(6, [(5, .sl), (6, .int .i64), (7, .int .i64), (18, .int .i64)]), (12, [(5, .sl), (6, .int .i64), (7, .int .i64)])]) good Tryz.func107 (by kernel_rfl) ((by kernel_rfl : evF Pr _ _ _ Tryz.f107 _ w R = V_bits_Pack d xs w R).mpr h)

def V_slices_Grow_byte_byte (s : SlV) (n : Int) (w : World) (R : Value → World → Prop) : Prop :=
 join0 []
 (fun a => (I64 (((s.c : Nat) : Int) - (s.n:Int)) ∧
 (I64 (n - (((s.c : Nat) : Int) - (s.n:Int))) ∧
 lt (A := Int) (n - (((s.c : Nat) : Int) - (s.n:Int))) fun b =>
 iteP (decide (0 < b))
 (slH s ((s.c : Nat) : Int) fun c =>
 appK Pr [t_s_uint8, t_int] t_s_uint8 [.slice c.a c.n c.c, .int .i64 b] a fun d e =>
 slH d (s.n:Int) fun f =>
 R (.slice f.a f.n f.c) e)
 (R (.slice s.a s.n s.c) a))))
 (fun g =>
 iteP (decide (n < 0))
 (False)
 (g w))
theorem V_slices_Grow_byte_byte_of {s : SlV} {n : Int} {w : World} {R : Value → World → Prop} (h : V_slices_Grow_byte_byte s n w R) : Ok Pr f_slices_Grow_byte_byte [.slice s.a s.n s.c, .int .i64 n] w R :=
 evF_ok (m := ⟨true, true⟩) (J := [(3, [])]) (L := []) good Tryz.func108 (by kernel_rfl) ((by kernel_rfl : evF Pr _ _ _ Tryz.f108 _ w R = V_slices_Grow_byte_byte s n w R).mpr h)

def V_slices_Grow_int_int (s : SlV) (n : Int) (w : World) (R : Value → World → Prop) : Prop :=
 join0 []
 (fun a => (I64 (((s.c : Nat) : Int) - (s.n:Int)) ∧
 (I64 (n - (((s.c : Nat) : Int) - (s.n:Int))) ∧
 lt (A := Int) (n - (((s.c : Nat) : Int) - (s.n:Int))) fun b =>
 iteP (decide (0 < b))
 (slH s ((s.c : Nat) : Int) fun c =>
 appK Pr [t_s_s_int, t_int] t_s_s_int [.slice c.a c.n c.c, .int .i64 b] a fun d e =>
 slH d (s.n:Int) fun f =>
 R (.slice f.a f.n f.c) e)
 (R (.slice s.a s.n s.c) a))))
 (fun g =>
 iteP (decide (n < 0))
 (False)
 (g w))
theorem V_slices_Grow_int_int_of {s : SlV} {n : Int} {w : World} {R : Value → World → Prop} (h : V_slices_Grow_int_int s n w R) : Ok Pr f_slices_Grow_int_int [.slice s.a s.n s.c, .int .i64 n] w R :=
 evF_ok (m := ⟨true, true⟩) (J := [(3, [])]) (L := []) good Tryz.func109 (by kernel_rfl) ((by kernel_rfl : evF Pr _ _ _ Tryz.f109 _ w R = V_slices_Grow_int_int s n w R).mpr h)

def V_ref2_Out (rate : Int) (suffix : Int) (b : SlV) (n : Int) (w : World) (R : Value → World → Prop) : Prop :=
 callK Pr f_ref1_Words [] w fun a c =>
 asArr a fun d =>
 nw t_24_uint64 (zc Pr t_24_uint64) c fun e f =>
 stA 24 e d f fun g =>
 appK Pr [t_s_uint8, t_s_uint8] t_s_uint8 [.slice none 0 0, .slice b.a b.n b.c] g fun i j =>
 nw t_uint8 [.int .u8 suffix] j fun k l =>
 appK Pr [t_s_uint8, t_s_uint8] t_s_uint8 [.slice i.a i.n i.c, .slice (some k) 1 1] l fun m o =>
 loop1 (fun (p : SlV) => [(10, some (.slice p.a p.n p.c))])
 (fun q p s => pos rate ((0 ≤ (p.n:Int) ∧
 iteP (!decide ((p.n:Int) % rate = 0))
 (nw t_uint8 [.int .u8 0] s fun t u =>
 appK Pr [t_s_uint8, t_s_uint8] t_s_uint8 [.slice p.a p.n p.c, .slice (some t) 1 1] u fun v x =>
 q v x)
 ((I64 ((p.n:Int) - 1) ∧
 (I64 ((p.n:Int) - 1) ∧
 idxS p.a ((p.n:Int) - 1) p.n
 (ldI .u8 (Addr.add (base p.a) (Int.toNat ((p.n:Int) - 1) * 1)) s fun y =>
 idxS p.a ((p.n:Int) - 1) p.n
 (st (Addr.add (base p.a) (Int.toNat ((p.n:Int) - 1) * 1)) (.int .u8 (xorI .u8 y 128)) s fun z =>
 nw t_25_uint64 (zc Pr t_25_uint64) z fun A B =>
 loop1 (fun (C : Int) => [(12, some (.int .i64 C))])
 (fun D C E => iteP (decide (C < (p.n:Int)))
 (ldA 25 A (World.drew E) fun F =>
 (I64 (C + rate) ∧
 slLH 1 p C (C + rate) fun G =>
 ldA 24 e (World.drew E) fun I =>
 callK Pr f_ref2_mix [.agg ⟨F⟩, .slice G.a G.n G.c] (World.drew E) fun J L =>
 asArr J fun M =>
 (kept e 24 (World.drew E) L ∧
 callK Pr f_ref1_With [.agg ⟨M⟩, .agg ⟨I⟩] L fun N O =>
 asArr N fun Q =>
 stA 25 A Q O fun S =>
 (I64 (C + rate) ∧
 D (C + rate) S))))
 (loop2 (fun (T : SlV) (U : Int) => [(13, some (.slice T.a T.n T.c)), (14, some (.int .i64 U))])
 (fun V T U X => iteP (decide (U < n))
 (join0 []
 (fun Y => pos rate ((0 ≤ U ∧
 ((0 ≤ U % rate ∧ U % rate ≤ IntKind.max .i64) ∧
 idx ((U % rate) / 8) 25
 (ldI .u64 (Addr.add A (Int.toNat ((U % rate) / 8) * 1)) Y fun Z =>
 (0 ≤ U ∧
 (I64 (8 * (U % 8)) ∧
 cnt (8 * (U % 8)) (nw t_uint8 [.int .u8 (IntKind.wrap .u8 (shr .u64 Z (8 * (U % 8))))] Y fun aa ba =>
 appK Pr [t_s_uint8, t_s_uint8] t_s_uint8 [.slice T.a T.n T.c, .slice (some aa) 1 1] ba fun ca da =>
 (I64 (U + 1) ∧
 V ca (U + 1) da)))))))))
 (fun ea =>
 join1 (fun (fa : Bool) => [(70, some (.bool fa))])
 (fun fa ga => iteP fa
 (ldA 25 A ga fun ia =>
 ldA 24 e ga fun ja =>
 callK Pr f_ref1_With [.agg ⟨ia⟩, .agg ⟨ja⟩] ga fun ka la =>
 asArr ka fun ma =>
 stA 25 A ma la fun na =>
 ea na)
 (ea ga))
 (fun oa =>
 iteP (decide (0 < U))
 (pos rate ((0 ≤ U ∧
 oa (decide (U % rate = 0)) X)))
 (oa false X))))
 (R (.slice T.a T.n T.c) X))
 ⟨none, 0, 0⟩ 0 E))
 0 B))))))))
 m o
theorem V_ref2_Out_of {rate : Int} {suffix : Int} {b : SlV} {n : Int} {w : World} {R : Value → World → Prop} (h : V_ref2_Out rate suffix b n w R) : Ok Pr f_ref2_Out [.int .i64 rate, .int .u8 suffix, .slice b.a b.n b.c, .int .i64 n] w R :=
 evF_ok (m := ⟨true, true⟩) (J := [(17, []), (16, [(70, .bool)])]) (L := [(3, [(10, .sl)]), (8, [(12, .int .i64)]), (13, [(13, .sl), (14, .int .i64)])]) good Tryz.func125 (by kernel_rfl) ((by kernel_rfl : evF Pr _ _ _ Tryz.f125 _ w R = V_ref2_Out rate suffix b n w R).mpr h)

def V_ref2_Many (n : Int) (w : World) (R : Value → World → Prop) : Prop :=
 iteP ((decide (n < 1)) || (decide (1048576 < n)))
 (R (.int .i64 0) w)
 (R (.int .i64 n) w)
theorem V_ref2_Many_of {n : Int} {w : World} {R : Value → World → Prop} (h : V_ref2_Many n w R) : Ok Pr f_ref2_Many [.int .i64 n] w R :=
 evF_ok (m := ⟨true, true⟩) (J := []) (L := []) good Tryz.func126 (by kernel_rfl) ((by kernel_rfl : evF Pr _ _ _ Tryz.f126 _ w R = V_ref2_Many n w R).mpr h)

def V_slices_ContainsFunc_byte_byte (s : SlV) (f : Value) (w : World) (R : Value → World → Prop) : Prop :=
 callK Pr f_slices_IndexFunc_byte_byte [.slice s.a s.n s.c, f] w fun a b =>
 asI .i64 a fun c =>
 R (.bool (decide (0 ≤ c))) b
theorem V_slices_ContainsFunc_byte_byte_of {s : SlV} {f : Value} {w : World} {R : Value → World → Prop} (h : V_slices_ContainsFunc_byte_byte s f w R) : Ok Pr f_slices_ContainsFunc_byte_byte [.slice s.a s.n s.c, f] w R :=
 evF_ok (m := ⟨true, true⟩) (J := []) (L := []) good Tryz.func135 (by kernel_rfl) ((by kernel_rfl : evF Pr _ _ _ Tryz.f135 _ w R = V_slices_ContainsFunc_byte_byte s f w R).mpr h)

def V_sponge_New (rate : Int) (suffix : Int) (w : World) (R : Value → World → Prop) : Prop :=
 iteP (((((decide (rate < 8)) || (decide (192 < rate))) || (!decide (Int.tmod rate 8 = 0))) || (decide (suffix < 1))) || (decide (127 < suffix)))
 (R (.pointer none) w)
 (nw t_sponge_Sponge [.int .u64 0, .int .u64 0, .int .u64 0, .int .u64 0, .int .u64 0, .int .u64 0, .int .u64 0, .int .u64 0, .int .u64 0, .int .u64 0, .int .u64 0, .int .u64 0, .int .u64 0, .int .u64 0, .int .u64 0, .int .u64 0, .int .u64 0, .int .u64 0, .int .u64 0, .int .u64 0, .int .u64 0, .int .u64 0, .int .u64 0, .int .u64 0, .int .u64 0, .int .i64 rate, .int .u8 suffix, .int .i64 0, .bool false] w fun a b =>
 R (.pointer (some a)) b)
theorem V_sponge_New_of {rate : Int} {suffix : Int} {w : World} {R : Value → World → Prop} (h : V_sponge_New rate suffix w R) : Ok Pr f_sponge_New [.int .i64 rate, .int .u8 suffix] w R :=
 evF_ok (m := ⟨true, true⟩) (J := []) (L := []) good Tryz.func139 (by kernel_rfl) ((by kernel_rfl : evF Pr _ _ _ Tryz.f139 _ w R = V_sponge_New rate suffix w R).mpr h)

def V_sponge_Sponge_Write (s : Option Addr) (parts : SlV) (w : World) (R : Value → World → Prop) : Prop :=
 iteP (Option.isNone (α := Addr) s)
 (callK Pr f_sponge_fault [.int .i64 1] w fun a b =>
 R a b)
 (nilchk s fun c =>
 ldB (Addr.add c 28) w fun d =>
 iteP d
 (callK Pr f_sponge_fault [.int .i64 5] w fun e f =>
 R e f)
 (loop1 (fun (g : Int) => [(21, some (.int .i64 g))])
 (fun i g j => iteP (decide (g < (parts.n:Int)))
 (idxS parts.a g parts.n
 (ldL (Addr.add (base parts.a) (Int.toNat g * 1)) j fun k =>
 loop1 (fun (l : Int) => [(27, some (.int .i64 l))])
 (fun m l n => iteP (decide (l < (k.n:Int)))
 (idxS k.a l k.n
 (ldI .u8 (Addr.add (base k.a) (Int.toNat l * 1)) n fun o =>
 nilchk s fun p =>
 ldI .i64 (Addr.add p 27) n fun q =>
 callK Pr f_sponge_Sponge_flip [.pointer s, .int .i64 q, .int .u8 o] n fun t u =>
 nilchk s fun v =>
 ldI .i64 (Addr.add v 27) u fun x =>
 (I64 (x + 1) ∧
 nilchk s fun y =>
 st (Addr.add y 27) (.int .i64 (x + 1)) u fun z =>
 callK Pr f_sponge_Sponge_turn [.pointer s] z fun A B =>
 (I64 (l + 1) ∧
 m (l + 1) B))))
 ((I64 (g + 1) ∧
 i (g + 1) n)))
 0 j))
 (R (.nilIface) j))
 0 w))
theorem V_sponge_Sponge_Write_of {s : Option Addr} {parts : SlV} {w : World} {R : Value → World → Prop} (h : V_sponge_Sponge_Write s parts w R) : Ok Pr f_sponge_Sponge_Write [.pointer s, .slice parts.a parts.n parts.c] w R :=
 evF_ok (m := ⟨true, true⟩) (J := []) (L := [(6, [(21, .int .i64)]), (9, [(27, .int .i64)])]) good Tryz.func140 (by kernel_rfl) ((by kernel_rfl : evF Pr _ _ _ Tryz.f140 _ w R = V_sponge_Sponge_Write s parts w R).mpr h)

def V_sponge_Sponge_Read (s : Option Addr) (n : Int) (w : World) (R : Value → World → Prop) : Prop :=
 iteP (((Option.isNone (α := Addr) s) || (decide (n < 1))) || (decide (1048576 < n)))
 (R (.slice none 0 0) w)
 (join0 []
 (fun a => mkSl Pr t_uint8 0 n a fun b c =>
 loop2 (fun (d : SlV) (e : Int) => [(5, some (.slice d.a d.n d.c)), (51, some (.int .i64 e))])
 (fun f d e g => iteP (decide (e < n))
 (callK Pr f_sponge_Sponge_turn [.pointer s] g fun i j =>
 nilchk s fun k =>
 ldI .i64 (Addr.add k 27) (World.drew j) fun l =>
 ((0 ≤ l ∧ l ≤ IntKind.max .i64) ∧
 nilchk s fun m =>
 idx (l / 8) 25
 (ldI .u64 (Addr.add (Addr.add m 0) (Int.toNat (l / 8) * 1)) (World.drew j) fun o =>
 nilchk s fun p =>
 ldI .i64 (Addr.add p 27) (World.drew j) fun q =>
 (0 ≤ q ∧
 (I64 (8 * (q % 8)) ∧
 cnt (8 * (q % 8)) (nw t_uint8 [.int .u8 (IntKind.wrap .u8 (shr .u64 o (8 * (q % 8))))] (World.drew j) fun t u =>
 appK Pr [t_s_uint8, t_s_uint8] t_s_uint8 [.slice d.a d.n d.c, .slice (some t) 1 1] u fun v x =>
 nilchk s fun y =>
 ldI .i64 (Addr.add y 27) x fun z =>
 (I64 (z + 1) ∧
 nilchk s fun A =>
 st (Addr.add A 27) (.int .i64 (z + 1)) x fun B =>
 (I64 (e + 1) ∧
 f v (e + 1) B))))))))
 (R (.slice d.a d.n d.c) g))
 b 0 c)
 (fun C =>
 nilchk s fun D =>
 ldB (Addr.add D 28) w fun E =>
 iteP (!E)
 (nilchk s fun F =>
 ldI .i64 (Addr.add F 27) (World.drew w) fun G =>
 nilchk s fun I =>
 ldI .u8 (Addr.add I 26) (World.drew w) fun J =>
 callK Pr f_sponge_Sponge_flip [.pointer s, .int .i64 G, .int .u8 J] (World.drew w) fun L M =>
 nilchk s fun N =>
 ldI .i64 (Addr.add N 25) M fun O =>
 (I64 (O - 1) ∧
 callK Pr f_sponge_Sponge_flip [.pointer s, .int .i64 (O - 1), .int .u8 128] M fun Q S =>
 nilchk s fun T =>
 ldI .i64 (Addr.add T 25) S fun U =>
 nilchk s fun V =>
 st (Addr.add V 28) (.bool true) S fun X =>
 nilchk s fun Y =>
 st (Addr.add Y 27) (.int .i64 U) X fun Z =>
 C Z))
 (C w)))
theorem V_sponge_Sponge_Read_of {s : Option Addr} {n : Int} {w : World} {R : Value → World → Prop} (h : V_sponge_Sponge_Read s n w R) : Ok Pr f_sponge_Sponge_Read [.pointer s, .int .i64 n] w R :=
 evF_ok (m := ⟨true, true⟩) (J := [(7, [])]) (L := [(9, [(5, .sl), (51, .int .i64)])]) good Tryz.func141 (by kernel_rfl) ((by kernel_rfl : evF Pr _ _ _ Tryz.f141 _ w R = V_sponge_Sponge_Read s n w R).mpr h)

def V_bits_Low (d : Int) (x : Int) (w : World) (R : Value → World → Prop) : Prop :=
 iteP ((decide (d < 0)) || (decide (62 < d)))
 (R (.int .i64 0) w)
 (cnt d ((I64 ((shl .i64 1 d) - 1) ∧
 R (.int .i64 (andI .i64 x ((shl .i64 1 d) - 1))) w)))
theorem V_bits_Low_of {d : Int} {x : Int} {w : World} {R : Value → World → Prop} (h : V_bits_Low d x w R) : Ok Pr f_bits_Low [.int .i64 d, .int .i64 x] w R :=
 evF_ok (m := ⟨true, true⟩) (J := []) (L := []) good Tryz.func143 (by kernel_rfl) ((by kernel_rfl : evF Pr _ _ _ Tryz.f143 _ w R = V_bits_Low d x w R).mpr h)

def V_ref5_Bit (b : SlV) (kv : Int) (w : World) (R : Value → World → Prop) : Prop :=
 ((0 ≤ kv ∧ kv ≤ IntKind.max .i64) ∧
 idxS b.a (kv / 8) b.n
 (ldI .u8 (Addr.add (base b.a) (Int.toNat (kv / 8) * 1)) w fun a =>
 (I64 (a) ∧
 (0 ≤ kv ∧
 cnt (kv % 8) (R (.int .i64 (andI .i64 (shr .i64 a (kv % 8)) 1)) w)))))
theorem V_ref5_Bit_of {b : SlV} {kv : Int} {w : World} {R : Value → World → Prop} (h : V_ref5_Bit b kv w R) : Ok Pr f_ref5_Bit [.slice b.a b.n b.c, .int .i64 kv] w R :=
 evF_ok (m := ⟨true, true⟩) (J := []) (L := []) good Tryz.func153 (by kernel_rfl) ((by kernel_rfl : evF Pr _ _ _ Tryz.f153 _ w R = V_ref5_Bit b kv w R).mpr h)

def V_ref5_Pack (d : Int) (xs : SlV) (w : World) (R : Value → World → Prop) : Prop :=
 iteP ((decide (d < 1)) || (decide (24 < d)))
 (R (.slice none 0 0) w)
 ((I64 (d * (xs.n:Int)) ∧
 (I64 ((d * (xs.n:Int)) + 7) ∧
 ((0 ≤ (d * (xs.n:Int)) + 7 ∧ (d * (xs.n:Int)) + 7 ≤ IntKind.max .i64) ∧
 mkSl Pr t_uint8 (((d * (xs.n:Int)) + 7) / 8) (((d * (xs.n:Int)) + 7) / 8) w fun a b =>
 loop1 (fun (c : Int) => [(6, some (.int .i64 c))])
 (fun e c f => iteP (decide (c < (xs.n:Int)))
 (join0 []
 (fun g => loop1 (fun (i : Int) => [(7, some (.int .i64 i))])
 (fun j i k => iteP (decide (i < d))
 ((I64 (d * c) ∧
 (I64 ((d * c) + i) ∧
 ((0 ≤ (d * c) + i ∧ (d * c) + i ≤ IntKind.max .i64) ∧
 ((0 ≤ (d * c) + i ∧ (d * c) + i ≤ IntKind.max .i64) ∧
 idxS a.a (((d * c) + i) / 8) a.n
 (ldI .u8 (Addr.add (base a.a) (Int.toNat (((d * c) + i) / 8) * 1)) (World.drew k) fun l =>
 idxS xs.a c xs.n
 (ldI .i64 (Addr.add (base xs.a) (Int.toNat c * 1)) (World.drew k) fun m =>
 cnt i ((0 ≤ (d * c) + i ∧
 cnt (((d * c) + i) % 8) (idxS a.a (((d * c) + i) / 8) a.n
 (st (Addr.add (base a.a) (Int.toNat (((d * c) + i) / 8) * 1)) (.int .u8 (orI .u8 l (IntKind.wrap .u8 (shl .i64 (andI .i64 (shr .i64 m i) 1) (((d * c) + i) % 8))))) (World.drew k) fun n =>
 (I64 (i + 1) ∧
 j (i + 1) n))))))))))))
 ((I64 (c + 1) ∧
 e (c + 1) k)))
 0 g)
 (fun o =>
 idxS xs.a c xs.n
 (ldI .i64 (Addr.add (base xs.a) (Int.toNat c * 1)) (World.drew f) fun p =>
 iteP (decide (p < 0))
 (R (.slice none 0 0) (World.drew f))
 (idxS xs.a c xs.n
 (ldI .i64 (Addr.add (base xs.a) (Int.toNat c * 1)) (World.drew f) fun q =>
 cnt d (iteP (decide (shl .i64 1 d ≤ q))
 (R (.slice none 0 0) (World.drew f))
 (o (World.drew f))))))))
 (R (.slice a.a a.n a.c) f))
 0 b))))
theorem V_ref5_Pack_of {d : Int} {xs : SlV} {w : World} {R : Value → World → Prop} (h : V_ref5_Pack d xs w R) : Ok Pr f_ref5_Pack [.int .i64 d, .slice xs.a xs.n xs.c] w R :=
 evF_ok (m := ⟨true, true⟩) (J := [(9, [])]) (L := [(5, [(6, .int .i64)]), (10, [(7, .int .i64)])]) good Tryz.func164 (by kernel_rfl) ((by kernel_rfl : evF Pr _ _ _ Tryz.f164 _ w R = V_ref5_Pack d xs w R).mpr h)

def V_slices_IndexFunc_int_int (s : SlV) (f : Value) (w : World) (R : Value → World → Prop) : Prop :=
 loop1 (fun (a : Int) => [(8, some (.int .i64 a))])
 (fun b a c => iteP (decide (a < (s.n:Int)))
 (idxS s.a a s.n
 (ldI .i64 (Addr.add (base s.a) (Int.toNat a * 1)) c fun d =>
 callV Pr f [.int .i64 d] c fun e g =>
 asB e fun i =>
 iteP i
 (R (.int .i64 a) g)
 ((I64 (a + 1) ∧
 b (a + 1) g))))
 (R (.int .i64 (-1:Int)) c))
 0 w
theorem V_slices_IndexFunc_int_int_of {s : SlV} {f : Value} {w : World} {R : Value → World → Prop} (h : V_slices_IndexFunc_int_int s f w R) : Ok Pr f_slices_IndexFunc_int_int [.slice s.a s.n s.c, f] w R :=
 evF_ok (m := ⟨true, true⟩) (J := []) (L := [(2, [(8, .int .i64)])]) good Tryz.func167 (by kernel_rfl) ((by kernel_rfl : evF Pr _ _ _ Tryz.f167 _ w R = V_slices_IndexFunc_int_int s f w R).mpr h)

def V_slices_Clone_int_int (s : SlV) (w : World) (R : Value → World → Prop) : Prop :=
 iteP (Option.isNone (α := Addr) s.a)
 (R (.slice none 0 0) w)
 (nw t_int [] w fun a b =>
 appK Pr [t_s_int, t_s_int] t_s_int [.slice (some a) 0 0, .slice s.a s.n s.c] b fun c d =>
 R (.slice c.a c.n c.c) d)
theorem V_slices_Clone_int_int_of {s : SlV} {w : World} {R : Value → World → Prop} (h : V_slices_Clone_int_int s w R) : Ok Pr f_slices_Clone_int_int [.slice s.a s.n s.c] w R :=
 evF_ok (m := ⟨true, true⟩) (J := []) (L := []) good Tryz.func182 (by kernel_rfl) ((by kernel_rfl : evF Pr _ _ _ Tryz.f182 _ w R = V_slices_Clone_int_int s w R).mpr h)

def V_math_bits_Len (x : Int) (w : World) (R : Value → World → Prop) : Prop :=
 callK Pr f_math_bits_Len64 [.int .u64 x] w fun a b =>
 asI .i64 a fun c =>
 R (.int .i64 c) b
theorem V_math_bits_Len_of {x : Int} {w : World} {R : Value → World → Prop} (h : V_math_bits_Len x w R) : Ok Pr f_math_bits_Len [.int .u64 x] w R :=
 evF_ok (m := ⟨true, true⟩) (J := []) (L := []) good Tryz.func185 (by kernel_rfl) ((by kernel_rfl : evF Pr _ _ _ Tryz.f185 _ w R = V_math_bits_Len x w R).mpr h)

def V_ref1_Words (w : World) (R : Value → World → Prop) : Prop :=
 nw t_24_uint64 (zc Pr t_24_uint64) w fun a b =>
 nw t_24_uint64 (zc Pr t_24_uint64) b fun c d =>
 loop1 (fun (e : Int) => [(2, some (.int .i64 e))])
 (fun f e g => iteP (decide (e < 24))
 (loop1 (fun (i : Int) => [(3, some (.int .i64 i))])
 (fun j i k => iteP (decide (i < 7))
 (idx e 24
 (ldI .u64 (Addr.add c (Int.toNat e * 1)) (World.drew k) fun l =>
 (I64 (7 * e) ∧
 (I64 (i + (7 * e)) ∧
 cnt i (callK Pr f_ref1_rc [.int .i64 (i + (7 * e))] (World.drew k) fun m n =>
 asI .u64 m fun o =>
 (kept (Addr.add c (Int.toNat e * 1)) 1 (World.drew k) n ∧
 cnt (IntKind.wrap .u64 ((shl .u64 1 i) - 1)) (idx e 24
 (st (Addr.add c (Int.toNat e * 1)) (.int .u64 (orI .u64 l (shl .u64 o (IntKind.wrap .u64 ((shl .u64 1 i) - 1))))) n fun p =>
 (I64 (i + 1) ∧
 j (i + 1) p)))))))))
 ((I64 (e + 1) ∧
 f (e + 1) k)))
 0 g)
 (ldA 24 c g fun q =>
 stA 24 a q g fun s =>
 ldA 24 a s fun t =>
 R (.agg ⟨t⟩) s))
 0 d
theorem V_ref1_Words_of {w : World} {R : Value → World → Prop} (h : V_ref1_Words w R) : Ok Pr f_ref1_Words [] w R :=
 evF_ok (m := ⟨true, true⟩) (J := []) (L := [(3, [(2, .int .i64)]), (6, [(3, .int .i64)])]) good Tryz.func189 (by kernel_rfl) ((by kernel_rfl : evF Pr _ _ _ Tryz.f189 _ w R = V_ref1_Words w R).mpr h)

def V_ref1_With (a : List Value) (words : List Value) (w : World) (R : Value → World → Prop) : Prop :=
 nw t_25_uint64 a w fun b c =>
 nw t_24_uint64 words c fun d e =>
 nw t_25_uint64 (zc Pr t_25_uint64) e fun f g =>
 loop1 (fun (i : Int) => [(5, some (.int .i64 i))])
 (fun j i k => iteP (decide (i < 24))
 (ldA 25 b k fun l =>
 callK Pr f_ref1_Theta [.agg ⟨l⟩] k fun m n =>
 asArr m fun o =>
 callK Pr f_ref1_Rho [.agg ⟨o⟩] n fun p q =>
 asArr p fun s =>
 callK Pr f_ref1_Pi [.agg ⟨s⟩] q fun t u =>
 asArr t fun v =>
 callK Pr f_ref1_Chi [.agg ⟨v⟩] u fun x y =>
 asArr x fun z =>
 stA 25 b z y fun A =>
 idx 0 25
 (ldI .u64 (Addr.add b (Int.toNat 0 * 1)) (World.drew A) fun B =>
 idx i 24
 (ldI .u64 (Addr.add d (Int.toNat i * 1)) (World.drew A) fun C =>
 idx 0 25
 (st (Addr.add b (Int.toNat 0 * 1)) (.int .u64 (xorI .u64 B C)) (World.drew A) fun D =>
 (I64 (i + 1) ∧
 j (i + 1) D)))))
 (ldA 25 b k fun E =>
 stA 25 f E k fun F =>
 ldA 25 f F fun G =>
 R (.agg ⟨G⟩) F))
 0 g
theorem V_ref1_With_of {a : List Value} {words : List Value} {w : World} {R : Value → World → Prop} (h : V_ref1_With a words w R) : Ok Pr f_ref1_With [.agg ⟨a⟩, .agg ⟨words⟩] w R :=
 evF_ok (m := ⟨true, true⟩) (J := []) (L := [(2, [(5, .int .i64)])]) good Tryz.func190 (by kernel_rfl) ((by kernel_rfl : evF Pr _ _ _ Tryz.f190 _ w R = V_ref1_With a words w R).mpr h)

def V_ref2_mix (a : List Value) (b : SlV) (w : World) (R : Value → World → Prop) : Prop :=
 nw t_25_uint64 a w fun c d =>
 nw t_25_uint64 (zc Pr t_25_uint64) d fun e f =>
 loop1 (fun (g : Int) => [(5, some (.int .i64 g))])
 (fun i g j => iteP (decide (g < (b.n:Int)))
 (((0 ≤ g ∧ g ≤ IntKind.max .i64) ∧
 ((0 ≤ g ∧ g ≤ IntKind.max .i64) ∧
 idx (g / 8) 25
 (ldI .u64 (Addr.add c (Int.toNat (g / 8) * 1)) (World.drew j) fun k =>
 idxS b.a g b.n
 (ldI .u8 (Addr.add (base b.a) (Int.toNat g * 1)) (World.drew j) fun l =>
 (0 ≤ g ∧
 (I64 (8 * (g % 8)) ∧
 cnt (8 * (g % 8)) (idx (g / 8) 25
 (st (Addr.add c (Int.toNat (g / 8) * 1)) (.int .u64 (xorI .u64 k (shl .u64 (IntKind.wrap .u64 (l)) (8 * (g % 8))))) (World.drew j) fun m =>
 (I64 (g + 1) ∧
 i (g + 1) m))))))))))
 (ldA 25 c j fun n =>
 stA 25 e n j fun o =>
 ldA 25 e o fun p =>
 R (.agg ⟨p⟩) o))
 0 f
theorem V_ref2_mix_of {a : List Value} {b : SlV} {w : World} {R : Value → World → Prop} (h : V_ref2_mix a b w R) : Ok Pr f_ref2_mix [.agg ⟨a⟩, .slice b.a b.n b.c] w R :=
 evF_ok (m := ⟨true, true⟩) (J := []) (L := [(2, [(5, .int .i64)])]) good Tryz.func191 (by kernel_rfl) ((by kernel_rfl : evF Pr _ _ _ Tryz.f191 _ w R = V_ref2_mix a b w R).mpr h)

def V_slices_IndexFunc_byte_byte (s : SlV) (f : Value) (w : World) (R : Value → World → Prop) : Prop :=
 loop1 (fun (a : Int) => [(8, some (.int .i64 a))])
 (fun b a c => iteP (decide (a < (s.n:Int)))
 (idxS s.a a s.n
 (ldI .u8 (Addr.add (base s.a) (Int.toNat a * 1)) c fun d =>
 callV Pr f [.int .u8 d] c fun e g =>
 asB e fun i =>
 iteP i
 (R (.int .i64 a) g)
 ((I64 (a + 1) ∧
 b (a + 1) g))))
 (R (.int .i64 (-1:Int)) c))
 0 w
theorem V_slices_IndexFunc_byte_byte_of {s : SlV} {f : Value} {w : World} {R : Value → World → Prop} (h : V_slices_IndexFunc_byte_byte s f w R) : Ok Pr f_slices_IndexFunc_byte_byte [.slice s.a s.n s.c, f] w R :=
 evF_ok (m := ⟨true, true⟩) (J := []) (L := [(2, [(8, .int .i64)])]) good Tryz.func194 (by kernel_rfl) ((by kernel_rfl : evF Pr _ _ _ Tryz.f194 _ w R = V_slices_IndexFunc_byte_byte s f w R).mpr h)

def V_sponge_Sponge_flip (s : Option Addr) (i : Int) (b : Int) (w : World) (R : Value → World → Prop) : Prop :=
 ((0 ≤ i ∧ i ≤ IntKind.max .i64) ∧
 nilchk s fun a =>
 idx (i / 8) 25
 (ldI .u64 (Addr.add (Addr.add a 0) (Int.toNat (i / 8) * 1)) (World.drew w) fun c =>
 (0 ≤ i ∧
 (I64 (8 * (i % 8)) ∧
 cnt (8 * (i % 8)) (nilchk s fun d =>
 idx (i / 8) 25
 (st (Addr.add (Addr.add d 0) (Int.toNat (i / 8) * 1)) (.int .u64 (xorI .u64 c (shl .u64 (IntKind.wrap .u64 (b)) (8 * (i % 8))))) (World.drew w) fun e =>
 R (.tuple ⟨[]⟩) e))))))
theorem V_sponge_Sponge_flip_of {s : Option Addr} {i : Int} {b : Int} {w : World} {R : Value → World → Prop} (h : V_sponge_Sponge_flip s i b w R) : Ok Pr f_sponge_Sponge_flip [.pointer s, .int .i64 i, .int .u8 b] w R :=
 evF_ok (m := ⟨true, true⟩) (J := []) (L := []) good Tryz.func196 (by kernel_rfl) ((by kernel_rfl : evF Pr _ _ _ Tryz.f196 _ w R = V_sponge_Sponge_flip s i b w R).mpr h)

def V_sponge_Sponge_turn (s : Option Addr) (w : World) (R : Value → World → Prop) : Prop :=
 nilchk s fun a =>
 ldI .i64 (Addr.add a 27) (World.drew w) fun b =>
 nilchk s fun c =>
 ldI .i64 (Addr.add c 25) (World.drew w) fun d =>
 iteP (decide (b = d))
 (nilchk s fun e =>
 ldA 25 (Addr.add e 0) (World.drew w) fun f =>
 callK Pr f_keccak_Permute [.agg ⟨f⟩] (World.drew w) fun g i =>
 asArr g fun j =>
 nilchk s fun k =>
 stA 25 (Addr.add k 0) j i fun l =>
 nilchk s fun m =>
 st (Addr.add m 27) (.int .i64 0) l fun n =>
 R (.tuple ⟨[]⟩) n)
 (R (.tuple ⟨[]⟩) (World.drew w))
theorem V_sponge_Sponge_turn_of {s : Option Addr} {w : World} {R : Value → World → Prop} (h : V_sponge_Sponge_turn s w R) : Ok Pr f_sponge_Sponge_turn [.pointer s] w R :=
 evF_ok (m := ⟨true, true⟩) (J := []) (L := []) good Tryz.func197 (by kernel_rfl) ((by kernel_rfl : evF Pr _ _ _ Tryz.f197 _ w R = V_sponge_Sponge_turn s w R).mpr h)

def V_slices_ContainsFunc_int_int_873da6 (s : SlV) (f : Value) (w : World) (R : Value → World → Prop) : Prop :=
 callK Pr f_slices_IndexFunc_int_int_3f3901 [.slice s.a s.n s.c, f] w fun a b =>
 asI .i64 a fun c =>
 R (.bool (decide (0 ≤ c))) b
theorem V_slices_ContainsFunc_int_int_873da6_of {s : SlV} {f : Value} {w : World} {R : Value → World → Prop} (h : V_slices_ContainsFunc_int_int_873da6 s f w R) : Ok Pr f_slices_ContainsFunc_int_int_873da6 [.slice s.a s.n s.c, f] w R :=
 evF_ok (m := ⟨true, true⟩) (J := []) (L := []) good Tryz.func201 (by kernel_rfl) ((by kernel_rfl : evF Pr _ _ _ Tryz.f201 _ w R = V_slices_ContainsFunc_int_int_873da6 s f w R).mpr h)

def V_ref5_Turn (d : Int) (x : Int) (w : World) (R : Value → World → Prop) : Prop :=
 iteP ((decide (d < 0)) || (decide (62 < d)))
 (R (.int .i64 0) w)
 (loop2 (fun (a : Int) (b : Int) => [(5, some (.int .i64 a)), (6, some (.int .i64 b))])
 (fun c a b e => iteP (decide (b < d))
 ((I64 (2 * a) ∧
 cnt b ((I64 ((2 * a) + (andI .i64 (shr .i64 x b) 1)) ∧
 lt (A := Int) ((2 * a) + (andI .i64 (shr .i64 x b) 1)) fun f =>
 (I64 (b + 1) ∧
 c f (b + 1) e)))))
 (R (.int .i64 a) e))
 0 0 w)
theorem V_ref5_Turn_of {d : Int} {x : Int} {w : World} {R : Value → World → Prop} (h : V_ref5_Turn d x w R) : Ok Pr f_ref5_Turn [.int .i64 d, .int .i64 x] w R :=
 evF_ok (m := ⟨true, true⟩) (J := []) (L := [(5, [(5, .int .i64), (6, .int .i64)])]) good Tryz.func204 (by kernel_rfl) ((by kernel_rfl : evF Pr _ _ _ Tryz.f204 _ w R = V_ref5_Turn d x w R).mpr h)

def V_ref2_Shake128 (n : Int) (b : SlV) (w : World) (R : Value → World → Prop) : Prop :=
 callK Pr f_ref2_Many [.int .i64 n] w fun a c =>
 asI .i64 a fun d =>
 callK Pr f_ref2_Out [.int .i64 168, .int .u8 31, .slice b.a b.n b.c, .int .i64 d] c fun e f =>
 asSl e fun g =>
 R (.slice g.a g.n g.c) f
theorem V_ref2_Shake128_of {n : Int} {b : SlV} {w : World} {R : Value → World → Prop} (h : V_ref2_Shake128 n b w R) : Ok Pr f_ref2_Shake128 [.int .i64 n, .slice b.a b.n b.c] w R :=
 evF_ok (m := ⟨true, true⟩) (J := []) (L := []) good Tryz.func206 (by kernel_rfl) ((by kernel_rfl : evF Pr _ _ _ Tryz.f206 _ w R = V_ref2_Shake128 n b w R).mpr h)

def V_bits_Turn (d : Int) (x : Int) (w : World) (R : Value → World → Prop) : Prop :=
 callK Pr f_bits_Low [.int .i64 d, .int .i64 x] w fun a b =>
 asI .i64 a fun c =>
 loop2 (fun (e : Int) (f : Int) => [(5, some (.int .i64 e)), (6, some (.int .i64 f))])
 (fun g e f i => iteP ((decide (f < d)) && (decide (d ≤ 62)))
 ((I64 (2 * e) ∧
 cnt f ((I64 ((2 * e) + (andI .i64 (shr .i64 c f) 1)) ∧
 lt (A := Int) ((2 * e) + (andI .i64 (shr .i64 c f) 1)) fun j =>
 (I64 (f + 1) ∧
 g j (f + 1) i)))))
 (R (.int .i64 e) i))
 0 0 b
theorem V_bits_Turn_of {d : Int} {x : Int} {w : World} {R : Value → World → Prop} (h : V_bits_Turn d x w R) : Ok Pr f_bits_Turn [.int .i64 d, .int .i64 x] w R :=
 evF_ok (m := ⟨true, true⟩) (J := []) (L := [(4, [(5, .int .i64), (6, .int .i64)])]) good Tryz.func210 (by kernel_rfl) ((by kernel_rfl : evF Pr _ _ _ Tryz.f210 _ w R = V_bits_Turn d x w R).mpr h)

def V_math_bits_Len64 (x : Int) (w : World) (R : Value → World → Prop) : Prop :=
 join2 (fun (a : Int) (b : Int) => [(0, some (.int .u64 a)), (2, some (.int .i64 b))])
 (fun a b c => join2 (fun (d : Int) (e : Int) => [(0, some (.int .u64 d)), (2, some (.int .i64 e))])
 (fun d e f => join2 (fun (g : Int) (i : Int) => [(0, some (.int .u64 g)), (2, some (.int .i64 i))])
 (fun g i j => idx (IntKind.wrap .u8 (g)) (ByteArray.size S_empty_14a5d8)
 ((I64 (chr S_empty_14a5d8 (IntKind.wrap .u8 (g))) ∧
 (I64 (i + (chr S_empty_14a5d8 (IntKind.wrap .u8 (g)))) ∧
 lt (A := Int) (i + (chr S_empty_14a5d8 (IntKind.wrap .u8 (g)))) fun k =>
 R (.int .i64 k) j))))
 (fun l =>
 iteP (decide (256 ≤ d))
 ((I64 (e + 8) ∧
 l (shr .u64 d 8) (e + 8) f))
 (l d e f)))
 (fun m =>
 iteP (decide (65536 ≤ a))
 ((I64 (b + 16) ∧
 m (shr .u64 a 16) (b + 16) c))
 (m a b c)))
 (fun n =>
 iteP (decide (4294967296 ≤ x))
 (n (shr .u64 x 32) 32 w)
 (n x 0 w))
theorem V_math_bits_Len64_of {x : Int} {w : World} {R : Value → World → Prop} (h : V_math_bits_Len64 x w R) : Ok Pr f_math_bits_Len64 [.int .u64 x] w R :=
 evF_ok (m := ⟨true, true⟩) (J := [(4, [(0, .int .u64), (2, .int .i64)]), (7, [(0, .int .u64), (2, .int .i64)]), (10, [(0, .int .u64), (2, .int .i64)])]) (L := []) good Tryz.func212 (by kernel_rfl) ((by kernel_rfl : evF Pr _ _ _ Tryz.f212 _ w R = V_math_bits_Len64 x w R).mpr h)

def V_ref1_rc (t : Int) (w : World) (R : Value → World → Prop) : Prop :=
 loop2 (fun (a : Int) (b : Int) => [(3, some (.int .u64 a)), (4, some (.int .i64 b))])
 (fun c a b d => (0 ≤ t ∧
 iteP (decide (b < t % 255))
 (iteP (!decide (andI .u64 (shl .u64 a 1) 256 = 0))
 (lt (A := Int) (xorI .u64 (xorI .u64 (xorI .u64 (xorI .u64 (xorI .u64 (shl .u64 a 1) 256) 1) 16) 32) 64) fun e =>
 (I64 (b + 1) ∧
 c e (b + 1) d))
 ((I64 (b + 1) ∧
 c (shl .u64 a 1) (b + 1) d)))
 (R (.int .u64 (andI .u64 a 1)) d)))
 1 0 w
theorem V_ref1_rc_of {t : Int} {w : World} {R : Value → World → Prop} (h : V_ref1_rc t w R) : Ok Pr f_ref1_rc [.int .i64 t] w R :=
 evF_ok (m := ⟨true, true⟩) (J := []) (L := [(3, [(3, .int .u64), (4, .int .i64)])]) good Tryz.func213 (by kernel_rfl) ((by kernel_rfl : evF Pr _ _ _ Tryz.f213 _ w R = V_ref1_rc t w R).mpr h)

def V_ref1_Chi (a : List Value) (w : World) (R : Value → World → Prop) : Prop :=
 nw t_25_uint64 a w fun b c =>
 nw t_25_uint64 (zc Pr t_25_uint64) c fun d e =>
 nw t_25_uint64 (zc Pr t_25_uint64) e fun f g =>
 loop1 (fun (i : Int) => [(4, some (.int .i64 i))])
 (fun j i k => iteP (decide (i < 5))
 (loop1 (fun (l : Int) => [(5, some (.int .i64 l))])
 (fun m l n => iteP (decide (l < 5))
 ((I64 (i + 1) ∧
 (I64 (i + 2) ∧
 callK Pr f_ref1_at [.int .i64 i, .int .i64 l] (World.drew n) fun o p =>
 asI .i64 o fun q =>
 callK Pr f_ref1_at [.int .i64 i, .int .i64 l] p fun s t =>
 asI .i64 s fun u =>
 idx u 25
 (ldI .u64 (Addr.add b (Int.toNat u * 1)) t fun v =>
 callK Pr f_ref1_at [.int .i64 (i + 1), .int .i64 l] t fun x y =>
 asI .i64 x fun z =>
 (kept (Addr.add b (Int.toNat u * 1)) 1 t y ∧
 idx z 25
 (ldI .u64 (Addr.add b (Int.toNat z * 1)) y fun A =>
 callK Pr f_ref1_at [.int .i64 (i + 2), .int .i64 l] y fun B C =>
 asI .i64 B fun D =>
 (kept (Addr.add b (Int.toNat z * 1)) 1 y C ∧
 (kept (Addr.add b (Int.toNat u * 1)) 1 y C ∧
 idx D 25
 (ldI .u64 (Addr.add b (Int.toNat D * 1)) C fun E =>
 idx q 25
 (st (Addr.add f (Int.toNat q * 1)) (.int .u64 (xorI .u64 v (andI .u64 (notI .u64 A) E))) C fun F =>
 (I64 (l + 1) ∧
 m (l + 1) F)))))))))))
 ((I64 (i + 1) ∧
 j (i + 1) n)))
 0 k)
 (ldA 25 f k fun G =>
 stA 25 d G k fun I =>
 ldA 25 d I fun J =>
 R (.agg ⟨J⟩) I))
 0 g
theorem V_ref1_Chi_of {a : List Value} {w : World} {R : Value → World → Prop} (h : V_ref1_Chi a w R) : Ok Pr f_ref1_Chi [.agg ⟨a⟩] w R :=
 evF_ok (m := ⟨true, true⟩) (J := []) (L := [(3, [(4, .int .i64)]), (6, [(5, .int .i64)])]) good Tryz.func214 (by kernel_rfl) ((by kernel_rfl : evF Pr _ _ _ Tryz.f214 _ w R = V_ref1_Chi a w R).mpr h)

def V_ref1_Pi (a : List Value) (w : World) (R : Value → World → Prop) : Prop :=
 nw t_25_uint64 a w fun b c =>
 nw t_25_uint64 (zc Pr t_25_uint64) c fun d e =>
 nw t_25_uint64 (zc Pr t_25_uint64) e fun f g =>
 loop1 (fun (i : Int) => [(4, some (.int .i64 i))])
 (fun j i k => iteP (decide (i < 5))
 (loop1 (fun (l : Int) => [(5, some (.int .i64 l))])
 (fun m l n => iteP (decide (l < 5))
 (callK Pr f_ref1_at [.int .i64 i, .int .i64 l] n fun o p =>
 asI .i64 o fun q =>
 (I64 (3 * l) ∧
 (I64 (i + (3 * l)) ∧
 callK Pr f_ref1_at [.int .i64 (i + (3 * l)), .int .i64 i] p fun s t =>
 asI .i64 s fun u =>
 idx u 25
 (ldI .u64 (Addr.add b (Int.toNat u * 1)) t fun v =>
 idx q 25
 (st (Addr.add f (Int.toNat q * 1)) (.int .u64 v) t fun x =>
 (I64 (l + 1) ∧
 m (l + 1) x))))))
 ((I64 (i + 1) ∧
 j (i + 1) n)))
 0 k)
 (ldA 25 f k fun y =>
 stA 25 d y k fun z =>
 ldA 25 d z fun A =>
 R (.agg ⟨A⟩) z))
 0 g
theorem V_ref1_Pi_of {a : List Value} {w : World} {R : Value → World → Prop} (h : V_ref1_Pi a w R) : Ok Pr f_ref1_Pi [.agg ⟨a⟩] w R :=
 evF_ok (m := ⟨true, true⟩) (J := []) (L := [(3, [(4, .int .i64)]), (6, [(5, .int .i64)])]) good Tryz.func215 (by kernel_rfl) ((by kernel_rfl : evF Pr _ _ _ Tryz.f215 _ w R = V_ref1_Pi a w R).mpr h)

def V_ref1_Rho (a : List Value) (w : World) (R : Value → World → Prop) : Prop :=
 nw t_25_uint64 a w fun b c =>
 nw t_25_uint64 (zc Pr t_25_uint64) c fun d e =>
 ldA 25 b e fun f =>
 nw t_25_uint64 (zc Pr t_25_uint64) e fun g i =>
 stA 25 g f i fun j =>
 loop3 (fun (k : Int) (l : Int) (m : Int) => [(4, some (.int .i64 k)), (5, some (.int .i64 l)), (6, some (.int .i64 m))])
 (fun n k l m o => iteP (decide (m < 24))
 (callK Pr f_ref1_at [.int .i64 k, .int .i64 l] o fun p q =>
 asI .i64 p fun s =>
 callK Pr f_ref1_at [.int .i64 k, .int .i64 l] q fun t u =>
 asI .i64 t fun v =>
 idx v 25
 (ldI .u64 (Addr.add b (Int.toNat v * 1)) u fun x =>
 (I64 (m + 1) ∧
 (I64 (m + 2) ∧
 (I64 ((m + 1) * (m + 2)) ∧
 ((0 ≤ (m + 1) * (m + 2) ∧ (m + 1) * (m + 2) ≤ IntKind.max .i64) ∧
 (0 ≤ ((m + 1) * (m + 2)) / 2 ∧
 callK Pr f_math_bits_RotateLeft64 [.int .u64 x, .int .i64 ((((m + 1) * (m + 2)) / 2) % 64)] u fun y z =>
 asI .u64 y fun B =>
 idx s 25
 (st (Addr.add g (Int.toNat s * 1)) (.int .u64 B) z fun C =>
 (I64 (2 * k) ∧
 (I64 (3 * l) ∧
 (I64 ((2 * k) + (3 * l)) ∧
 (0 ≤ (2 * k) + (3 * l) ∧
 lt (A := Int) (((2 * k) + (3 * l)) % 5) fun D =>
 (I64 (m + 1) ∧
 n l D (m + 1) C)))))))))))))
 (ldA 25 g o fun E =>
 stA 25 d E o fun F =>
 ldA 25 d F fun G =>
 R (.agg ⟨G⟩) F))
 1 0 0 j
theorem V_ref1_Rho_of {a : List Value} {w : World} {R : Value → World → Prop} (h : V_ref1_Rho a w R) : Ok Pr f_ref1_Rho [.agg ⟨a⟩] w R :=
 evF_ok (m := ⟨true, true⟩) (J := []) (L := [(4, [(4, .int .i64), (5, .int .i64), (6, .int .i64)])]) good Tryz.func216 (by kernel_rfl) ((by kernel_rfl : evF Pr _ _ _ Tryz.f216 _ w R = V_ref1_Rho a w R).mpr h)

def V_ref1_Theta (a : List Value) (w : World) (R : Value → World → Prop) : Prop :=
 nw t_25_uint64 a w fun b c =>
 nw t_25_uint64 (zc Pr t_25_uint64) c fun d e =>
 nw t_5_uint64 (zc Pr t_5_uint64) e fun f g =>
 loop1 (fun (i : Int) => [(4, some (.int .i64 i))])
 (fun j i k => iteP (decide (i < 25))
 ((0 ≤ i ∧
 (0 ≤ i ∧
 idx (i % 5) 5
 (ldI .u64 (Addr.add f (Int.toNat (i % 5) * 1)) (World.drew k) fun l =>
 idx i 25
 (ldI .u64 (Addr.add b (Int.toNat i * 1)) (World.drew k) fun m =>
 idx (i % 5) 5
 (st (Addr.add f (Int.toNat (i % 5) * 1)) (.int .u64 (xorI .u64 l m)) (World.drew k) fun n =>
 (I64 (i + 1) ∧
 j (i + 1) n)))))))
 (nw t_25_uint64 (zc Pr t_25_uint64) k fun o p =>
 loop1 (fun (q : Int) => [(6, some (.int .i64 q))])
 (fun s q t => iteP (decide (q < 25))
 (idx q 25
 (ldI .u64 (Addr.add b (Int.toNat q * 1)) (World.drew t) fun u =>
 (I64 (q + 4) ∧
 (0 ≤ q + 4 ∧
 idx ((q + 4) % 5) 5
 (ldI .u64 (Addr.add f (Int.toNat ((q + 4) % 5) * 1)) (World.drew t) fun v =>
 (I64 (q + 1) ∧
 (0 ≤ q + 1 ∧
 idx ((q + 1) % 5) 5
 (ldI .u64 (Addr.add f (Int.toNat ((q + 1) % 5) * 1)) (World.drew t) fun x =>
 callK Pr f_math_bits_RotateLeft64 [.int .u64 x, .int .i64 1] (World.drew t) fun y z =>
 asI .u64 y fun A =>
 (kept (Addr.add f (Int.toNat ((q + 4) % 5) * 1)) 1 (World.drew t) z ∧
 (kept (Addr.add b (Int.toNat q * 1)) 1 (World.drew t) z ∧
 idx q 25
 (st (Addr.add o (Int.toNat q * 1)) (.int .u64 (xorI .u64 (xorI .u64 u v) A)) z fun B =>
 (I64 (q + 1) ∧
 s (q + 1) B))))))))))))
 (ldA 25 o t fun C =>
 stA 25 d C t fun D =>
 ldA 25 d D fun E =>
 R (.agg ⟨E⟩) D))
 0 p))
 0 g
theorem V_ref1_Theta_of {a : List Value} {w : World} {R : Value → World → Prop} (h : V_ref1_Theta a w R) : Ok Pr f_ref1_Theta [.agg ⟨a⟩] w R :=
 evF_ok (m := ⟨true, true⟩) (J := []) (L := [(3, [(4, .int .i64)]), (8, [(6, .int .i64)])]) good Tryz.func217 (by kernel_rfl) ((by kernel_rfl : evF Pr _ _ _ Tryz.f217 _ w R = V_ref1_Theta a w R).mpr h)

def V_keccak_Permute (a : List Value) (w : World) (R : Value → World → Prop) : Prop :=
 nw t_25_uint64 a w fun b c =>
 nw t_25_uint64 (zc Pr t_25_uint64) c fun d e =>
 loop1 (fun (f : Int) => [(4, some (.int .i64 f))])
 (fun g f i => iteP (decide (f < 24))
 (ldA 25 b i fun j =>
 callK Pr f_keccak_Round [.agg ⟨j⟩, .int .i64 f] i fun k l =>
 asArr k fun m =>
 stA 25 b m l fun n =>
 (I64 (f + 1) ∧
 g (f + 1) n))
 (ldA 25 b i fun o =>
 stA 25 d o i fun p =>
 ldA 25 d p fun q =>
 R (.agg ⟨q⟩) p))
 0 e
theorem V_keccak_Permute_of {a : List Value} {w : World} {R : Value → World → Prop} (h : V_keccak_Permute a w R) : Ok Pr f_keccak_Permute [.agg ⟨a⟩] w R :=
 evF_ok (m := ⟨true, true⟩) (J := []) (L := [(2, [(4, .int .i64)])]) good Tryz.func218 (by kernel_rfl) ((by kernel_rfl : evF Pr _ _ _ Tryz.f218 _ w R = V_keccak_Permute a w R).mpr h)

def V_slices_IndexFunc_int_int_3f3901 (s : SlV) (f : Value) (w : World) (R : Value → World → Prop) : Prop :=
 loop1 (fun (a : Int) => [(8, some (.int .i64 a))])
 (fun b a c => iteP (decide (a < (s.n:Int)))
 (idxS s.a a s.n
 (ldL (Addr.add (base s.a) (Int.toNat a * 1)) c fun d =>
 callV Pr f [.slice d.a d.n d.c] c fun e g =>
 asB e fun i =>
 iteP i
 (R (.int .i64 a) g)
 ((I64 (a + 1) ∧
 b (a + 1) g))))
 (R (.int .i64 (-1:Int)) c))
 0 w
theorem V_slices_IndexFunc_int_int_3f3901_of {s : SlV} {f : Value} {w : World} {R : Value → World → Prop} (h : V_slices_IndexFunc_int_int_3f3901 s f w R) : Ok Pr f_slices_IndexFunc_int_int_3f3901 [.slice s.a s.n s.c, f] w R :=
 evF_ok (m := ⟨true, true⟩) (J := []) (L := [(2, [(8, .int .i64)])]) good Tryz.func219 (by kernel_rfl) ((by kernel_rfl : evF Pr _ _ _ Tryz.f219 _ w R = V_slices_IndexFunc_int_int_3f3901 s f w R).mpr h)

def V_ref1_at (x : Int) (y : Int) (w : World) (R : Value → World → Prop) : Prop :=
 (I64 (x + 10) ∧
 (0 ≤ x + 10 ∧
 (I64 (y + 10) ∧
 (0 ≤ y + 10 ∧
 (I64 (5 * ((y + 10) % 5)) ∧
 (I64 (((x + 10) % 5) + (5 * ((y + 10) % 5))) ∧
 R (.int .i64 (((x + 10) % 5) + (5 * ((y + 10) % 5)))) w))))))
theorem V_ref1_at_of {x : Int} {y : Int} {w : World} {R : Value → World → Prop} (h : V_ref1_at x y w R) : Ok Pr f_ref1_at [.int .i64 x, .int .i64 y] w R :=
 evF_ok (m := ⟨true, true⟩) (J := []) (L := []) good Tryz.func220 (by kernel_rfl) ((by kernel_rfl : evF Pr _ _ _ Tryz.f220 _ w R = V_ref1_at x y w R).mpr h)

def V_math_bits_RotateLeft64 (x : Int) (kv : Int) (w : World) (R : Value → World → Prop) : Prop :=
 lt (A := Int) (andI .u64 (IntKind.wrap .u64 (kv)) 63) fun a =>
 cnt a (cnt (IntKind.wrap .u64 (64 - a)) (R (.int .u64 (orI .u64 (shl .u64 x a) (shr .u64 x (IntKind.wrap .u64 (64 - a))))) w))
theorem V_math_bits_RotateLeft64_of {x : Int} {kv : Int} {w : World} {R : Value → World → Prop} (h : V_math_bits_RotateLeft64 x kv w R) : Ok Pr f_math_bits_RotateLeft64 [.int .u64 x, .int .i64 kv] w R :=
 evF_ok (m := ⟨true, true⟩) (J := []) (L := []) good Tryz.func221 (by kernel_rfl) ((by kernel_rfl : evF Pr _ _ _ Tryz.f221 _ w R = V_math_bits_RotateLeft64 x kv w R).mpr h)

def V_keccak_Round (a : List Value) (round : Int) (w : World) (R : Value → World → Prop) : Prop :=
 nw t_25_uint64 a w fun b c =>
 nw t_25_uint64 (zc Pr t_25_uint64) c fun d e =>
 ldA 25 b e fun f =>
 callK Pr f_keccak_Theta [.agg ⟨f⟩] e fun g i =>
 asArr g fun j =>
 callK Pr f_keccak_Rho [.agg ⟨j⟩] i fun k l =>
 asArr k fun m =>
 callK Pr f_keccak_Pi [.agg ⟨m⟩] l fun n o =>
 asArr n fun p =>
 callK Pr f_keccak_Chi [.agg ⟨p⟩] o fun q s =>
 asArr q fun t =>
 callK Pr f_keccak_Iota [.agg ⟨t⟩, .int .i64 round] s fun u v =>
 asArr u fun x =>
 stA 25 d x v fun y =>
 ldA 25 d y fun z =>
 R (.agg ⟨z⟩) y
theorem V_keccak_Round_of {a : List Value} {round : Int} {w : World} {R : Value → World → Prop} (h : V_keccak_Round a round w R) : Ok Pr f_keccak_Round [.agg ⟨a⟩, .int .i64 round] w R :=
 evF_ok (m := ⟨true, true⟩) (J := []) (L := []) good Tryz.func222 (by kernel_rfl) ((by kernel_rfl : evF Pr _ _ _ Tryz.f222 _ w R = V_keccak_Round a round w R).mpr h)

def V_keccak_Iota (a : List Value) (round : Int) (w : World) (R : Value → World → Prop) : Prop :=
 nw t_25_uint64 a w fun b c =>
 nw t_25_uint64 (zc Pr t_25_uint64) c fun d e =>
 iteP ((decide (round < 0)) || (decide (23 < round)))
 (ldA 25 b e fun f =>
 stA 25 d f e fun g =>
 ldA 25 d g fun i =>
 R (.agg ⟨i⟩) g)
 (nw t_24_uint64 (zc Pr t_24_uint64) e fun j k =>
 stA 24 j ([.int .u64 1, .int .u64 32898, .int .u64 9223372036854808714, .int .u64 9223372039002292224, .int .u64 32907, .int .u64 2147483649, .int .u64 9223372039002292353, .int .u64 9223372036854808585, .int .u64 138, .int .u64 136, .int .u64 2147516425, .int .u64 2147483658, .int .u64 2147516555, .int .u64 9223372036854775947, .int .u64 9223372036854808713, .int .u64 9223372036854808579, .int .u64 9223372036854808578, .int .u64 9223372036854775936, .int .u64 32778, .int .u64 9223372039002259466, .int .u64 9223372039002292353, .int .u64 9223372036854808704, .int .u64 2147483649, .int .u64 9223372039002292232]) k fun l =>
 idx 0 25
 (ldI .u64 (Addr.add b (Int.toNat 0 * 1)) (World.drew l) fun m =>
 idx round 24
 (ldI .u64 (Addr.add j (Int.toNat round * 1)) (World.drew l) fun n =>
 idx 0 25
 (st (Addr.add b (Int.toNat 0 * 1)) (.int .u64 (xorI .u64 m n)) (World.drew l) fun o =>
 ldA 25 b o fun p =>
 stA 25 d p o fun q =>
 ldA 25 d q fun s =>
 R (.agg ⟨s⟩) q))))
theorem V_keccak_Iota_of {a : List Value} {round : Int} {w : World} {R : Value → World → Prop} (h : V_keccak_Iota a round w R) : Ok Pr f_keccak_Iota [.agg ⟨a⟩, .int .i64 round] w R :=
 evF_ok (m := ⟨true, true⟩) (J := []) (L := []) good Tryz.func223 (by kernel_rfl) ((by kernel_rfl : evF Pr _ _ _ Tryz.f223 _ w R = V_keccak_Iota a round w R).mpr h)

def V_keccak_Chi (a : List Value) (w : World) (R : Value → World → Prop) : Prop :=
 nw t_25_uint64 a w fun b c =>
 nw t_25_uint64 (zc Pr t_25_uint64) c fun d e =>
 ldA 25 b e fun f =>
 nw t_25_uint64 (zc Pr t_25_uint64) e fun g i =>
 stA 25 g f i fun j =>
 loop1 (fun (k : Int) => [(7, some (.int .i64 k))])
 (fun l k m => iteP (decide (k < 5))
 (loop1 (fun (n : Int) => [(10, some (.int .i64 n))])
 (fun o n p => iteP (decide (n < 5))
 ((I64 (n + 1) ∧
 (I64 (n + 2) ∧
 callK Pr f_keccak_at [.int .i64 n, .int .i64 k] (World.drew p) fun q s =>
 asI .i64 q fun t =>
 idx t 25
 (ldI .u64 (Addr.add g (Int.toNat t * 1)) s fun u =>
 callK Pr f_keccak_at [.int .i64 (n + 1), .int .i64 k] s fun v x =>
 asI .i64 v fun y =>
 (kept (Addr.add g (Int.toNat t * 1)) 1 s x ∧
 idx y 25
 (ldI .u64 (Addr.add b (Int.toNat y * 1)) x fun z =>
 callK Pr f_keccak_at [.int .i64 (n + 2), .int .i64 k] x fun A B =>
 asI .i64 A fun C =>
 (kept (Addr.add b (Int.toNat y * 1)) 1 x B ∧
 (kept (Addr.add g (Int.toNat t * 1)) 1 x B ∧
 idx C 25
 (ldI .u64 (Addr.add b (Int.toNat C * 1)) B fun D =>
 idx t 25
 (st (Addr.add g (Int.toNat t * 1)) (.int .u64 (xorI .u64 u (andI .u64 (notI .u64 z) D))) B fun E =>
 (I64 (n + 1) ∧
 o (n + 1) E)))))))))))
 ((I64 (k + 1) ∧
 l (k + 1) p)))
 0 m)
 (ldA 25 g m fun F =>
 stA 25 d F m fun G =>
 ldA 25 d G fun I =>
 R (.agg ⟨I⟩) G))
 0 j
theorem V_keccak_Chi_of {a : List Value} {w : World} {R : Value → World → Prop} (h : V_keccak_Chi a w R) : Ok Pr f_keccak_Chi [.agg ⟨a⟩] w R :=
 evF_ok (m := ⟨true, true⟩) (J := []) (L := [(3, [(7, .int .i64)]), (6, [(10, .int .i64)])]) good Tryz.func224 (by kernel_rfl) ((by kernel_rfl : evF Pr _ _ _ Tryz.f224 _ w R = V_keccak_Chi a w R).mpr h)

def V_keccak_Pi (a : List Value) (w : World) (R : Value → World → Prop) : Prop :=
 nw t_25_uint64 a w fun b c =>
 nw t_25_uint64 (zc Pr t_25_uint64) c fun d e =>
 nw t_25_uint64 (zc Pr t_25_uint64) e fun f g =>
 loop1 (fun (i : Int) => [(6, some (.int .i64 i))])
 (fun j i k => iteP (decide (i < 5))
 (loop1 (fun (l : Int) => [(9, some (.int .i64 l))])
 (fun m l n => iteP (decide (l < 5))
 (callK Pr f_keccak_at [.int .i64 l, .int .i64 i] n fun o p =>
 asI .i64 o fun q =>
 (I64 (3 * i) ∧
 (I64 (l + (3 * i)) ∧
 callK Pr f_keccak_at [.int .i64 (l + (3 * i)), .int .i64 l] p fun s t =>
 asI .i64 s fun u =>
 idx u 25
 (ldI .u64 (Addr.add b (Int.toNat u * 1)) t fun v =>
 idx q 25
 (st (Addr.add f (Int.toNat q * 1)) (.int .u64 v) t fun x =>
 (I64 (l + 1) ∧
 m (l + 1) x))))))
 ((I64 (i + 1) ∧
 j (i + 1) n)))
 0 k)
 (ldA 25 f k fun y =>
 stA 25 d y k fun z =>
 ldA 25 d z fun A =>
 R (.agg ⟨A⟩) z))
 0 g
theorem V_keccak_Pi_of {a : List Value} {w : World} {R : Value → World → Prop} (h : V_keccak_Pi a w R) : Ok Pr f_keccak_Pi [.agg ⟨a⟩] w R :=
 evF_ok (m := ⟨true, true⟩) (J := []) (L := [(3, [(6, .int .i64)]), (6, [(9, .int .i64)])]) good Tryz.func225 (by kernel_rfl) ((by kernel_rfl : evF Pr _ _ _ Tryz.f225 _ w R = V_keccak_Pi a w R).mpr h)

def V_keccak_Rho (a : List Value) (w : World) (R : Value → World → Prop) : Prop :=
 nw t_25_uint64 a w fun b c =>
 nw t_25_uint64 (zc Pr t_25_uint64) c fun d e =>
 loop3 (fun (f : Int) (g : Int) (i : Int) => [(3, some (.int .i64 f)), (4, some (.int .i64 g)), (5, some (.int .i64 i))])
 (fun j f g i k => iteP (decide (i ≤ 24))
 (callK Pr f_keccak_at [.int .i64 f, .int .i64 g] k fun l m =>
 asI .i64 l fun n =>
 idx n 25
 (ldI .u64 (Addr.add b (Int.toNat n * 1)) m fun o =>
 (I64 (i + 1) ∧
 (I64 (i * (i + 1)) ∧
 ((0 ≤ i * (i + 1) ∧ i * (i + 1) ≤ IntKind.max .i64) ∧
 (0 ≤ (i * (i + 1)) / 2 ∧
 callK Pr f_math_bits_RotateLeft64 [.int .u64 o, .int .i64 (((i * (i + 1)) / 2) % 64)] m fun p q =>
 asI .u64 p fun s =>
 idx n 25
 (st (Addr.add b (Int.toNat n * 1)) (.int .u64 s) q fun t =>
 (I64 (2 * f) ∧
 (I64 (3 * g) ∧
 (I64 ((2 * f) + (3 * g)) ∧
 (0 ≤ (2 * f) + (3 * g) ∧
 lt (A := Int) (((2 * f) + (3 * g)) % 5) fun u =>
 (I64 (i + 1) ∧
 j g u (i + 1) t))))))))))))
 (ldA 25 b k fun v =>
 stA 25 d v k fun x =>
 ldA 25 d x fun y =>
 R (.agg ⟨y⟩) x))
 1 0 1 e
theorem V_keccak_Rho_of {a : List Value} {w : World} {R : Value → World → Prop} (h : V_keccak_Rho a w R) : Ok Pr f_keccak_Rho [.agg ⟨a⟩] w R :=
 evF_ok (m := ⟨true, true⟩) (J := []) (L := [(3, [(3, .int .i64), (4, .int .i64), (5, .int .i64)])]) good Tryz.func226 (by kernel_rfl) ((by kernel_rfl : evF Pr _ _ _ Tryz.f226 _ w R = V_keccak_Rho a w R).mpr h)

def V_keccak_Theta (a : List Value) (w : World) (R : Value → World → Prop) : Prop :=
 nw t_25_uint64 a w fun b c =>
 nw t_25_uint64 (zc Pr t_25_uint64) c fun d e =>
 nw t_5_uint64 (zc Pr t_5_uint64) e fun f g =>
 ldA 25 b g fun i =>
 loop1 (fun (j : Int) => [(9, some (.int .i64 j))])
 (fun k j l => iteP (decide (j < 25))
 (atI .u64 i j 25 fun m =>
 (0 ≤ j ∧
 idx (j % 5) 5
 (ldI .u64 (Addr.add f (Int.toNat (j % 5) * 1)) l fun n =>
 idx (j % 5) 5
 (st (Addr.add f (Int.toNat (j % 5) * 1)) (.int .u64 (xorI .u64 n m)) l fun o =>
 (I64 (j + 1) ∧
 k (j + 1) o)))))
 (loop1 (fun (p : Int) => [(21, some (.int .i64 p))])
 (fun q p s => iteP (decide (p < 25))
 ((0 ≤ p ∧
 idx p 25
 (ldI .u64 (Addr.add b (Int.toNat p * 1)) (World.drew s) fun t =>
 (I64 ((p % 5) + 4) ∧
 (0 ≤ (p % 5) + 4 ∧
 idx (((p % 5) + 4) % 5) 5
 (ldI .u64 (Addr.add f (Int.toNat (((p % 5) + 4) % 5) * 1)) (World.drew s) fun u =>
 (I64 ((p % 5) + 1) ∧
 (0 ≤ (p % 5) + 1 ∧
 idx (((p % 5) + 1) % 5) 5
 (ldI .u64 (Addr.add f (Int.toNat (((p % 5) + 1) % 5) * 1)) (World.drew s) fun v =>
 callK Pr f_math_bits_RotateLeft64 [.int .u64 v, .int .i64 1] (World.drew s) fun x y =>
 asI .u64 x fun z =>
 (kept (Addr.add f (Int.toNat (((p % 5) + 4) % 5) * 1)) 1 (World.drew s) y ∧
 (kept (Addr.add b (Int.toNat p * 1)) 1 (World.drew s) y ∧
 idx p 25
 (st (Addr.add b (Int.toNat p * 1)) (.int .u64 (xorI .u64 t (xorI .u64 u z))) y fun A =>
 (I64 (p + 1) ∧
 q (p + 1) A)))))))))))))
 (ldA 25 b s fun B =>
 stA 25 d B s fun C =>
 ldA 25 d C fun D =>
 R (.agg ⟨D⟩) C))
 0 l))
 0 g
theorem V_keccak_Theta_of {a : List Value} {w : World} {R : Value → World → Prop} (h : V_keccak_Theta a w R) : Ok Pr f_keccak_Theta [.agg ⟨a⟩] w R :=
 evF_ok (m := ⟨true, true⟩) (J := []) (L := [(3, [(9, .int .i64)]), (8, [(21, .int .i64)])]) good Tryz.func227 (by kernel_rfl) ((by kernel_rfl : evF Pr _ _ _ Tryz.f227 _ w R = V_keccak_Theta a w R).mpr h)

def V_keccak_at (x : Int) (y : Int) (w : World) (R : Value → World → Prop) : Prop :=
 (0 ≤ x ∧
 (0 ≤ y ∧
 (I64 (5 * (y % 5)) ∧
 (I64 ((x % 5) + (5 * (y % 5))) ∧
 R (.int .i64 ((x % 5) + (5 * (y % 5)))) w))))
theorem V_keccak_at_of {x : Int} {y : Int} {w : World} {R : Value → World → Prop} (h : V_keccak_at x y w R) : Ok Pr f_keccak_at [.int .i64 x, .int .i64 y] w R :=
 evF_ok (m := ⟨true, true⟩) (J := []) (L := []) good Tryz.func228 (by kernel_rfl) ((by kernel_rfl : evF Pr _ _ _ Tryz.f228 _ w R = V_keccak_at x y w R).mpr h)

end Go.Proofs.YtdnhoebcomffoaaGreatDoor
end
section
set_option linter.unusedVariables false
set_option linter.unusedSimpArgs false
/- A CALL'S OWN MEMORY, part by part; loops and joins as they are met: words of this claim's author. -/
namespace Go.Ev
open Go Go.RowKit

variable {P : Program}
/-! ### parts of memory -/
/-- a part: the blocks that it takes, what holds of it -/
structure Res where
  fp : List Nat
  ok : World → Prop
  stab : ∀ w w' : World, (∀ b ∈ fp, w'.heap[b]? = w.heap[b]?) → ok w → ok w'
  lt : ∀ w, ok w → ∀ b ∈ fp, b < w.heap.size
/-- a block as a whole -/
def Res.blk (b : Nat) (cs : List Value) (t : TypeId) : Res where
  fp := [b]
  ok w := Blk w b cs t
  stab w w' h k := (h b (by simp)).trans k
  lt w h c hc := by simp only [List.mem_singleton] at hc; subst hc; exact Blk.lt h
/-- a slice's row, the call's own -/
def Res.row (e : TypeId) (sz : Nat) (s : SlV) (vs : List Value) : Res where
  fp := s.row
  ok w := Own w 0 e sz s vs
  stab w w' h k := by
    obtain ⟨a, n, c⟩ := s
    obtain ⟨hl, h1 | ⟨g, cap, cur, h1, h2, h3, h4⟩⟩ := k
    · exact ⟨hl, .inl h1⟩
    · refine ⟨hl, .inr ⟨g, cap, cur, h1, h2, ?_, h4⟩⟩
      simp only [SlV.v, Value.slice.injEq] at h1
      rw [h g (by simp [SlV.row, h1.1])]
      exact h3
  lt w h b hb := (Own.row_ge h b hb).2
/-- what the call owns now: parts L, each apart from the others; of the blocks that were there at w0 only those of S -/
structure Mine (w0 : World) (S : List Nat) (w : World) (L : List Res) : Prop where
  mod : Mod S w0 w
  ok : ∀ (k : Nat) (r : Res), L[k]? = some r → r.ok w
  own : ∀ (k : Nat) (r : Res), L[k]? = some r → ∀ b ∈ r.fp, b ∈ S ∨ w0.heap.size ≤ b
  apart : ∀ (j k : Nat) (r s : Res), j ≠ k → L[j]? = some r → L[k]? = some s → ∀ b ∈ r.fp, b ∉ s.fp
section
variable {w0 w w' : World} {S : List Nat} {L : List Res} {r r' : Res} {k : Nat}
theorem Mine.start (w : World) : Mine w [] w [] := ⟨Mod.refl _ _, fun k r h => by simp at h, fun k r h => by simp at h, fun j k r s _ h => by simp at h⟩
theorem Mine.start1 {r : Res} {w : World} (h : r.ok w) : Mine w r.fp w [r] := by
  have e : ∀ {k : Nat} {s : Res}, [r][k]? = some s → k = 0 ∧ s = r := fun {k s} h => by
    cases k with
    | zero => simp at h; exact ⟨rfl, h.symm⟩
    | succ k => simp at h
  refine ⟨Mod.refl _ _, fun k s hs => ?_, fun k s hs b hb => ?_, fun j k s t hjk hs ht => ?_⟩
  · rw [(e hs).2]; exact h
  · rw [(e hs).2] at hb; exact .inl hb
  · exact absurd ((e hs).1.trans (e ht).1.symm) hjk
theorem Mine.get (H : Mine w0 S w L) (k : Nat) {r : Res} (hk : L[k]? = some r) : r.ok w := H.ok k r hk
/-- the world goes on, and no part is touched -/
theorem Mine.frame (H : Mine w0 S w L) (m : Mod [] w w') : Mine w0 S w' L :=
  ⟨H.mod.then m, fun k r hk => r.stab w w' (fun b hb => m.block b (r.lt w (H.ok k r hk) b hb) (by simp)) (H.ok k r hk), H.own, H.apart⟩
/-- a new part -/
theorem Mine.push (H : Mine w0 S w L) (m : Mod [] w w') (hr : r.ok w') (hf : ∀ b ∈ r.fp, w.heap.size ≤ b) : Mine w0 S w' (L ++ [r]) := by
  have H' := H.frame m
  have e : ∀ {k : Nat} {s : Res}, (L ++ [r])[k]? = some s → (L[k]? = some s ∧ k < L.length) ∨ (s = r ∧ k = L.length) := fun {k s} h => by
    rcases Nat.lt_or_ge k L.length with hk | hk
    · rw [List.getElem?_append_left hk] at h; exact .inl ⟨h, hk⟩
    · rw [List.getElem?_append_right hk] at h
      rcases Nat.eq_zero_or_pos (k - L.length) with e | e
      · rw [e] at h; simp at h; exact .inr ⟨h.symm, by omega⟩
      · rw [List.getElem?_eq_none (by simp; omega)] at h; cases h
  refine ⟨H'.mod, fun k s hs => ?_, fun k s hs b hb => ?_, fun j k s t hjk hs ht b hb hb' => ?_⟩
  · rcases e hs with ⟨h, _⟩ | ⟨rfl, _⟩
    · exact H'.ok k s h
    · exact hr
  · rcases e hs with ⟨h, _⟩ | ⟨rfl, _⟩
    · exact H.own k s h b hb
    · exact .inr (Nat.le_trans H.mod.size (hf b hb))
  · rcases e hs with ⟨h, hj⟩ | ⟨rfl, hj⟩
    · rcases e ht with ⟨h', _⟩ | ⟨rfl, _⟩
      · exact H.apart j k s t hjk h h' b hb hb'
      · have := s.lt w (H.ok j s h) b hb
        have := hf b hb'
        omega
    · rcases e ht with ⟨h', _⟩ | ⟨rfl, hk⟩
      · have := t.lt w (H.ok k t h') b hb'
        have := hf b hb
        omega
      · omega
/-- a part turns -/
theorem Mine.upd {T : List Nat} (H : Mine w0 S w L) (k : Nat) {r r' : Res} (hk : L[k]? = some r) (m : Mod T w w') (hT : ∀ b ∈ T, b ∈ r.fp ∨ w.heap.size ≤ b) (hr : r'.ok w') (hf : ∀ b ∈ r'.fp, b ∈ r.fp ∨ w.heap.size ≤ b) :
    Mine w0 S w' (L.set k r') := by
  have hkl : k < L.length := (List.getElem?_eq_some_iff.1 hk).1
  have e : ∀ {j : Nat} {s : Res}, (L.set k r')[j]? = some s → (L[j]? = some s ∧ j ≠ k) ∨ (s = r' ∧ j = k) := fun {j s} h => by
    rw [List.getElem?_set] at h
    split at h
    · rename_i e
      subst e
      exact .inr ⟨(Option.some.inj h).symm, rfl⟩
    · rename_i hn; exact .inl ⟨h, fun e => hn e.symm⟩
  refine ⟨H.mod.trans' m fun b hb => ?_, fun j s hs => ?_, fun j s hs b hb => ?_, fun i j s t hij hs ht b hb hb' => ?_⟩
  · rcases hT b hb with h | h
    · exact H.own k r hk b h
    · exact .inr (Nat.le_trans H.mod.size h)
  · rcases e hs with ⟨h, hj⟩ | ⟨rfl, _⟩
    · refine s.stab w w' (fun b hb => m.block b (s.lt w (H.ok j s h) b hb) fun hbT => ?_) (H.ok j s h)
      rcases hT b hbT with h1 | h1
      · exact H.apart j k s r hj h hk b hb h1
      · have := s.lt w (H.ok j s h) b hb; omega
    · exact hr
  · rcases e hs with ⟨h, _⟩ | ⟨rfl, _⟩
    · exact H.own j s h b hb
    · rcases hf b hb with h1 | h1
      · exact H.own k r hk b h1
      · exact .inr (Nat.le_trans H.mod.size h1)
  · have old : ∀ {j : Nat} {s : Res} {b : Nat}, L[j]? = some s → j ≠ k → b ∈ s.fp → b ∉ r'.fp := fun {j s b} h hj hb hb' => by
      rcases hf b hb' with h1 | h1
      · exact H.apart j k s r hj h hk b hb h1
      · have := s.lt w (H.ok j s h) b hb; omega
    rcases e hs with ⟨h, hi⟩ | ⟨rfl, hi⟩
    · rcases e ht with ⟨h', _⟩ | ⟨rfl, _⟩
      · exact H.apart i j s t hij h h' b hb hb'
      · exact old h hi hb hb'
    · rcases e ht with ⟨h', hj⟩ | ⟨rfl, hj⟩
      · exact old h' hj hb' hb
      · omega
/-- the last parts are let go -/
theorem Mine.take (H : Mine w0 S w L) (n : Nat) : Mine w0 S w (L.take n) := by
  have e : ∀ {k : Nat} {s : Res}, (L.take n)[k]? = some s → L[k]? = some s := fun {k s} h => by
    rw [List.getElem?_take] at h
    split at h
    · exact h
    · cases h
  exact ⟨H.mod, fun k s hs => H.ok k s (e hs), fun k s hs => H.own k s (e hs), fun j k s t hjk hs ht => H.apart j k s t hjk (e hs) (e ht)⟩
theorem Mine.drew (H : Mine w0 S w L) : Mine w0 S w.drew L := H.frame (Mod.drew _ _)
end

/-! ### whole blocks -/
section
variable {w0 w : World} {S : List Nat} {L : List Res}
theorem Mine.nw (H : Mine w0 S w L) {t : TypeId} {cs : List Value} {K : Addr → World → Prop} (h : ∀ b w', Mine w0 S w' (L ++ [.blk b cs t]) → w0.heap.size ≤ b → K ⟨b, 0, none⟩ w') : nw t cs w K :=
  nw_blk fun b w' hb h1 h2 _ => h b w' (H.push h2 h1 (by simp [Res.blk, hb])) (hb ▸ H.mod.size)
theorem Mine.blk (H : Mine w0 S w L) (k : Nat) {b : Nat} {cs : List Value} {t : TypeId} (hk : L[k]? = some (.blk b cs t)) : Blk w b cs t := H.ok k _ hk
theorem Mine.st (H : Mine w0 S w L) (k : Nat) {b i : Nat} {a : Addr} {v : Value} {cs : List Value} {t : TypeId} {K : World → Prop} (hk : L[k]? = some (.blk b cs t)) (ha : a = ⟨b, i, none⟩) (hi : i < cs.length) (h1 : isOne v = true)
    (h : ∀ w', Mine w0 S w' (L.set k (.blk b (cs.set i v) t)) → K w') : st a v w K := by
  subst ha
  exact st_blk (H.blk k hk) hi h1 fun w' h2 h3 _ => h w' (H.upd k hk h3 (fun c hc => .inl hc) h2 (fun c hc => .inl hc))
theorem Mine.stA (H : Mine w0 S w L) (k : Nat) {b n : Nat} {l cs : List Value} {t : TypeId} {K : World → Prop} (hk : L[k]? = some (.blk b cs t)) (hl : l.length = n) (hn : n = cs.length) (h1 : ∀ v ∈ l, isOne v = true)
    (h : ∀ w', Mine w0 S w' (L.set k (.blk b l t)) → K w') : stA n ⟨b, 0, none⟩ l w K :=
  stA_blk (H.blk k hk) hl (Nat.le_of_eq hn) h1 fun w' h2 h3 _ => by
    rw [hn, List.drop_length, List.append_nil] at h2
    exact h w' (H.upd k hk h3 (fun c hc => .inl hc) h2 (fun c hc => .inl hc))
theorem Mine.ldA (H : Mine w0 S w L) (k : Nat) {b n : Nat} {cs : List Value} {t : TypeId} {K : List Value → Prop} (hk : L[k]? = some (.blk b cs t)) (hn : n = cs.length) (h : K cs) : ldA n ⟨b, 0, none⟩ w K :=
  ldA_blk (H.blk k hk) (Nat.le_of_eq hn) (by rw [hn, List.take_length]; exact h)
theorem Mine.cell (H : Mine w0 S w L) (k : Nat) {b i : Nat} {a : Addr} {v : Value} {cs : List Value} {t : TypeId} (hk : L[k]? = some (.blk b cs t)) (ha : a = ⟨b, i, none⟩) (hv : cs[i]? = some v) : w.cell? a = some v := by
  subst ha; exact ((H.blk k hk).cell i).trans hv
theorem Mine.ldI (H : Mine w0 S w L) (k : Nat) {b i : Nat} {a : Addr} {q : IntKind} {n : Int} {cs : List Value} {t : TypeId} {K : Int → Prop} (hk : L[k]? = some (.blk b cs t)) (ha : a = ⟨b, i, none⟩) (hv : cs[i]? = some (.int q n)) (h : K n) : ldI q a w K :=
  ⟨n, H.cell k hk ha hv, h⟩
theorem Mine.ldB (H : Mine w0 S w L) (k : Nat) {b i : Nat} {a : Addr} {n : Bool} {cs : List Value} {t : TypeId} {K : Bool → Prop} (hk : L[k]? = some (.blk b cs t)) (ha : a = ⟨b, i, none⟩) (hv : cs[i]? = some (.bool n)) (h : K n) : ldB a w K :=
  ⟨n, H.cell k hk ha hv, h⟩
theorem Mine.ldP (H : Mine w0 S w L) (k : Nat) {b i : Nat} {a : Addr} {n : Option Addr} {cs : List Value} {t : TypeId} {K : Option Addr → Prop} (hk : L[k]? = some (.blk b cs t)) (ha : a = ⟨b, i, none⟩) (hv : cs[i]? = some (.pointer n)) (h : K n) : ldP a w K :=
  ⟨n, H.cell k hk ha hv, h⟩
theorem Mine.ldL (H : Mine w0 S w L) (k : Nat) {b i : Nat} {a : Addr} {n : SlV} {cs : List Value} {t : TypeId} {K : SlV → Prop} (hk : L[k]? = some (.blk b cs t)) (ha : a = ⟨b, i, none⟩) (hv : cs[i]? = some (.slice n.a n.n n.c)) (h : K n) : ldL a w K :=
  ⟨n, H.cell k hk ha hv, h⟩
theorem Mine.kept (H : Mine w0 S w L) {w' : World} (m : Mod [] w w') (k : Nat) {b i : Nat} {a : Addr} {cs : List Value} {t : TypeId} (hk : L[k]? = some (.blk b cs t)) (ha : a = ⟨b, i, none⟩) (n : Nat) : kept a n w w' := by
  subst ha
  exact kept_of m (H.blk k hk).lt (by simp)
end
theorem ad (b i : Nat) : Addr.add ⟨b, 0, none⟩ (i * 1) = ⟨b, i, none⟩ := by rw [add_mk, Nat.zero_add, Nat.mul_one]
theorem ad1 (b i : Nat) : Addr.add ⟨b, 0, none⟩ i = ⟨b, i, none⟩ := by rw [add_mk, Nat.zero_add]

/-! ### own rows -/
section
variable {w0 w : World} {S : List Nat} {L : List Res}
theorem Own.lo {w : World} {lo : Nat} {e : TypeId} {sz : Nat} {s : SlV} {vs : List Value} (h : Own w lo e sz s vs) : Own w 0 e sz s vs := by
  obtain ⟨hl, h1 | ⟨g, cap, cur, h1, h2, h3⟩⟩ := h
  · exact ⟨hl, .inl h1⟩
  · exact ⟨hl, .inr ⟨g, cap, cur, h1, Nat.zero_le _, h3⟩⟩
theorem Mine.own' (H : Mine w0 S w L) (k : Nat) {e : TypeId} {sz : Nat} {s : SlV} {vs : List Value} (hk : L[k]? = some (.row e sz s vs)) : Own w 0 e sz s vs := H.ok k _ hk
theorem Mine.nilrow (H : Mine w0 S w L) (e : TypeId) (sz : Nat) : Mine w0 S w (L ++ [.row e sz ⟨none, 0, 0⟩ []]) :=
  H.push (Mod.refl _ _) (Own.nil w 0 e sz) (by simp [Res.row, SlV.row])
theorem Mine.app (H : Mine w0 S w L) (k : Nat) {t ty e : TypeId} {sz bytes : Nat} {s x : SlV} {vs us : List Value} {K : SlV → World → Prop} (hel : Elt P t e sz bytes) (hk : L[k]? = some (.row e sz s vs)) (hx : Sl w x sz us)
    (h1 : ∀ u ∈ us, isOne u = true) (hb : (s.n + x.n) * bytes ≤ 140737488355328) (hm : s.n + x.n ≤ 9223372036854775807)
    (h : ∀ s' w', Mine w0 S w' (L.set k (.row e sz s' (vs ++ us))) → s'.n = s.n + x.n → K s' w') : appK P [t, t] ty [.slice s.a s.n s.c, .slice x.a x.n x.c] w K :=
  app_own hel (H.own' k hk) hx h1 hb hm (Nat.zero_le _) fun s' w' h2 h3 h4 h5 => h s' w' (H.upd k hk h3 (fun b hb => .inl hb) h2 h5) h4
end

/-! ### loops and joins -/
theorem loop1_of {A1 : Type} {mk : A1 → Fr} {body : (A1 → World → Prop) → A1 → World → Prop} {y1 : A1} {v : World} (I : A1 → World → Prop) (μ : A1 → World → Nat) (hi : I y1 v)
    (hb : ∀ (again : A1 → World → Prop) x1 w, I x1 w → (∀ x1' w', I x1' w' → μ x1' w' < μ x1 w → again x1' w') → body again x1 w) : loop1 mk body y1 v := by
  intro X hX
  suffices ∀ n x1 w, μ x1 w < n → I x1 w → X (mk x1) w from this _ y1 v (Nat.lt_succ_self _) hi
  intro n
  induction n with
  | zero => intro x1 w h; omega
  | succ n ih => intro x1 w hn hI; exact hX x1 w (hb _ x1 w hI fun x1' w' h1 h2 => ih x1' w' (by omega) h1)
theorem loop2_of {A1 A2 : Type} {mk : A1 → A2 → Fr} {body : (A1 → A2 → World → Prop) → A1 → A2 → World → Prop} {y1 : A1} {y2 : A2} {v : World} (I : A1 → A2 → World → Prop) (μ : A1 → A2 → World → Nat) (hi : I y1 y2 v)
    (hb : ∀ (again : A1 → A2 → World → Prop) x1 x2 w, I x1 x2 w → (∀ x1' x2' w', I x1' x2' w' → μ x1' x2' w' < μ x1 x2 w → again x1' x2' w') → body again x1 x2 w) : loop2 mk body y1 y2 v := by
  intro X hX
  suffices ∀ n x1 x2 w, μ x1 x2 w < n → I x1 x2 w → X (mk x1 x2) w from this _ y1 y2 v (Nat.lt_succ_self _) hi
  intro n
  induction n with
  | zero => intro x1 x2 w h; omega
  | succ n ih => intro x1 x2 w hn hI; exact hX x1 x2 w (hb _ x1 x2 w hI fun x1' x2' w' h1 h2 => ih x1' x2' w' (by omega) h1)
theorem loop3_of {A1 A2 A3 : Type} {mk : A1 → A2 → A3 → Fr} {body : (A1 → A2 → A3 → World → Prop) → A1 → A2 → A3 → World → Prop} {y1 : A1} {y2 : A2} {y3 : A3} {v : World} (I : A1 → A2 → A3 → World → Prop) (μ : A1 → A2 → A3 → World → Nat)
    (hi : I y1 y2 y3 v)
    (hb : ∀ (again : A1 → A2 → A3 → World → Prop) x1 x2 x3 w, I x1 x2 x3 w → (∀ x1' x2' x3' w', I x1' x2' x3' w' → μ x1' x2' x3' w' < μ x1 x2 x3 w → again x1' x2' x3' w') → body again x1 x2 x3 w) : loop3 mk body y1 y2 y3 v := by
  intro X hX
  suffices ∀ n x1 x2 x3 w, μ x1 x2 x3 w < n → I x1 x2 x3 w → X (mk x1 x2 x3) w from this _ y1 y2 y3 v (Nat.lt_succ_self _) hi
  intro n
  induction n with
  | zero => intro x1 x2 x3 w h; omega
  | succ n ih => intro x1 x2 x3 w hn hI; exact hX x1 x2 x3 w (hb _ x1 x2 x3 w hI fun x1' x2' x3' w' h1 h2 => ih x1' x2' x3' w' (by omega) h1)
/-- a loop that counts: from lo up to hi -/
theorem loop1_up {mk : Int → Fr} {body : (Int → World → Prop) → Int → World → Prop} {v : World} {y : Int} (lo hi : Nat) (I : Nat → World → Prop) (hy : y = (lo : Int)) (hle : lo ≤ hi) (h0 : I lo v)
    (step : ∀ (again : Int → World → Prop) (i : Nat) w, lo ≤ i → i < hi → I i w → (∀ w', I (i + 1) w' → again ((i : Int) + 1) w') → body again (i : Int) w)
    (done : ∀ (again : Int → World → Prop) w, I hi w → body again (hi : Int) w) : loop1 mk body y v := by
  subst hy
  refine loop1_of (fun x w => ∃ i : Nat, x = (i : Int) ∧ lo ≤ i ∧ i ≤ hi ∧ I i w) (fun x _ => hi - x.toNat) ⟨lo, rfl, Nat.le_refl _, hle, h0⟩ ?_
  rintro again x w ⟨i, rfl, h1, h2, h3⟩ hag
  rcases Nat.lt_or_ge i hi with h | h
  · exact step again i w h1 h h3 fun w' h4 => hag _ w' ⟨i + 1, by simp, by omega, by omega, h4⟩ (by omega)
  · have : i = hi := by omega
    subst this
    exact done again w h3
theorem loop2_up {A : Type} {mk : A → Int → Fr} {body : (A → Int → World → Prop) → A → Int → World → Prop} {v : World} {x : A} {y : Int} (lo hi : Nat) (I : Nat → A → World → Prop) (hy : y = (lo : Int)) (hle : lo ≤ hi) (h0 : I lo x v)
    (step : ∀ (again : A → Int → World → Prop) (i : Nat) a w, lo ≤ i → i < hi → I i a w → (∀ a' w', I (i + 1) a' w' → again a' ((i : Int) + 1) w') → body again a (i : Int) w)
    (done : ∀ (again : A → Int → World → Prop) a w, I hi a w → body again a (hi : Int) w) : loop2 mk body x y v := by
  subst hy
  refine loop2_of (fun a x w => ∃ i : Nat, x = (i : Int) ∧ lo ≤ i ∧ i ≤ hi ∧ I i a w) (fun _ x _ => hi - x.toNat) ⟨lo, rfl, Nat.le_refl _, hle, h0⟩ ?_
  rintro again a x w ⟨i, rfl, h1, h2, h3⟩ hag
  rcases Nat.lt_or_ge i hi with h | h
  · exact step again i a w h1 h h3 fun a' w' h4 => hag a' _ w' ⟨i + 1, by simp, by omega, by omega, h4⟩ (by omega)
  · have : i = hi := by omega
    subst this
    exact done again a w h3
theorem loop3_up {A B : Type} {mk : A → B → Int → Fr} {body : (A → B → Int → World → Prop) → A → B → Int → World → Prop} {v : World} {x : A} {z : B} {y : Int} (lo hi : Nat) (I : Nat → A → B → World → Prop) (hy : y = (lo : Int)) (hle : lo ≤ hi) (h0 : I lo x z v)
    (step : ∀ (again : A → B → Int → World → Prop) (i : Nat) a b w, lo ≤ i → i < hi → I i a b w → (∀ a' b' w', I (i + 1) a' b' w' → again a' b' ((i : Int) + 1) w') → body again a b (i : Int) w)
    (done : ∀ (again : A → B → Int → World → Prop) a b w, I hi a b w → body again a b (hi : Int) w) : loop3 mk body x z y v := by
  subst hy
  refine loop3_of (fun a b x w => ∃ i : Nat, x = (i : Int) ∧ lo ≤ i ∧ i ≤ hi ∧ I i a b w) (fun _ _ x _ => hi - x.toNat) ⟨lo, rfl, Nat.le_refl _, hle, h0⟩ ?_
  rintro again a b x w ⟨i, rfl, h1, h2, h3⟩ hag
  rcases Nat.lt_or_ge i hi with h | h
  · exact step again i a b w h1 h h3 fun a' b' w' h4 => hag a' b' _ w' ⟨i + 1, by simp, by omega, by omega, h4⟩ (by omega)
  · have : i = hi := by omega
    subst this
    exact done again a b w h3
theorem join0_of {mk : Fr} {rest : World → Prop} {first : (World → Prop) → Prop} (h : ∀ go : World → Prop, (∀ w, rest w → go w) → first go) : join0 mk rest first :=
  fun K hK => h _ fun w hw => hK w hw
theorem join1_of {A1 : Type} {mk : A1 → Fr} {rest : A1 → World → Prop} {first : (A1 → World → Prop) → Prop} (h : ∀ go : A1 → World → Prop, (∀ x w, rest x w → go x w) → first go) : join1 mk rest first :=
  fun K hK => h _ fun x w hw => hK x w hw
theorem join2_of {A1 A2 : Type} {mk : A1 → A2 → Fr} {rest : A1 → A2 → World → Prop} {first : (A1 → A2 → World → Prop) → Prop} (h : ∀ go : A1 → A2 → World → Prop, (∀ x y w, rest x y w → go x y w) → first go) : join2 mk rest first :=
  fun K hK => h _ fun x y w hw => hK x y w hw
/-- folds over 0 .. n-1 -/
def up {A : Type} (f : A → Nat → A) (s : A) (n : Nat) : A := (List.range n).foldl f s
theorem up_zero {A : Type} (f : A → Nat → A) (s : A) : up f s 0 = s := rfl
theorem up_succ {A : Type} (f : A → Nat → A) (s : A) (n : Nat) : up f s (n + 1) = f (up f s n) n := by simp [up, List.range_succ]
theorem asI_i {k : IntKind} {n : Int} {K : Int → Prop} (h : K n) : asI k (.int k n) K := ⟨n, rfl, h⟩
theorem asB_b {b : Bool} {K : Bool → Prop} (h : K b) : asB (.bool b) K := ⟨b, rfl, h⟩
theorem asP_p {p : Option Addr} {K : Option Addr → Prop} (h : K p) : asP (.pointer p) K := ⟨p, rfl, h⟩
theorem asSl_s {s : SlV} {K : SlV → Prop} (h : K s) : asSl (.slice s.a s.n s.c) K := ⟨s, rfl, h⟩
end Go.Ev
end
section
set_option linter.unusedVariables false
set_option linter.unusedSimpArgs false
/- WORDS OF BITS behind the numbers: words of this claim's author. -/
namespace Go.Ev
open Go Go.RowKit

abbrev B8 := BitVec 8
abbrev B64 := BitVec 64
def u8 (b : B8) : Value := .int .u8 (b.toNat : Int)
def u64 (x : B64) : Value := .int .u64 (x.toNat : Int)
def u8s (l : List B8) : List Value := l.map u8
def u64s (l : List B64) : List Value := l.map u64
theorem ones_u8s (l : List B8) : ∀ v ∈ u8s l, isOne v = true := by
  intro v hv
  obtain ⟨b, -, rfl⟩ := List.mem_map.1 hv
  rfl
theorem ones_u64s (l : List B64) : ∀ v ∈ u64s l, isOne v = true := by
  intro v hv
  obtain ⟨b, -, rfl⟩ := List.mem_map.1 hv
  rfl
@[simp] theorem length_u8s (l : List B8) : (u8s l).length = l.length := by simp [u8s]
@[simp] theorem length_u64s (l : List B64) : (u64s l).length = l.length := by simp [u64s]
theorem u64s_set (l : List B64) (i : Nat) (x : B64) : (u64s l).set i (u64 x) = u64s (l.set i x) := by simp [u64s, List.map_set]
theorem u64s_get (l : List B64) (i : Nat) (h : i < l.length) : (u64s l)[i]? = some (.int .u64 ((l.getD i 0).toNat : Int)) := by
  simp [u64s, u64, h]
theorem u8s_get (l : List B8) (i : Nat) (h : i < l.length) : (u8s l)[i]? = some (.int .u8 ((l.getD i 0).toNat : Int)) := by
  simp [u8s, u8, h]
theorem u8s_append (a b : List B8) : u8s (a ++ b) = u8s a ++ u8s b := by simp [u8s]
theorem wrap_u64 (n : Int) : IntKind.wrap .u64 n = n % 18446744073709551616 := by simp [IntKind.wrap, IntKind.signed, IntKind.bits]
theorem wrap_u8 (n : Int) : IntKind.wrap .u8 n = n % 256 := by simp [IntKind.wrap, IntKind.signed, IntKind.bits]
theorem wrap_u64_of (x : B64) : IntKind.wrap .u64 (x.toNat : Int) = x.toNat := by
  rw [wrap_u64]; have := x.isLt; omega
theorem wrap_u8_of (x : B8) : IntKind.wrap .u8 (x.toNat : Int) = x.toNat := by
  rw [wrap_u8]; have := x.isLt; omega
theorem ofInt_toNat {n : Nat} (x : BitVec n) : BitVec.ofInt n (x.toNat : Int) = x := by simp
theorem xor64 (x y : B64) : xorI .u64 (x.toNat : Int) (y.toNat : Int) = ((x ^^^ y).toNat : Int) := by
  unfold xorI
  rw [show IntKind.bits .u64 = 64 from rfl, ofInt_toNat, ofInt_toNat, wrap_u64_of]
theorem and64 (x y : B64) : andI .u64 (x.toNat : Int) (y.toNat : Int) = ((x &&& y).toNat : Int) := by
  unfold andI
  rw [show IntKind.bits .u64 = 64 from rfl, ofInt_toNat, ofInt_toNat, wrap_u64_of]
theorem or64 (x y : B64) : orI .u64 (x.toNat : Int) (y.toNat : Int) = ((x ||| y).toNat : Int) := by
  unfold orI
  rw [show IntKind.bits .u64 = 64 from rfl, ofInt_toNat, ofInt_toNat, wrap_u64_of]
theorem not64 (x : B64) : notI .u64 (x.toNat : Int) = ((~~~ x).toNat : Int) := by
  unfold notI
  rw [show (if IntKind.signed .u64 = true then (-1 : Int) else IntKind.max .u64) = (((BitVec.allOnes 64).toNat : Nat) : Int) from rfl, xor64, BitVec.allOnes_xor]
theorem xor8 (x y : B8) : xorI .u8 (x.toNat : Int) (y.toNat : Int) = ((x ^^^ y).toNat : Int) := by
  unfold xorI
  rw [show IntKind.bits .u8 = 8 from rfl, ofInt_toNat, ofInt_toNat, wrap_u8_of]
theorem shl64 (x : B64) (k : Nat) : shl .u64 (x.toNat : Int) (k : Int) = ((x <<< k).toNat : Int) := by
  unfold shl
  rw [wrap_u64, show IntKind.bits .u64 = 64 from rfl, Int.toNat_natCast, BitVec.toNat_shiftLeft, Nat.shiftLeft_eq]
  have e : (((x.toNat * 2 ^ k % 2 ^ 64 : Nat)) : Int) = ((x.toNat * 2 ^ (min k 64) % 2 ^ 64 : Nat) : Int) := by
    rcases Nat.le_total k 64 with h | h
    · rw [Nat.min_eq_left h]
    · rw [Nat.min_eq_right h]
      obtain ⟨j, rfl⟩ := Nat.exists_eq_add_of_le h
      rw [Nat.pow_add, Nat.mul_left_comm, Nat.mul_mod_right, Nat.mul_mod_left]
  rw [e, Int.natCast_emod, Int.natCast_mul, Int.natCast_pow]
  have h64 : ((2 ^ 64 : Nat) : Int) = 18446744073709551616 := by decide
  rw [h64]
  rfl
theorem shr64 (x : B64) (k : Nat) : shr .u64 (x.toNat : Int) (k : Int) = ((x >>> k).toNat : Int) := by
  unfold shr
  rw [show IntKind.bits .u64 = 64 from rfl, Int.toNat_natCast, BitVec.toNat_ushiftRight, Nat.shiftRight_eq_div_pow, Int.fdiv_eq_ediv_of_nonneg _ (by exact Int.le_of_lt (Int.pow_pos (by decide)))]
  have e : x.toNat / 2 ^ k = x.toNat / 2 ^ (min k 64) := by
    rcases Nat.le_total k 64 with h | h
    · rw [Nat.min_eq_left h]
    · rw [Nat.min_eq_right h, Nat.div_eq_of_lt x.isLt, Nat.div_eq_of_lt (Nat.lt_of_lt_of_le x.isLt (Nat.pow_le_pow_right (by decide) h))]
  rw [e, Int.natCast_ediv, Int.natCast_pow]
  rfl
/-- a byte as a word -/
theorem up64 (b : B8) : IntKind.wrap .u64 (b.toNat : Int) = ((b.setWidth 64).toNat : Int) := by
  rw [wrap_u64]; have := b.isLt; rw [BitVec.toNat_setWidth]; omega
/-- a word's low byte -/
theorem low8 (x : B64) : IntKind.wrap .u8 (x.toNat : Int) = ((x.setWidth 8).toNat : Int) := by
  rw [wrap_u8]; simp
def rotl (x : B64) (k : Nat) : B64 := (x <<< (k % 64)) ||| (x >>> (64 - k % 64))
/-- bytes in a slice -/
def Bytes (w : World) (s : SlV) (l : List B8) : Prop := Sl w s 1 (u8s l)
theorem Bytes.len {w : World} {s : SlV} {l : List B8} (h : Bytes w s l) : l.length = s.n := by simpa using Sl.len h
theorem Bytes.ld {w : World} {s : SlV} {l : List B8} (h : Bytes w s l) {i : Nat} (hi : i < l.length) {K : Int → Prop} (hk : K ((l.getD i 0).toNat : Int)) :
    idxS s.a (i : Int) s.n (ldI .u8 (Addr.add (base s.a) (Int.toNat (i : Int) * 1)) w K) := by
  have hl := h.len
  refine ⟨⟨h.pre (by omega), by omega, by omega⟩, _, ?_, hk⟩
  rw [Int.toNat_natCast, Nat.mul_one]
  exact h.cell i _ (u8s_get l i hi)
section
variable {w0 w : World} {S : List Nat} {L : List Res}
theorem Mine.ld64 (H : Mine w0 S w L) (k : Nat) {b i : Nat} {a : Addr} {cs : List B64} {t : TypeId} {K : Int → Prop} (hk : L[k]? = some (.blk b (u64s cs) t)) (ha : a = ⟨b, i, none⟩) (hi : i < cs.length) (h : K ((cs.getD i 0).toNat : Int)) : Ev.ldI .u64 a w K :=
  H.ldI k hk ha (u64s_get cs i hi) h
theorem Mine.st64 (H : Mine w0 S w L) (k : Nat) {b i : Nat} {a : Addr} {n : Int} {cs : List B64} {t : TypeId} {K : World → Prop} (x : B64) (hk : L[k]? = some (.blk b (u64s cs) t)) (ha : a = ⟨b, i, none⟩) (hi : i < cs.length) (hn : n = (x.toNat : Int))
    (h : ∀ w', Mine w0 S w' (L.set k (.blk b (u64s (cs.set i x)) t)) → K w') : Ev.st a (.int .u64 n) w K := by
  subst hn
  refine H.st k hk ha (by simpa using hi) rfl fun w' H' => h w' ?_
  rw [← u64s_set]; exact H'
theorem Mine.ldA64 (H : Mine w0 S w L) (k : Nat) {b n : Nat} {cs : List B64} {t : TypeId} {K : List Value → Prop} (hk : L[k]? = some (.blk b (u64s cs) t)) (hn : cs.length = n) (h : K (u64s cs)) : Ev.ldA n ⟨b, 0, none⟩ w K :=
  H.ldA k hk (by simp [hn]) h
theorem Mine.stA64 (H : Mine w0 S w L) (k : Nat) {b n : Nat} {l cs : List B64} {t : TypeId} {K : World → Prop} (hk : L[k]? = some (.blk b (u64s cs) t)) (hl : l.length = n) (hn : cs.length = n)
    (h : ∀ w', Mine w0 S w' (L.set k (.blk b (u64s l) t)) → K w') : Ev.stA n ⟨b, 0, none⟩ (u64s l) w K :=
  H.stA k hk (by simp [hl]) (by simp [hn]) (ones_u64s l) h
end
theorem asArr_u64s {l : List B64} {K : List Value → Prop} (h : K (u64s l)) : asArr (.agg ⟨u64s l⟩) K := ⟨_, rfl, h⟩
end Go.Ev
end
section
set_option linter.unusedVariables false
set_option linter.unusedSimpArgs false
/- THE PERMUTATION OF 25 WORDS, as the program and as the document make it: what each function computes. -/
namespace Go.Proofs.YtdnhoebcomffoaaGreatDoor
open Go Go.Ev
abbrev g (a : List B64) (i : Nat) : B64 := a.getD i 0
def z25 : List B64 := List.replicate 25 0
def z24 : List B64 := List.replicate 24 0
def z5 : List B64 := List.replicate 5 0
theorem zc25 : zc Pr t_25_uint64 = u64s z25 := by kernel_rfl
theorem zc24 : zc Pr t_24_uint64 = u64s z24 := by kernel_rfl
theorem zc5 : zc Pr t_5_uint64 = u64s z5 := by kernel_rfl

/-! ### the small ones -/
theorem RotateLeft64_ok (x : B64) (k : Nat) (w : World) : Ok Pr f_math_bits_RotateLeft64 [.int .u64 (x.toNat : Int), .int .i64 (k : Int)] w fun v w' => v = .int .u64 ((rotl x k).toNat : Int) ∧ w' = w := by
  refine V_math_bits_RotateLeft64_of ?_
  unfold V_math_bits_RotateLeft64
  have e1 : andI .u64 (IntKind.wrap .u64 (k : Int)) (63 : Int) = ((k % 64 : Nat) : Int) := by
    rw [wrap_u64, show ((k : Int) % 18446744073709551616) = ((BitVec.ofNat 64 k).toNat : Int) by rw [BitVec.toNat_ofNat]; omega, show (63 : Int) = ((63#64).toNat : Int) from rfl, and64, BitVec.toNat_and,
      show (63#64).toNat = 2 ^ 6 - 1 from rfl, Nat.and_two_pow_sub_one_eq_mod, BitVec.toNat_ofNat]
    omega
  have e2 : IntKind.wrap .u64 ((64 : Int) - ((k % 64 : Nat) : Int)) = ((64 - k % 64 : Nat) : Int) := by
    rw [wrap_u64]; omega
  rw [e1, Go.Ev.lt, e2]
  refine ⟨?_, rfl⟩
  rw [shl64, shr64, or64]
  rfl
theorem keccak_at_ok (x y : Nat) (hx : x < 1000) (hy : y < 1000) (w : World) : Ok Pr f_keccak_at [.int .i64 (x : Int), .int .i64 (y : Int)] w fun v w' => v = .int .i64 ((x % 5 + 5 * (y % 5) : Nat) : Int) ∧ w' = w := by
  refine V_keccak_at_of ?_
  unfold V_keccak_at I64
  refine ⟨by omega, by omega, ⟨by omega, by omega⟩, ⟨by omega, by omega⟩, ?_, rfl⟩
  rfl
theorem ref1_at_ok (x y : Nat) (hx : x < 1000) (hy : y < 1000) (w : World) : Ok Pr f_ref1_at [.int .i64 (x : Int), .int .i64 (y : Int)] w fun v w' => v = .int .i64 ((x % 5 + 5 * (y % 5) : Nat) : Int) ∧ w' = w := by
  refine V_ref1_at_of ?_
  unfold V_ref1_at I64
  refine ⟨⟨by omega, by omega⟩, by omega, ⟨by omega, by omega⟩, by omega, ⟨by omega, by omega⟩, ⟨by omega, by omega⟩, ?_, rfl⟩
  congr 1
  omega

/-! ### the program's five -/
def colStep (a c : List B64) (i : Nat) : List B64 := c.set (i % 5) (g c (i % 5) ^^^ g a i)
def cols (a : List B64) (n : Nat) : List B64 := up (colStep a) z5 n
def thetaStep (c b : List B64) (i : Nat) : List B64 := b.set i (g b i ^^^ (g c ((i % 5 + 4) % 5) ^^^ rotl (g c ((i % 5 + 1) % 5)) 1))
def theta (a : List B64) (n : Nat) : List B64 := up (thetaStep (cols a 25)) a n
theorem length_up {A : Type} (f : List A → Nat → List A) (hf : ∀ l i, (f l i).length = l.length) (s : List A) (n : Nat) : (up f s n).length = s.length := by
  induction n with
  | zero => rfl
  | succ n ih => rw [up_succ, hf, ih]
theorem length_cols (a : List B64) (n : Nat) : (cols a n).length = 5 := length_up _ (fun _ _ => List.length_set) _ _
theorem length_theta (a : List B64) (n : Nat) : (theta a n).length = a.length := length_up _ (fun _ _ => List.length_set) _ _
theorem cols_succ (a : List B64) (n : Nat) : cols a (n + 1) = colStep a (cols a n) n := up_succ _ _ _
theorem theta_succ (a : List B64) (n : Nat) : theta a (n + 1) = thetaStep (cols a 25) (theta a n) n := up_succ _ _ _
theorem keccak_Theta_ok (a : List B64) (ha : a.length = 25) (w : World) : Ok Pr f_keccak_Theta [.agg ⟨u64s a⟩] w fun v w' => v = .agg ⟨u64s (theta a 25)⟩ ∧ Mod [] w w' := by
  refine V_keccak_Theta_of ?_
  unfold V_keccak_Theta
  rw [zc25, zc5]
  refine (Mine.start w).nw fun b0 w1 H _ => H.nw fun b1 w2 H _ => H.nw fun b2 w3 H _ => H.ldA64 0 rfl ha ?_
  refine loop1_up 0 25 (fun i w' => Mine w [] w' [.blk b0 (u64s a) t_25_uint64, .blk b1 (u64s z25) t_25_uint64, .blk b2 (u64s (cols a i)) t_5_uint64]) rfl (by omega) H ?_ ?_
  · intro again i w4 _ hi H hag
    refine ite_true (by simp; omega) ⟨⟨by omega, by omega⟩, _, u64s_get a i (by omega), by omega, ⟨by omega, by omega⟩, ?_⟩
    refine H.ld64 2 (i := i % 5) rfl (ad b2 (i % 5)) (by rw [length_cols]; omega) ⟨⟨by omega, by omega⟩, ?_⟩
    refine H.st64 2 (i := i % 5) (g (cols a i) (i % 5) ^^^ g a i) rfl (ad b2 (i % 5)) (by rw [length_cols]; omega) (xor64 _ _) fun w5 H => ⟨⟨by omega, by omega⟩, ?_⟩
    exact hag w5 (by rw [cols_succ]; exact H)
  · intro again w4 H
    refine ite_false (by simp) ?_
    refine loop1_up 0 25 (fun i w' => Mine w [] w' [.blk b0 (u64s (theta a i)) t_25_uint64, .blk b1 (u64s z25) t_25_uint64, .blk b2 (u64s (cols a 25)) t_5_uint64]) rfl (by omega) H ?_ ?_
    · intro again i w5 _ hi H hag
      have h5 : ∀ j, j % 5 < (cols a 25).length := fun j => by rw [length_cols]; omega
      have ht : i < (theta a i).length := by rw [length_theta]; omega
      refine ite_true (by simp; omega) ⟨by omega, ⟨by omega, by omega⟩, ?_⟩
      refine H.drew.ld64 0 (i := i) rfl (ad b0 i) ht ⟨⟨by omega, by omega⟩, by omega, ⟨by omega, by omega⟩, ?_⟩
      refine H.drew.ld64 2 (i := (i % 5 + 4) % 5) rfl (ad b2 _) (h5 _) ⟨⟨by omega, by omega⟩, by omega, ⟨by omega, by omega⟩, ?_⟩
      refine H.drew.ld64 2 (i := (i % 5 + 1) % 5) rfl (ad b2 _) (h5 _) ?_
      refine call_of (RotateLeft64_ok _ 1 _) ?_
      rintro _ _ ⟨rfl, rfl⟩
      refine asI_i ⟨H.drew.kept (Mod.refl _ _) 2 rfl (ad b2 ((i % 5 + 4) % 5)) 1, H.drew.kept (Mod.refl _ _) 0 rfl (ad b0 i) 1, ⟨by omega, by omega⟩, ?_⟩
      refine H.drew.st64 0 (i := i) (g (theta a i) i ^^^ (g (cols a 25) ((i % 5 + 4) % 5) ^^^ rotl (g (cols a 25) ((i % 5 + 1) % 5)) 1)) rfl (ad b0 i) ht (by rw [xor64, xor64]) fun w6 H => ⟨⟨by omega, by omega⟩, ?_⟩
      exact hag w6 (by rw [theta_succ]; exact H)
    · intro again w5 H
      refine ite_false (by simp) ?_
      refine H.ldA64 0 rfl (by rw [length_theta, ha]) (H.stA64 1 rfl (by rw [length_theta, ha]) rfl fun w6 H => H.ldA64 1 rfl (by rw [length_theta, ha]) ⟨rfl, H.mod⟩)

def pl (x y : Nat) : Nat := x % 5 + 5 * (y % 5)
theorem pl_lt (x y : Nat) : pl x y < 25 := by unfold pl; omega
/-- 24 lanes are turned on the way -/
def rhoStep (s : List B64 × Nat × Nat) (t : Nat) : List B64 × Nat × Nat := (s.1.set (pl s.2.1 s.2.2) (rotl (g s.1 (pl s.2.1 s.2.2)) ((t + 1) * (t + 2) / 2 % 64)), s.2.2, (2 * s.2.1 + 3 * s.2.2) % 5)
def rhos (a : List B64) (n : Nat) : List B64 × Nat × Nat := up rhoStep (a, 1, 0) n
theorem rhos_succ (a : List B64) (n : Nat) : rhos a (n + 1) = rhoStep (rhos a n) n := up_succ _ _ _
theorem rhos_lt (a : List B64) (n : Nat) : (rhos a n).1.length = a.length ∧ (rhos a n).2.1 < 5 ∧ (rhos a n).2.2 < 5 := by
  induction n with
  | zero => exact ⟨rfl, (by show 1 < 5; omega), (by show 0 < 5; omega)⟩
  | succ n ih =>
    rw [rhos_succ]
    obtain ⟨h1, h2, h3⟩ := ih
    exact ⟨by simp only [rhoStep, List.length_set, h1], h3, by simp only [rhoStep]; omega⟩
def rho (a : List B64) : List B64 := (rhos a 24).1
theorem length_rho (a : List B64) : (rho a).length = a.length := (rhos_lt a 24).1
theorem keccak_Rho_ok (a : List B64) (ha : a.length = 25) (w : World) : Ok Pr f_keccak_Rho [.agg ⟨u64s a⟩] w fun v w' => v = .agg ⟨u64s (rho a)⟩ ∧ Mod [] w w' := by
  refine V_keccak_Rho_of ?_
  unfold V_keccak_Rho
  rw [zc25]
  refine (Mine.start w).nw fun b0 w1 H _ => H.nw fun b1 w2 H _ => ?_
  refine loop3_up 1 25 (fun t x y w' => x = ((rhos a (t - 1)).2.1 : Int) ∧ y = ((rhos a (t - 1)).2.2 : Int) ∧ Mine w [] w' [.blk b0 (u64s (rhos a (t - 1)).1) t_25_uint64, .blk b1 (u64s z25) t_25_uint64]) rfl (by omega) ⟨rfl, rfl, H⟩ ?_ ?_
  · rintro again t _ _ w3 h1 hi ⟨rfl, rfl, H⟩ hag
    obtain ⟨t, rfl⟩ : ∃ k, t = k + 1 := ⟨t - 1, by omega⟩
    rw [Nat.add_sub_cancel] at H ⊢
    obtain ⟨h2, h3, h4⟩ := rhos_lt a t
    rcases hs : rhos a t with ⟨b, x, y⟩
    rw [hs] at H h2 h3 h4
    dsimp only at H h2 h3 h4 ⊢
    have hp := pl_lt x y
    refine ite_true (by simp; omega) ?_
    refine call_of (keccak_at_ok x y (by omega) (by omega) _) ?_
    rintro _ _ ⟨rfl, rfl⟩
    refine asI_i ⟨⟨by omega, by unfold pl at hp; omega⟩, ?_⟩
    refine H.ld64 0 (i := pl x y) rfl (ad b0 (pl x y)) (by omega) ?_
    have hm : ((t : Int) + 1) * ((t : Int) + 1 + 1) = (((t + 1) * (t + 2) : Nat) : Int) := by push_cast; rfl
    have hm2 : (t + 1) * (t + 2) ≤ 25 * 26 := Nat.mul_le_mul (by omega) (by omega)
    have e2 : (((t + 1 : Nat) : Int)) * (((t + 1 : Nat) : Int) + 1) = (((t + 1) * (t + 2) : Nat) : Int) := by push_cast; rfl
    rw [e2]
    refine ⟨⟨by omega, by omega⟩, ⟨by omega, by omega⟩, ⟨by omega, by simp only [IntKind.max, IntKind.signed, IntKind.bits]; omega⟩, by omega, ?_⟩
    refine call_of (RotateLeft64_ok _ ((t + 1) * (t + 2) / 2 % 64) _) ?_
    rintro _ _ ⟨rfl, rfl⟩
    refine asI_i ⟨⟨by omega, by unfold pl at hp; omega⟩, ?_⟩
    refine H.st64 0 (i := pl x y) (rotl (g b (pl x y)) ((t + 1) * (t + 2) / 2 % 64)) rfl (ad b0 (pl x y)) (by omega) rfl fun w6 H => ?_
    refine ⟨⟨by omega, by omega⟩, ⟨by omega, by omega⟩, ⟨by omega, by omega⟩, by omega, ⟨by omega, by omega⟩, ?_⟩
    exact hag _ _ w6 (by rw [Nat.add_sub_cancel, rhos_succ, hs]; exact ⟨rfl, by simp only [rhoStep]; push_cast; rfl, H⟩)
  · rintro again _ _ w3 ⟨rfl, rfl, H⟩
    have hl := length_rho a
    refine ite_false (by simp) ?_
    exact H.ldA64 0 rfl (hl.trans ha) (H.stA64 1 rfl (hl.trans ha) rfl fun w6 H => H.ldA64 1 rfl (hl.trans ha) ⟨rfl, H.mod⟩)

/-- lanes move -/
def piStep (a b : List B64) (x y : Nat) : List B64 := b.set (pl x y) (g a (pl (x + 3 * y) x))
def piRow (a : List B64) (y : Nat) (b : List B64) (n : Nat) : List B64 := up (fun b x => piStep a b x y) b n
def pi (a : List B64) (n : Nat) : List B64 := up (fun b y => piRow a y b 5) z25 n
theorem length_piRow (a : List B64) (y : Nat) (b : List B64) (n : Nat) : (piRow a y b n).length = b.length := length_up _ (fun _ _ => List.length_set) _ _
theorem length_pi (a : List B64) (n : Nat) : (pi a n).length = 25 := length_up _ (fun _ _ => length_piRow _ _ _ _) _ _
theorem keccak_Pi_ok (a : List B64) (ha : a.length = 25) (w : World) : Ok Pr f_keccak_Pi [.agg ⟨u64s a⟩] w fun v w' => v = .agg ⟨u64s (pi a 5)⟩ ∧ Mod [] w w' := by
  refine V_keccak_Pi_of ?_
  unfold V_keccak_Pi
  rw [zc25]
  refine (Mine.start w).nw fun b0 w1 H _ => H.nw fun b1 w2 H _ => H.nw fun b2 w3 H _ => ?_
  refine loop1_up 0 5 (fun y w' => Mine w [] w' [.blk b0 (u64s a) t_25_uint64, .blk b1 (u64s z25) t_25_uint64, .blk b2 (u64s (pi a y)) t_25_uint64]) rfl (by omega) H ?_ ?_
  · intro again y w4 _ hy H hag
    refine ite_true (by simp; omega) ?_
    refine loop1_up 0 5 (fun x w' => Mine w [] w' [.blk b0 (u64s a) t_25_uint64, .blk b1 (u64s z25) t_25_uint64, .blk b2 (u64s (piRow a y (pi a y) x)) t_25_uint64]) rfl (by omega) H ?_ ?_
    · intro again x w5 _ hx H hag
      have hp := pl_lt x y
      have hq := pl_lt (x + 3 * y) x
      refine ite_true (by simp; omega) ?_
      refine call_of (keccak_at_ok x y (by omega) (by omega) _) ?_
      rintro _ _ ⟨rfl, rfl⟩
      refine asI_i ⟨⟨by omega, by omega⟩, ⟨by omega, by omega⟩, ?_⟩
      refine call_of (keccak_at_ok (x + 3 * y) x (by omega) (by omega) _) ?_
      rintro _ _ ⟨rfl, rfl⟩
      refine asI_i ⟨⟨by omega, by unfold pl at hq; omega⟩, ?_⟩
      refine H.ld64 0 (i := pl (x + 3 * y) x) rfl (ad b0 _) (by omega) ⟨⟨by omega, by unfold pl at hp; omega⟩, ?_⟩
      refine H.st64 2 (i := pl x y) (g a (pl (x + 3 * y) x)) rfl (ad b2 _) (by rw [length_piRow, length_pi]; omega) rfl fun w6 H => ⟨⟨by omega, by omega⟩, ?_⟩
      exact hag w6 (by rw [show piRow a y (pi a y) (x + 1) = piStep a (piRow a y (pi a y) x) x y from up_succ _ _ _]; exact H)
    · intro again w5 H
      refine ite_false (by simp) ⟨⟨by omega, by omega⟩, ?_⟩
      exact hag w5 (by rw [show pi a (y + 1) = piRow a y (pi a y) 5 from up_succ _ _ _]; exact H)
  · intro again w4 H
    refine ite_false (by simp) ?_
    exact H.ldA64 2 rfl (length_pi _ _) (H.stA64 1 rfl (length_pi _ _) rfl fun w6 H => H.ldA64 1 rfl (length_pi _ _) ⟨rfl, H.mod⟩)

/-- rows are mixed -/
def chiStep (a b : List B64) (x y : Nat) : List B64 := b.set (pl x y) (g b (pl x y) ^^^ (~~~ g a (pl (x + 1) y) &&& g a (pl (x + 2) y)))
def chiRow (a : List B64) (y : Nat) (b : List B64) (n : Nat) : List B64 := up (fun b x => chiStep a b x y) b n
def chi (a : List B64) (n : Nat) : List B64 := up (fun b y => chiRow a y b 5) a n
theorem length_chiRow (a : List B64) (y : Nat) (b : List B64) (n : Nat) : (chiRow a y b n).length = b.length := length_up _ (fun _ _ => List.length_set) _ _
theorem length_chi (a : List B64) (n : Nat) : (chi a n).length = a.length := length_up _ (fun _ _ => length_chiRow _ _ _ _) _ _
theorem keccak_Chi_ok (a : List B64) (ha : a.length = 25) (w : World) : Ok Pr f_keccak_Chi [.agg ⟨u64s a⟩] w fun v w' => v = .agg ⟨u64s (chi a 5)⟩ ∧ Mod [] w w' := by
  refine V_keccak_Chi_of ?_
  unfold V_keccak_Chi
  rw [zc25]
  have hc : ∀ n, (chi a n).length = 25 := fun n => (length_chi a n).trans ha
  refine (Mine.start w).nw fun b0 w1 H _ => H.nw fun b1 w2 H _ => H.ldA64 0 rfl ha (H.nw fun b2 w3 H _ => H.stA64 2 rfl ha rfl fun w4 H => ?_)
  refine loop1_up 0 5 (fun y w' => Mine w [] w' [.blk b0 (u64s a) t_25_uint64, .blk b1 (u64s z25) t_25_uint64, .blk b2 (u64s (chi a y)) t_25_uint64]) rfl (by omega) H ?_ ?_
  · intro again y w4 _ hy H hag
    refine ite_true (by simp; omega) ?_
    refine loop1_up 0 5 (fun x w' => Mine w [] w' [.blk b0 (u64s a) t_25_uint64, .blk b1 (u64s z25) t_25_uint64, .blk b2 (u64s (chiRow a y (chi a y) x)) t_25_uint64]) rfl (by omega) H ?_ ?_
    · intro again x w5 _ hx H hag
      have hp := pl_lt x y
      have hq := pl_lt (x + 1) y
      have hr := pl_lt (x + 2) y
      have hl : (chiRow a y (chi a y) x).length = 25 := by rw [length_chiRow, hc]
      refine ite_true (by simp; omega) ⟨⟨by omega, by omega⟩, ⟨by omega, by omega⟩, ?_⟩
      refine call_of (keccak_at_ok x y (by omega) (by omega) _) ?_
      rintro _ _ ⟨rfl, rfl⟩
      have H := H.drew
      refine asI_i ⟨⟨by omega, by unfold pl at hp; omega⟩, H.ld64 2 (i := pl x y) rfl (ad b2 _) (by omega) ?_⟩
      refine call_of (keccak_at_ok (x + 1) y (by omega) (by omega) _) ?_
      rintro _ _ ⟨rfl, rfl⟩
      refine asI_i ⟨H.kept (Mod.refl _ _) 2 rfl (ad b2 (pl x y)) 1, ⟨by omega, by unfold pl at hq; omega⟩, H.ld64 0 (i := pl (x + 1) y) rfl (ad b0 _) (by omega) ?_⟩
      refine call_of (keccak_at_ok (x + 2) y (by omega) (by omega) _) ?_
      rintro _ _ ⟨rfl, rfl⟩
      refine asI_i ⟨H.kept (Mod.refl _ _) 0 rfl (ad b0 (pl (x + 1) y)) 1, H.kept (Mod.refl _ _) 2 rfl (ad b2 (pl x y)) 1, ⟨by omega, by unfold pl at hr; omega⟩, H.ld64 0 (i := pl (x + 2) y) rfl (ad b0 _) (by omega) ⟨⟨by omega, by unfold pl at hp; omega⟩, ?_⟩⟩
      refine H.st64 2 (i := pl x y) (g (chiRow a y (chi a y) x) (pl x y) ^^^ (~~~ g a (pl (x + 1) y) &&& g a (pl (x + 2) y))) rfl (ad b2 _) (by omega) (by rw [not64, and64, xor64]) fun w6 H => ⟨⟨by omega, by omega⟩, ?_⟩
      exact hag w6 (by rw [show chiRow a y (chi a y) (x + 1) = chiStep a (chiRow a y (chi a y) x) x y from up_succ _ _ _]; exact H)
    · intro again w5 H
      refine ite_false (by simp) ⟨⟨by omega, by omega⟩, ?_⟩
      exact hag w5 (by rw [show chi a (y + 1) = chiRow a y (chi a y) 5 from up_succ _ _ _]; exact H)
  · intro again w4 H
    refine ite_false (by simp) ?_
    exact H.ldA64 2 rfl (hc _) (H.stA64 1 rfl (hc _) rfl fun w6 H => H.ldA64 1 rfl (hc _) ⟨rfl, H.mod⟩)
end Go.Proofs.YtdnhoebcomffoaaGreatDoor
end
section
set_option linter.unusedVariables false
set_option linter.unusedSimpArgs false
/- THE PERMUTATION, as a whole, and the document's parts. -/
namespace Go.Proofs.YtdnhoebcomffoaaGreatDoor
open Go Go.Ev
def words : List B64 := [0x0000000000000001, 0x0000000000008082, 0x800000000000808A, 0x8000000080008000, 0x000000000000808B, 0x0000000080000001,
  0x8000000080008081, 0x8000000000008009, 0x000000000000008A, 0x0000000000000088, 0x0000000080008009, 0x000000008000000A,
  0x000000008000808B, 0x800000000000008B, 0x8000000000008089, 0x8000000000008003, 0x8000000000008002, 0x8000000000000080,
  0x000000000000800A, 0x800000008000000A, 0x8000000080008081, 0x8000000000008080, 0x0000000080000001, 0x8000000080008008]
def iota (a : List B64) (r : Nat) : List B64 := a.set 0 (g a 0 ^^^ g words r)
def round (a : List B64) (r : Nat) : List B64 := iota (chi (pi (rho (theta a 25)) 5) 5) r
def perms (a : List B64) (n : Nat) : List B64 := up round a n
@[irreducible] def perm (a : List B64) : List B64 := perms a 24
theorem perm_eq (a : List B64) : perms a 24 = perm a := by unfold perm; rfl
theorem length_round (a : List B64) (r : Nat) (_h : a.length = 25) : (round a r).length = 25 := by
  unfold round iota
  rw [List.length_set, length_chi, length_pi]
theorem perms_succ (a : List B64) (n : Nat) : perms a (n + 1) = round (perms a n) n := up_succ _ _ _
theorem length_perms (a : List B64) (ha : a.length = 25) (n : Nat) : (perms a n).length = 25 := by
  induction n with
  | zero => exact ha
  | succ n ih => rw [perms_succ, length_round _ _ ih]
theorem length_perm (a : List B64) (ha : a.length = 25) : (perm a).length = 25 := perm_eq a ▸ length_perms a ha 24
theorem keccak_Iota_ok (a : List B64) (ha : a.length = 25) (r : Nat) (hr : r < 24) (w : World) : Ok Pr f_keccak_Iota [.agg ⟨u64s a⟩, .int .i64 (r : Int)] w fun v w' => v = .agg ⟨u64s (iota a r)⟩ ∧ Mod [] w w' := by
  refine V_keccak_Iota_of ?_
  unfold V_keccak_Iota
  rw [zc25, zc24]
  refine (Mine.start w).nw fun b0 w1 H _ => H.nw fun b1 w2 H _ => ite_false (by simp; omega) (H.nw fun b2 w3 H _ => ?_)
  refine H.stA64 2 (l := words) rfl rfl rfl fun w4 H => ?_
  refine ⟨⟨by omega, by omega⟩, H.drew.ld64 0 (i := 0) rfl (ad b0 _) (by omega) ⟨⟨by omega, by omega⟩, H.drew.ld64 2 (i := r) rfl (ad b2 _) (by show r < 24; omega) ⟨⟨by omega, by omega⟩, ?_⟩⟩⟩
  refine H.drew.st64 0 (i := 0) (g a 0 ^^^ g words r) rfl (ad b0 _) (by omega) (xor64 _ _) fun w5 H => ?_
  have hl : (iota a r).length = 25 := by simp [iota, ha]
  exact H.ldA64 0 rfl hl (H.stA64 1 rfl hl rfl fun w6 H => H.ldA64 1 rfl hl ⟨rfl, H.mod⟩)
theorem keccak_Round_ok (a : List B64) (ha : a.length = 25) (r : Nat) (hr : r < 24) (w : World) : Ok Pr f_keccak_Round [.agg ⟨u64s a⟩, .int .i64 (r : Int)] w fun v w' => v = .agg ⟨u64s (round a r)⟩ ∧ Mod [] w w' := by
  refine V_keccak_Round_of ?_
  unfold V_keccak_Round
  rw [zc25]
  have h1 : (theta a 25).length = 25 := (length_theta _ _).trans ha
  have h2 : (rho (theta a 25)).length = 25 := (length_rho _).trans h1
  have h3 : (pi (rho (theta a 25)) 5).length = 25 := length_pi _ _
  have h4 : (chi (pi (rho (theta a 25)) 5) 5).length = 25 := (length_chi _ _).trans h3
  have h5 := length_round a r ha
  refine (Mine.start w).nw fun b0 w1 H _ => H.nw fun b1 w2 H _ => H.ldA64 0 rfl ha ?_
  refine call_of (keccak_Theta_ok a ha _) ?_
  rintro _ w3 ⟨rfl, m⟩
  have H := H.frame m
  refine asArr_u64s (call_of (keccak_Rho_ok _ h1 _) ?_)
  rintro _ w4 ⟨rfl, m⟩
  have H := H.frame m
  refine asArr_u64s (call_of (keccak_Pi_ok _ h2 _) ?_)
  rintro _ w5 ⟨rfl, m⟩
  have H := H.frame m
  refine asArr_u64s (call_of (keccak_Chi_ok _ h3 _) ?_)
  rintro _ w6 ⟨rfl, m⟩
  have H := H.frame m
  refine asArr_u64s (call_of (keccak_Iota_ok _ h4 r hr _) ?_)
  rintro _ w7 ⟨rfl, m⟩
  have H := H.frame m
  exact asArr_u64s (H.stA64 1 (l := round a r) rfl h5 rfl fun w6 H => H.ldA64 1 rfl h5 ⟨rfl, H.mod⟩)
theorem keccak_Permute_ok (a : List B64) (ha : a.length = 25) (w : World) : Ok Pr f_keccak_Permute [.agg ⟨u64s a⟩] w fun v w' => v = .agg ⟨u64s (perm a)⟩ ∧ Mod [] w w' := by
  refine V_keccak_Permute_of ?_
  unfold V_keccak_Permute
  rw [zc25]
  have hl := length_perms a ha
  refine (Mine.start w).nw fun b0 w1 H _ => H.nw fun b1 w2 H _ => ?_
  refine loop1_up 0 24 (fun i w' => Mine w [] w' [.blk b0 (u64s (perms a i)) t_25_uint64, .blk b1 (u64s z25) t_25_uint64]) rfl (by omega) H ?_ ?_
  · intro again i w3 _ hi H hag
    refine ite_true (by simp; omega) (H.ldA64 0 rfl (hl i) (call_of (keccak_Round_ok _ (hl i) i hi _) ?_))
    rintro _ w4 ⟨rfl, m⟩
    have H := H.frame m
    refine asArr_u64s (H.stA64 0 rfl (length_round _ _ (hl i)) (hl i) fun w5 H => ⟨⟨by omega, by omega⟩, ?_⟩)
    exact hag w5 (by rw [perms_succ]; exact H)
  · intro again w3 H
    have hp := hl 24
    rw [perm_eq] at H hp
    refine ite_false (by simp) ?_
    refine H.ldA64 0 rfl hp ?_
    refine H.stA64 1 rfl hp rfl fun w6 H => ?_
    refine H.ldA64 1 rfl hp ?_
    refine ⟨rfl, H.mod⟩

/-! ### the document's -/
def thetaStep' (a c b : List B64) (i : Nat) : List B64 := b.set i (g a i ^^^ g c ((i + 4) % 5) ^^^ rotl (g c ((i + 1) % 5)) 1)
def theta' (a : List B64) (n : Nat) : List B64 := up (thetaStep' a (cols a 25)) z25 n
theorem length_theta' (a : List B64) (n : Nat) : (theta' a n).length = 25 := length_up _ (fun _ _ => List.length_set) _ _
theorem ref1_Theta_ok' (a : List B64) (ha : a.length = 25) (w : World) : Ok Pr f_ref1_Theta [.agg ⟨u64s a⟩] w fun v w' => v = .agg ⟨u64s (theta' a 25)⟩ ∧ Mod [] w w' := by
  refine V_ref1_Theta_of ?_
  unfold V_ref1_Theta
  rw [zc25, zc5]
  refine (Mine.start w).nw fun b0 w1 H _ => H.nw fun b1 w2 H _ => H.nw fun b2 w3 H _ => ?_
  refine loop1_up 0 25 (fun i w' => Mine w [] w' [.blk b0 (u64s a) t_25_uint64, .blk b1 (u64s z25) t_25_uint64, .blk b2 (u64s (cols a i)) t_5_uint64]) rfl (by omega) H ?_ ?_
  · intro again i w4 _ hi H hag
    refine ite_true (by simp; omega) ⟨by omega, by omega, ⟨by omega, by omega⟩, ?_⟩
    refine H.drew.ld64 2 (i := i % 5) rfl (ad b2 (i % 5)) (by rw [length_cols]; omega) ⟨⟨by omega, by omega⟩, H.drew.ld64 0 (i := i) rfl (ad b0 _) (by omega) ⟨⟨by omega, by omega⟩, ?_⟩⟩
    refine H.drew.st64 2 (i := i % 5) (g (cols a i) (i % 5) ^^^ g a i) rfl (ad b2 (i % 5)) (by rw [length_cols]; omega) (xor64 _ _) fun w5 H => ⟨⟨by omega, by omega⟩, ?_⟩
    exact hag w5 (by rw [cols_succ]; exact H)
  · intro again w4 H
    refine ite_false (by simp) (H.nw fun b3 w5 H _ => ?_)
    refine loop1_up 0 25 (fun i w' => Mine w [] w' [.blk b0 (u64s a) t_25_uint64, .blk b1 (u64s z25) t_25_uint64, .blk b2 (u64s (cols a 25)) t_5_uint64, .blk b3 (u64s (theta' a i)) t_25_uint64]) rfl (by omega) H ?_ ?_
    · intro again i w5 _ hi H hag
      have h5 : ∀ j, j % 5 < (cols a 25).length := fun j => by rw [length_cols]; omega
      have ht : i < (theta' a i).length := by rw [length_theta']; omega
      refine ite_true (by simp; omega) ⟨⟨by omega, by omega⟩, ?_⟩
      refine H.drew.ld64 0 (i := i) rfl (ad b0 i) (by omega) ⟨⟨by omega, by omega⟩, by omega, ⟨by omega, by omega⟩, ?_⟩
      refine H.drew.ld64 2 (i := (i + 4) % 5) rfl (ad b2 _) (h5 _) ⟨⟨by omega, by omega⟩, by omega, ⟨by omega, by omega⟩, ?_⟩
      refine H.drew.ld64 2 (i := (i + 1) % 5) rfl (ad b2 _) (h5 _) ?_
      refine call_of (RotateLeft64_ok _ 1 _) ?_
      rintro _ _ ⟨rfl, rfl⟩
      refine asI_i ⟨H.drew.kept (Mod.refl _ _) 2 rfl (ad b2 ((i + 4) % 5)) 1, H.drew.kept (Mod.refl _ _) 0 rfl (ad b0 i) 1, ⟨by omega, by omega⟩, ?_⟩
      refine H.drew.st64 3 (i := i) (g a i ^^^ g (cols a 25) ((i + 4) % 5) ^^^ rotl (g (cols a 25) ((i + 1) % 5)) 1) rfl (ad b3 i) ht (by rw [xor64, xor64]) fun w6 H => ⟨⟨by omega, by omega⟩, ?_⟩
      exact hag w6 (by rw [show theta' a (i + 1) = thetaStep' a (cols a 25) (theta' a i) i from up_succ _ _ _]; exact H)
    · intro again w5 H
      refine ite_false (by simp) ?_
      exact H.ldA64 3 rfl (length_theta' _ _) (H.stA64 1 rfl (length_theta' _ _) rfl fun w6 H => H.ldA64 1 rfl (length_theta' _ _) ⟨rfl, H.mod⟩)
def rhoStep' (a : List B64) (s : List B64 × Nat × Nat) (t : Nat) : List B64 × Nat × Nat := (s.1.set (pl s.2.1 s.2.2) (rotl (g a (pl s.2.1 s.2.2)) ((t + 1) * (t + 2) / 2 % 64)), s.2.2, (2 * s.2.1 + 3 * s.2.2) % 5)
def rhos' (a : List B64) (n : Nat) : List B64 × Nat × Nat := up (rhoStep' a) (a, 1, 0) n
theorem rhos'_succ (a : List B64) (n : Nat) : rhos' a (n + 1) = rhoStep' a (rhos' a n) n := up_succ _ _ _
theorem rhos'_lt (a : List B64) (n : Nat) : (rhos' a n).1.length = a.length ∧ (rhos' a n).2.1 < 5 ∧ (rhos' a n).2.2 < 5 := by
  induction n with
  | zero => exact ⟨rfl, (by show 1 < 5; omega), (by show 0 < 5; omega)⟩
  | succ n ih =>
    rw [rhos'_succ]
    obtain ⟨h1, h2, h3⟩ := ih
    exact ⟨by simp only [rhoStep', List.length_set, h1], h3, by simp only [rhoStep']; omega⟩
def rho' (a : List B64) : List B64 := (rhos' a 24).1
theorem length_rho' (a : List B64) : (rho' a).length = a.length := (rhos'_lt a 24).1
theorem ref1_Rho_ok' (a : List B64) (ha : a.length = 25) (w : World) : Ok Pr f_ref1_Rho [.agg ⟨u64s a⟩] w fun v w' => v = .agg ⟨u64s (rho' a)⟩ ∧ Mod [] w w' := by
  refine V_ref1_Rho_of ?_
  unfold V_ref1_Rho
  rw [zc25]
  refine (Mine.start w).nw fun b0 w1 H _ => H.nw fun b1 w2 H _ => H.ldA64 0 rfl ha (H.nw fun b2 w3 H _ => H.stA64 2 rfl ha rfl fun w4 H => ?_)
  refine loop3_up 0 24 (fun t x y w' => x = ((rhos' a t).2.1 : Int) ∧ y = ((rhos' a t).2.2 : Int) ∧ Mine w [] w' [.blk b0 (u64s a) t_25_uint64, .blk b1 (u64s z25) t_25_uint64, .blk b2 (u64s (rhos' a t).1) t_25_uint64]) rfl (by omega) ⟨rfl, rfl, H⟩ ?_ ?_
  · rintro again t _ _ w3 h1 hi ⟨rfl, rfl, H⟩ hag
    obtain ⟨h2, h3, h4⟩ := rhos'_lt a t
    rcases hs : rhos' a t with ⟨b, x, y⟩
    rw [hs] at H h2 h3 h4
    dsimp only at H h2 h3 h4 ⊢
    have hp := pl_lt x y
    refine ite_true (by simp; omega) ?_
    refine call_of (ref1_at_ok x y (by omega) (by omega) _) ?_
    rintro _ _ ⟨rfl, rfl⟩
    refine asI_i (call_of (ref1_at_ok x y (by omega) (by omega) _) ?_)
    rintro _ _ ⟨rfl, rfl⟩
    refine asI_i ⟨⟨by omega, by unfold pl at hp; omega⟩, ?_⟩
    refine H.ld64 0 (i := pl x y) rfl (ad b0 (pl x y)) (by omega) ?_
    have hm2 : (t + 1) * (t + 2) ≤ 25 * 26 := Nat.mul_le_mul (by omega) (by omega)
    have e2 : ((t : Int) + 1) * ((t : Int) + 2) = (((t + 1) * (t + 2) : Nat) : Int) := by push_cast; rfl
    rw [e2]
    refine ⟨⟨by omega, by omega⟩, ⟨by omega, by omega⟩, ⟨by omega, by omega⟩, ⟨by omega, by simp only [IntKind.max, IntKind.signed, IntKind.bits]; omega⟩, by omega, ?_⟩
    refine call_of (RotateLeft64_ok _ ((t + 1) * (t + 2) / 2 % 64) _) ?_
    rintro _ _ ⟨rfl, rfl⟩
    refine asI_i ⟨⟨by omega, by unfold pl at hp; omega⟩, ?_⟩
    refine H.st64 2 (i := pl x y) (rotl (g a (pl x y)) ((t + 1) * (t + 2) / 2 % 64)) rfl (ad b2 (pl x y)) (by omega) rfl fun w6 H => ?_
    refine ⟨⟨by omega, by omega⟩, ⟨by omega, by omega⟩, ⟨by omega, by omega⟩, by omega, ⟨by omega, by omega⟩, ?_⟩
    exact hag _ _ w6 (by rw [rhos'_succ, hs]; exact ⟨rfl, by simp only [rhoStep']; push_cast; rfl, H⟩)
  · rintro again _ _ w3 ⟨rfl, rfl, H⟩
    have hl := length_rho' a
    refine ite_false (by simp) ?_
    exact H.ldA64 2 rfl (hl.trans ha) (H.stA64 1 rfl (hl.trans ha) rfl fun w6 H => H.ldA64 1 rfl (hl.trans ha) ⟨rfl, H.mod⟩)
def piRow' (a : List B64) (x : Nat) (b : List B64) (n : Nat) : List B64 := up (fun b y => piStep a b x y) b n
def pi' (a : List B64) (n : Nat) : List B64 := up (fun b x => piRow' a x b 5) z25 n
theorem length_piRow' (a : List B64) (y : Nat) (b : List B64) (n : Nat) : (piRow' a y b n).length = b.length := length_up _ (fun _ _ => List.length_set) _ _
theorem length_pi' (a : List B64) (n : Nat) : (pi' a n).length = 25 := length_up _ (fun _ _ => length_piRow' _ _ _ _) _ _
theorem ref1_Pi_ok' (a : List B64) (ha : a.length = 25) (w : World) : Ok Pr f_ref1_Pi [.agg ⟨u64s a⟩] w fun v w' => v = .agg ⟨u64s (pi' a 5)⟩ ∧ Mod [] w w' := by
  refine V_ref1_Pi_of ?_
  unfold V_ref1_Pi
  rw [zc25]
  refine (Mine.start w).nw fun b0 w1 H _ => H.nw fun b1 w2 H _ => H.nw fun b2 w3 H _ => ?_
  refine loop1_up 0 5 (fun x w' => Mine w [] w' [.blk b0 (u64s a) t_25_uint64, .blk b1 (u64s z25) t_25_uint64, .blk b2 (u64s (pi' a x)) t_25_uint64]) rfl (by omega) H ?_ ?_
  · intro again x w4 _ hx H hag
    refine ite_true (by simp; omega) ?_
    refine loop1_up 0 5 (fun y w' => Mine w [] w' [.blk b0 (u64s a) t_25_uint64, .blk b1 (u64s z25) t_25_uint64, .blk b2 (u64s (piRow' a x (pi' a x) y)) t_25_uint64]) rfl (by omega) H ?_ ?_
    · intro again y w5 _ hy H hag
      have hp := pl_lt x y
      have hq := pl_lt (x + 3 * y) x
      refine ite_true (by simp; omega) ?_
      refine call_of (ref1_at_ok x y (by omega) (by omega) _) ?_
      rintro _ _ ⟨rfl, rfl⟩
      refine asI_i ⟨⟨by omega, by omega⟩, ⟨by omega, by omega⟩, ?_⟩
      refine call_of (ref1_at_ok (x + 3 * y) x (by omega) (by omega) _) ?_
      rintro _ _ ⟨rfl, rfl⟩
      refine asI_i ⟨⟨by omega, by unfold pl at hq; omega⟩, ?_⟩
      refine H.ld64 0 (i := pl (x + 3 * y) x) rfl (ad b0 _) (by omega) ⟨⟨by omega, by unfold pl at hp; omega⟩, ?_⟩
      refine H.st64 2 (i := pl x y) (g a (pl (x + 3 * y) x)) rfl (ad b2 _) (by rw [length_piRow', length_pi']; omega) rfl fun w6 H => ⟨⟨by omega, by omega⟩, ?_⟩
      exact hag w6 (by rw [show piRow' a x (pi' a x) (y + 1) = piStep a (piRow' a x (pi' a x) y) x y from up_succ _ _ _]; exact H)
    · intro again w5 H
      refine ite_false (by simp) ⟨⟨by omega, by omega⟩, ?_⟩
      exact hag w5 (by rw [show pi' a (x + 1) = piRow' a x (pi' a x) 5 from up_succ _ _ _]; exact H)
  · intro again w4 H
    refine ite_false (by simp) ?_
    exact H.ldA64 2 rfl (length_pi' _ _) (H.stA64 1 rfl (length_pi' _ _) rfl fun w6 H => H.ldA64 1 rfl (length_pi' _ _) ⟨rfl, H.mod⟩)
def chiStep' (a b : List B64) (x y : Nat) : List B64 := b.set (pl x y) (g a (pl x y) ^^^ (~~~ g a (pl (x + 1) y) &&& g a (pl (x + 2) y)))
def chiRow' (a : List B64) (x : Nat) (b : List B64) (n : Nat) : List B64 := up (fun b y => chiStep' a b x y) b n
def chi' (a : List B64) (n : Nat) : List B64 := up (fun b x => chiRow' a x b 5) z25 n
theorem length_chiRow' (a : List B64) (y : Nat) (b : List B64) (n : Nat) : (chiRow' a y b n).length = b.length := length_up _ (fun _ _ => List.length_set) _ _
theorem length_chi' (a : List B64) (n : Nat) : (chi' a n).length = 25 := length_up _ (fun _ _ => length_chiRow' _ _ _ _) _ _
theorem ref1_Chi_ok' (a : List B64) (ha : a.length = 25) (w : World) : Ok Pr f_ref1_Chi [.agg ⟨u64s a⟩] w fun v w' => v = .agg ⟨u64s (chi' a 5)⟩ ∧ Mod [] w w' := by
  refine V_ref1_Chi_of ?_
  unfold V_ref1_Chi
  rw [zc25]
  have hc : ∀ n, (chi' a n).length = 25 := fun n => length_chi' a n
  refine (Mine.start w).nw fun b0 w1 H _ => H.nw fun b1 w2 H _ => (H.nw fun b2 w3 H _ => ?_)
  refine loop1_up 0 5 (fun x w' => Mine w [] w' [.blk b0 (u64s a) t_25_uint64, .blk b1 (u64s z25) t_25_uint64, .blk b2 (u64s (chi' a x)) t_25_uint64]) rfl (by omega) H ?_ ?_
  · intro again x w4 _ hx H hag
    refine ite_true (by simp; omega) ?_
    refine loop1_up 0 5 (fun y w' => Mine w [] w' [.blk b0 (u64s a) t_25_uint64, .blk b1 (u64s z25) t_25_uint64, .blk b2 (u64s (chiRow' a x (chi' a x) y)) t_25_uint64]) rfl (by omega) H ?_ ?_
    · intro again y w5 _ hy H hag
      have hp := pl_lt x y
      have hq := pl_lt (x + 1) y
      have hr := pl_lt (x + 2) y
      have hl : (chiRow' a x (chi' a x) y).length = 25 := by rw [length_chiRow', hc]
      refine ite_true (by simp; omega) ⟨⟨by omega, by omega⟩, ⟨by omega, by omega⟩, ?_⟩
      refine call_of (ref1_at_ok x y (by omega) (by omega) _) ?_
      rintro _ _ ⟨rfl, rfl⟩
      refine asI_i (call_of (ref1_at_ok x y (by omega) (by omega) _) ?_)
      rintro _ _ ⟨rfl, rfl⟩
      have H := H.drew
      refine asI_i ⟨⟨by omega, by unfold pl at hp; omega⟩, H.ld64 0 (i := pl x y) rfl (ad b0 _) (by omega) ?_⟩
      refine call_of (ref1_at_ok (x + 1) y (by omega) (by omega) _) ?_
      rintro _ _ ⟨rfl, rfl⟩
      refine asI_i ⟨H.kept (Mod.refl _ _) 0 rfl (ad b0 (pl x y)) 1, ⟨by omega, by unfold pl at hq; omega⟩, H.ld64 0 (i := pl (x + 1) y) rfl (ad b0 _) (by omega) ?_⟩
      refine call_of (ref1_at_ok (x + 2) y (by omega) (by omega) _) ?_
      rintro _ _ ⟨rfl, rfl⟩
      refine asI_i ⟨H.kept (Mod.refl _ _) 0 rfl (ad b0 (pl (x + 1) y)) 1, H.kept (Mod.refl _ _) 0 rfl (ad b0 (pl x y)) 1, ⟨by omega, by unfold pl at hr; omega⟩, H.ld64 0 (i := pl (x + 2) y) rfl (ad b0 _) (by omega) ⟨⟨by omega, by unfold pl at hp; omega⟩, ?_⟩⟩
      refine H.st64 2 (i := pl x y) (g a (pl x y) ^^^ (~~~ g a (pl (x + 1) y) &&& g a (pl (x + 2) y))) rfl (ad b2 _) (by omega) (by rw [not64, and64, xor64]) fun w6 H => ⟨⟨by omega, by omega⟩, ?_⟩
      exact hag w6 (by rw [show chiRow' a x (chi' a x) (y + 1) = chiStep' a (chiRow' a x (chi' a x) y) x y from up_succ _ _ _]; exact H)
    · intro again w5 H
      refine ite_false (by simp) ⟨⟨by omega, by omega⟩, ?_⟩
      exact hag w5 (by rw [show chi' a (x + 1) = chiRow' a x (chi' a x) 5 from up_succ _ _ _]; exact H)
  · intro again w4 H
    refine ite_false (by simp) ?_
    exact H.ldA64 2 rfl (hc _) (H.stA64 1 rfl (hc _) rfl fun w6 H => H.ldA64 1 rfl (hc _) ⟨rfl, H.mod⟩)
end Go.Proofs.YtdnhoebcomffoaaGreatDoor
end
section
set_option linter.unusedVariables false
set_option linter.unusedSimpArgs false
/- THE PROGRAM'S PERMUTATION IS THE DOCUMENT'S. -/
namespace Go.Proofs.YtdnhoebcomffoaaGreatDoor
open Go Go.Ev
set_option maxRecDepth 100000
theorem list25 {A : Type} : ∀ (a : List A), a.length = 25 → ∃ a0 a1 a2 a3 a4 a5 a6 a7 a8 a9 a10 a11 a12 a13 a14 a15 a16 a17 a18 a19 a20 a21 a22 a23 a24, a = [a0, a1, a2, a3, a4, a5, a6, a7, a8, a9, a10, a11, a12, a13, a14, a15, a16, a17, a18, a19, a20, a21, a22, a23, a24]
  | [a0, a1, a2, a3, a4, a5, a6, a7, a8, a9, a10, a11, a12, a13, a14, a15, a16, a17, a18, a19, a20, a21, a22, a23, a24], _ => ⟨a0, a1, a2, a3, a4, a5, a6, a7, a8, a9, a10, a11, a12, a13, a14, a15, a16, a17, a18, a19, a20, a21, a22, a23, a24, rfl⟩
def thetaStep2 (a c b : List B64) (i : Nat) : List B64 := b.set i (g a i ^^^ (g c ((i + 4) % 5) ^^^ rotl (g c ((i + 1) % 5)) 1))
theorem theta2_eq (a : List B64) (h : a.length = 25) : up (thetaStep2 a (cols a 25)) z25 25 = theta a 25 := by
  obtain ⟨a0, a1, a2, a3, a4, a5, a6, a7, a8, a9, a10, a11, a12, a13, a14, a15, a16, a17, a18, a19, a20, a21, a22, a23, a24, rfl⟩ := list25 a h
  kernel_rfl
theorem theta'_eq (a : List B64) (h : a.length = 25) : theta' a 25 = theta a 25 := by
  have e : thetaStep' a (cols a 25) = thetaStep2 a (cols a 25) := by
    funext b i
    unfold thetaStep' thetaStep2
    rw [BitVec.xor_assoc]
  unfold theta'
  rw [e]
  exact theta2_eq a h
theorem rho'_eq (a : List B64) (h : a.length = 25) : rho' a = rho a := by
  obtain ⟨a0, a1, a2, a3, a4, a5, a6, a7, a8, a9, a10, a11, a12, a13, a14, a15, a16, a17, a18, a19, a20, a21, a22, a23, a24, rfl⟩ := list25 a h
  kernel_rfl
theorem pi'_eq (a : List B64) (h : a.length = 25) : pi' a 5 = pi a 5 := by
  obtain ⟨a0, a1, a2, a3, a4, a5, a6, a7, a8, a9, a10, a11, a12, a13, a14, a15, a16, a17, a18, a19, a20, a21, a22, a23, a24, rfl⟩ := list25 a h
  kernel_rfl
theorem chi'_eq (a : List B64) (h : a.length = 25) : chi' a 5 = chi a 5 := by
  obtain ⟨a0, a1, a2, a3, a4, a5, a6, a7, a8, a9, a10, a11, a12, a13, a14, a15, a16, a17, a18, a19, a20, a21, a22, a23, a24, rfl⟩ := list25 a h
  kernel_rfl
theorem ref1_Theta_ok (a : List B64) (ha : a.length = 25) (w : World) : Ok Pr f_ref1_Theta [.agg ⟨u64s a⟩] w fun v w' => v = .agg ⟨u64s (theta a 25)⟩ ∧ Mod [] w w' := theta'_eq a ha ▸ ref1_Theta_ok' a ha w
theorem ref1_Rho_ok (a : List B64) (ha : a.length = 25) (w : World) : Ok Pr f_ref1_Rho [.agg ⟨u64s a⟩] w fun v w' => v = .agg ⟨u64s (rho a)⟩ ∧ Mod [] w w' := rho'_eq a ha ▸ ref1_Rho_ok' a ha w
theorem ref1_Pi_ok (a : List B64) (ha : a.length = 25) (w : World) : Ok Pr f_ref1_Pi [.agg ⟨u64s a⟩] w fun v w' => v = .agg ⟨u64s (pi a 5)⟩ ∧ Mod [] w w' := pi'_eq a ha ▸ ref1_Pi_ok' a ha w
theorem ref1_Chi_ok (a : List B64) (ha : a.length = 25) (w : World) : Ok Pr f_ref1_Chi [.agg ⟨u64s a⟩] w fun v w' => v = .agg ⟨u64s (chi a 5)⟩ ∧ Mod [] w w' := chi'_eq a ha ▸ ref1_Chi_ok' a ha w

/-! ### the words -/
def rcStep (r : B64) (_i : Nat) : B64 := if (r <<< 1) &&& 256 = 0 then r <<< 1 else (r <<< 1) ^^^ 256 ^^^ 1 ^^^ 16 ^^^ 32 ^^^ 64
def rcs (n : Nat) : B64 := up rcStep 1 n
def rc (t : Nat) : B64 := rcs (t % 255) &&& 1
theorem rcs_succ (n : Nat) : rcs (n + 1) = rcStep (rcs n) n := up_succ _ _ _
theorem ref1_rc_ok (t : Nat) (ht : t < 1000) (w : World) : Ok Pr f_ref1_rc [.int .i64 (t : Int)] w fun v w' => v = .int .u64 ((rc t).toNat : Int) ∧ w' = w := by
  refine V_ref1_rc_of ?_
  unfold V_ref1_rc
  refine loop2_up 0 (t % 255) (fun i r w' => r = ((rcs i).toNat : Int) ∧ w' = w) rfl (by omega) ⟨rfl, rfl⟩ ?_ ?_
  · rintro again i _ _ _ hi ⟨rfl, rfl⟩ hag
    refine ⟨by omega, ite_true (by simp; omega) ?_⟩
    have e1 : shl .u64 ((rcs i).toNat : Int) (1 : Int) = ((rcs i <<< 1).toNat : Int) := shl64 _ 1
    have e2 : andI .u64 ((rcs i <<< 1).toNat : Int) (256 : Int) = (((rcs i <<< 1) &&& 256).toNat : Int) := and64 _ 256
    rw [e1, e2]
    refine ite_intro (fun h => ?_) (fun h => ?_)
    · have h' : ¬ ((rcs i <<< 1) &&& 256 = 0) := by
        intro h0
        rw [h0] at h
        simp at h
      refine ⟨⟨by omega, by omega⟩, hag _ _ ⟨?_, rfl⟩⟩
      rw [rcs_succ, rcStep, if_neg h']
      rw [show (256 : Int) = ((256 : B64).toNat : Int) from rfl, xor64, show (1 : Int) = ((1 : B64).toNat : Int) from rfl, xor64, show (16 : Int) = ((16 : B64).toNat : Int) from rfl, xor64,
        show (32 : Int) = ((32 : B64).toNat : Int) from rfl, xor64, show (64 : Int) = ((64 : B64).toNat : Int) from rfl, xor64]
    · have h' : (rcs i <<< 1) &&& 256 = 0 := by
        simp only [Bool.not_eq_false', decide_eq_true_eq] at h
        exact BitVec.eq_of_toNat_eq (by simpa using h)
      refine ⟨⟨by omega, by omega⟩, hag _ _ ⟨?_, rfl⟩⟩
      rw [rcs_succ, rcStep, if_pos h']
  · rintro again _ _ ⟨rfl, rfl⟩
    refine ⟨by omega, ite_false (by simp) ⟨?_, rfl⟩⟩
    rw [show (1 : Int) = ((1 : B64).toNat : Int) from rfl, and64]
    rfl
def wordStep (i : Nat) (l : List B64) (j : Nat) : List B64 := l.set i (g l i ||| (rc (j + 7 * i) <<< (2 ^ j - 1)))
def wordRow (l : List B64) (i : Nat) (n : Nat) : List B64 := up (wordStep i) l n
def wordsUp (n : Nat) : List B64 := up (fun l i => wordRow l i 7) z24 n
theorem length_wordRow (l : List B64) (i n : Nat) : (wordRow l i n).length = l.length := length_up _ (fun _ _ => List.length_set) _ _
theorem length_wordsUp (n : Nat) : (wordsUp n).length = 24 := length_up _ (fun _ _ => length_wordRow _ _ _) _ _
theorem wordsUp_eq : wordsUp 24 = words := by kernel_rfl
theorem ref1_Words_ok (w : World) : Ok Pr f_ref1_Words [] w fun v w' => v = .agg ⟨u64s words⟩ ∧ Mod [] w w' := by
  refine V_ref1_Words_of ?_
  unfold V_ref1_Words
  rw [zc24]
  refine (Mine.start w).nw fun b0 w1 H _ => H.nw fun b1 w2 H _ => ?_
  refine loop1_up 0 24 (fun i w' => Mine w [] w' [.blk b0 (u64s z24) t_24_uint64, .blk b1 (u64s (wordsUp i)) t_24_uint64]) rfl (by omega) H ?_ ?_
  · intro again i w4 _ hi H hag
    refine ite_true (by simp; omega) ?_
    refine loop1_up 0 7 (fun j w' => Mine w [] w' [.blk b0 (u64s z24) t_24_uint64, .blk b1 (u64s (wordRow (wordsUp i) i j)) t_24_uint64]) rfl (by omega) H ?_ ?_
    · intro again j w5 _ hj H hag
      have hl : (wordRow (wordsUp i) i j).length = 24 := by rw [length_wordRow, length_wordsUp]
      refine ite_true (by simp; omega) ⟨⟨by omega, by omega⟩, H.drew.ld64 1 (i := i) rfl (ad b1 _) (by omega) ⟨⟨by omega, by omega⟩, ⟨by omega, by omega⟩, ?_⟩⟩
      show callK _ _ _ _ _
      refine call_of (ref1_rc_ok (j + 7 * i) (by omega) _) ?_
      rintro _ _ ⟨rfl, rfl⟩
      have es : shl .u64 (1 : Int) (j : Int) = ((2 ^ j : Nat) : Int) := by
        have := shl64 1 j
        rw [show ((1 : B64).toNat : Int) = 1 from rfl] at this
        rw [this]
        congr 1
        rcases j with _ | _ | _ | _ | _ | _ | _ | j <;> first | rfl | omega
      have hpow : 1 ≤ 2 ^ j ∧ 2 ^ j ≤ 64 := ⟨Nat.one_le_two_pow, (Nat.pow_le_pow_right (by omega) (show j ≤ 6 by omega) : 2 ^ j ≤ 2 ^ 6)⟩
      have e1 : IntKind.wrap .u64 (((2 ^ j : Nat) : Int) - 1) = ((2 ^ j - 1 : Nat) : Int) := by rw [wrap_u64]; omega
      rw [es, e1]
      refine asI_i ⟨H.drew.kept (Mod.refl _ _) 1 rfl (ad b1 i) 1, ?_⟩
      show idx _ _ _
      refine ⟨⟨by omega, by omega⟩, H.drew.st64 1 (i := i) (g (wordRow (wordsUp i) i j) i ||| (rc (j + 7 * i) <<< (2 ^ j - 1))) rfl (ad b1 _) (by omega) (by rw [shl64, or64]) fun w6 H => ⟨⟨by omega, by omega⟩, ?_⟩⟩
      exact hag w6 (by rw [show wordRow (wordsUp i) i (j + 1) = wordStep i (wordRow (wordsUp i) i j) j from up_succ _ _ _]; exact H)
    · intro again w5 H
      refine ite_false (by simp) ⟨⟨by omega, by omega⟩, ?_⟩
      exact hag w5 (by rw [show wordsUp (i + 1) = wordRow (wordsUp i) i 7 from up_succ _ _ _]; exact H)
  · intro again w4 H
    rw [wordsUp_eq] at H
    refine ite_false (by simp) ?_
    refine H.ldA64 1 rfl rfl ?_
    refine H.stA64 0 rfl rfl rfl fun w6 H => ?_
    exact H.ldA64 0 rfl rfl ⟨rfl, H.mod⟩
theorem ref1_With_ok (a : List B64) (ha : a.length = 25) (w : World) : Ok Pr f_ref1_With [.agg ⟨u64s a⟩, .agg ⟨u64s words⟩] w fun v w' => v = .agg ⟨u64s (perm a)⟩ ∧ Mod [] w w' := by
  refine V_ref1_With_of ?_
  unfold V_ref1_With
  rw [zc25]
  have hl := length_perms a ha
  refine (Mine.start w).nw fun b0 w1 H _ => H.nw fun b1 w2 H _ => H.nw fun b2 w3 H _ => ?_
  refine loop1_up 0 24 (fun i w' => Mine w [] w' [.blk b0 (u64s (perms a i)) t_25_uint64, .blk b1 (u64s words) t_24_uint64, .blk b2 (u64s z25) t_25_uint64]) rfl (by omega) H ?_ ?_
  · intro again i w3 _ hi H hag
    have h0 := hl i
    have h1 : (theta (perms a i) 25).length = 25 := (length_theta _ _).trans h0
    have h2 : (rho (theta (perms a i) 25)).length = 25 := (length_rho _).trans h1
    have h3 : (pi (rho (theta (perms a i) 25)) 5).length = 25 := length_pi _ _
    have h4 : (chi (pi (rho (theta (perms a i) 25)) 5) 5).length = 25 := (length_chi _ _).trans h3
    refine ite_true (by simp; omega) (H.ldA64 0 rfl h0 ?_)
    refine call_of (ref1_Theta_ok _ h0 _) ?_
    rintro _ w3 ⟨rfl, m⟩
    have H := H.frame m
    refine asArr_u64s (call_of (ref1_Rho_ok _ h1 _) ?_)
    rintro _ w4 ⟨rfl, m⟩
    have H := H.frame m
    refine asArr_u64s (call_of (ref1_Pi_ok _ h2 _) ?_)
    rintro _ w5 ⟨rfl, m⟩
    have H := H.frame m
    refine asArr_u64s (call_of (ref1_Chi_ok _ h3 _) ?_)
    rintro _ w6 ⟨rfl, m⟩
    have H := H.frame m
    refine asArr_u64s (H.stA64 0 rfl h4 h0 fun w7 H => ?_)
    refine ⟨⟨by omega, by omega⟩, H.drew.ld64 0 (i := 0) rfl (ad b0 _) (by omega) ⟨⟨by omega, by omega⟩, H.drew.ld64 1 (i := i) rfl (ad b1 _) (by show i < 24; omega) ⟨⟨by omega, by omega⟩, ?_⟩⟩⟩
    refine H.drew.st64 0 (i := 0) (g (chi (pi (rho (theta (perms a i) 25)) 5) 5) 0 ^^^ g words i) rfl (ad b0 _) (by omega) (xor64 _ _) fun w5 H => ⟨⟨by omega, by omega⟩, ?_⟩
    exact hag w5 (by rw [perms_succ]; exact H)
  · intro again w3 H
    have hp := hl 24
    rw [perm_eq] at H hp
    refine ite_false (by simp) ?_
    refine H.ldA64 0 rfl hp ?_
    refine H.stA64 2 rfl hp rfl fun w6 H => ?_
    refine H.ldA64 2 rfl hp ?_
    exact ⟨rfl, H.mod⟩
end Go.Proofs.YtdnhoebcomffoaaGreatDoor
end
section
set_option linter.unusedVariables false
set_option linter.unusedSimpArgs false
/- ROWS: made, lengthened, written, read: words of this claim's author. -/
namespace Go.Ev
open Go Go.RowKit

variable {P : Program}
theorem nc {a : Addr} {K : Addr → Prop} (h : K a) : nilchk (some a) K := h
theorem ifn_iface {t : TypeId} {v : Value} {K : Bool → Prop} (h : K false) : ifaceNil (.iface t v) K := h
theorem ifn_nil {K : Bool → Prop} (h : K true) : ifaceNil .nilIface K := h
theorem cnt_of {y : Int} {A : Prop} (h : 0 ≤ y) (hA : A) : cnt y A := by
  unfold cnt; split
  · exact hA
  · exact ⟨h, hA⟩
theorem pos_of {y : Int} {A : Prop} (h : 0 < y) (hA : A) : pos y A := by
  unfold pos; split
  · exact hA
  · exact ⟨h, hA⟩
/-- a part that is let go -/
def Res.no : Res where
  fp := []
  ok _ := True
  stab _ _ _ _ := trivial
  lt _ _ b hb := by cases hb
section
variable {w0 w : World} {S : List Nat} {L : List Res}
theorem Mine.let_go (H : Mine w0 S w L) (k : Nat) {r : Res} (hk : L[k]? = some r) : Mine w0 S w (L.set k .no) :=
  H.upd (T := []) k hk (Mod.refl _ _) (fun b hb => by cases hb) trivial fun b hb => by cases hb
/-- what is handed out was not there before -/
theorem Mine.fresh (H : Mine w0 S w L) (k : Nat) {e : TypeId} {sz : Nat} {s : SlV} {vs : List Value} (hk : L[k]? = some (.row e sz s vs)) (hS : ∀ b ∈ s.row, b ∉ S) : Own w w0.heap.size e sz s vs := by
  obtain ⟨hl, h1 | ⟨g, cap, cur, h1, h2, h3⟩⟩ := H.own' k hk
  · exact ⟨hl, .inl h1⟩
  · refine ⟨hl, .inr ⟨g, cap, cur, h1, ?_, h3⟩⟩
    have hg : g ∈ s.row := by
      obtain ⟨a, n, c⟩ := s
      simp only [SlV.v, Value.slice.injEq] at h1
      obtain ⟨rfl, -⟩ := h1
      simp [SlV.row]
    exact (H.own k _ hk g hg).resolve_left (hS g hg)
theorem Mine.fresh0 (H : Mine w0 [] w L) (k : Nat) {e : TypeId} {sz : Nat} {s : SlV} {vs : List Value} (hk : L[k]? = some (.row e sz s vs)) : Own w w0.heap.size e sz s vs := H.fresh k hk (fun b _ => by simp)
/-- what a call handed out -/
theorem Mine.got {w' : World} (H : Mine w0 S w L) (m : Mod [] w w') {e : TypeId} {sz : Nat} {s : SlV} {vs : List Value} (h : Own w' w.heap.size e sz s vs) : Mine w0 S w' (L ++ [.row e sz s vs]) :=
  H.push m h.lo fun b hb => (Own.row_ge h b hb).1
theorem Mine.gotblk {w' : World} (H : Mine w0 S w L) (m : Mod [] w w') {b : Nat} {cs : List Value} {t : TypeId} (h : Blk w' b cs t) (hb : w.heap.size ≤ b) : Mine w0 S w' (L ++ [.blk b cs t]) :=
  H.push m h (by simp [Res.blk, hb])
theorem Mine.rowSl (H : Mine w0 S w L) (k : Nat) {e : TypeId} {sz : Nat} {s : SlV} {vs : List Value} (hk : L[k]? = some (.row e sz s vs)) : Sl w s sz vs := (H.own' k hk).sl
theorem Blk.sl {b : Nat} {cs : List Value} {t : TypeId} (h : Blk w b cs t) (sz n c : Nat) (hn : n * sz ≤ cs.length) (hc : n ≤ c) : Sl w ⟨some ⟨b, 0, none⟩, n, c⟩ sz (cs.take (n * sz)) := by
  refine ⟨by simp only [List.length_take]; omega, hc, fun _ => rfl, fun i v hv => ?_⟩
  show w.cell? (Addr.add ⟨b, 0, none⟩ i) = some v
  rw [ad1, h.cell]
  rw [List.getElem?_take] at hv
  split at hv
  · exact hv
  · cases hv
theorem Blk.own {b : Nat} {cs : List Value} {t : TypeId} (h : Blk w b cs t) (sz n c : Nat) (hl : cs.length = c * sz) (hc : n ≤ c) (hm : c ≤ maxLen) : Own w 0 t sz ⟨some ⟨b, 0, none⟩, n, c⟩ (cs.take (n * sz)) := by
  have := Nat.mul_le_mul_right sz hc
  exact ⟨by simp only [List.length_take]; omega, .inr ⟨b, c, ⟨cs⟩, rfl, Nat.zero_le _, h, hc, hm, hl, rfl⟩⟩
/-- a block as a row -/
theorem Mine.asRow (H : Mine w0 S w L) (k : Nat) {b : Nat} {cs : List Value} {t : TypeId} (sz n c : Nat) (hk : L[k]? = some (.blk b cs t)) (hl : cs.length = c * sz) (hc : n ≤ c) (hm : c ≤ maxLen) :
    Mine w0 S w (L.set k (.row t sz ⟨some ⟨b, 0, none⟩, n, c⟩ (cs.take (n * sz)))) :=
  H.upd (T := []) k hk (Mod.refl _ _) (fun b hb => by cases hb) ((H.blk k hk).own sz n c hl hc hm) fun b hb => .inl hb
/-- an element is appended -/
theorem Mine.app1 (H : Mine w0 S w L) (k : Nat) {t ty e t1 : TypeId} {sz bytes : Nat} {s : SlV} {vs us : List Value} {K : SlV → World → Prop} (hel : Elt P t e sz bytes) (hk : L[k]? = some (.row e sz s vs)) (hl : us.length = sz)
    (h1 : ∀ u ∈ us, isOne u = true) (hb : (s.n + 1) * bytes ≤ 140737488355328) (hm : s.n + 1 ≤ 9223372036854775807)
    (h : ∀ s' w', Mine w0 S w' (L.set k (.row e sz s' (vs ++ us))) → s'.n = s.n + 1 → K s' w') : Ev.nw t1 us w fun p w5 => appK P [t, t] ty [.slice s.a s.n s.c, .slice (some p) 1 1] w5 K := by
  refine H.nw fun b w5 H5 _ => ?_
  have hkl : k < L.length := (List.getElem?_eq_some_iff.1 hk).1
  have hk5 : (L ++ [Res.blk b us t1])[k]? = some (.row e sz s vs) := by rw [List.getElem?_append_left hkl]; exact hk
  have hb5 := H5.blk (cs := us) (b := b) (t := t1) L.length (by simp)
  have hsl := hb5.sl sz 1 1 (by omega) (Nat.le_refl _)
  rw [Nat.one_mul, ← hl, List.take_length] at hsl
  subst hl
  refine H5.app (x := ⟨some ⟨b, 0, none⟩, 1, 1⟩) k hel hk5 hsl h1 hb hm fun s' w' H' hn => h s' w' ?_ hn
  have := H'.take L.length
  rw [List.set_append_left _ _ hkl, List.take_append_of_le_length (by simp), List.take_of_length_le (by simp)] at this
  exact this
theorem Mine.stRow (H : Mine w0 S w L) (k : Nat) {e : TypeId} {sz : Nat} {s : SlV} {vs : List Value} {i : Nat} {a : Addr} {v : Value} {K : World → Prop} (hk : L[k]? = some (.row e sz s vs)) (ha : a = Addr.add (base s.a) i) (hi : i < vs.length) (h1 : isOne v = true)
    (h : ∀ w', Mine w0 S w' (L.set k (.row e sz s (vs.set i v))) → K w') : Ev.st a v w K := by
  subst ha
  have ho := H.own' k hk
  obtain ⟨sa, sn, sc⟩ := s
  obtain ⟨hl, hv | ⟨g, cap, cur, hv, h2, hg, hnc, hcm, hcs, htake⟩⟩ := ho
  · rw [hv.2] at hl; omega
  · simp only [SlV.v, Value.slice.injEq] at hv
    obtain ⟨rfl, -, rfl⟩ := hv
    have hblk : Blk w g cur.toList e := hg
    have hic : i < cur.toList.length := by
      have : vs.length ≤ cur.toList.length := by rw [← htake, List.length_take]; exact Nat.min_le_right _ _
      omega
    show Ev.st (Addr.add ⟨g, 0, none⟩ i) v w K
    rw [ad1]
    refine st_blk hblk hic h1 fun w' h3 h4 _ => h w' (H.upd k hk h4 (fun b hb => .inl (by simpa [Res.row, SlV.row] using hb)) ?_ fun b hb => .inl hb)
    refine ⟨by simpa using hl, .inr ⟨g, sc, ⟨cur.toList.set i v⟩, rfl, h2, h3, hnc, hcm, by simpa using hcs, ?_⟩⟩
    show (cur.toList.set i v).take (sn * sz) = vs.set i v
    rw [← htake, List.take_set]
/-- the first cells of a block -/
theorem Mine.ldAp (H : Mine w0 S w L) (k : Nat) {b n : Nat} {a : Addr} {cs : List Value} {t : TypeId} {K : List Value → Prop} (hk : L[k]? = some (.blk b cs t)) (ha : a = ⟨b, 0, none⟩) (hn : n ≤ cs.length) (h : K (cs.take n)) : Ev.ldA n a w K := by
  subst ha; exact ldA_blk (H.blk k hk) hn h
theorem Mine.stAp (H : Mine w0 S w L) (k : Nat) {b n : Nat} {a : Addr} {l cs : List Value} {t : TypeId} {K : World → Prop} (hk : L[k]? = some (.blk b cs t)) (ha : a = ⟨b, 0, none⟩) (hl : l.length = n) (hn : n ≤ cs.length) (h1 : ∀ v ∈ l, isOne v = true)
    (h : ∀ w', Mine w0 S w' (L.set k (.blk b (l ++ cs.drop n) t)) → K w') : Ev.stA n a l w K := by
  subst ha
  exact stA_blk (H.blk k hk) hl hn h1 fun w' h2 h3 _ => h w' (H.upd k hk h3 (fun c hc => .inl hc) h2 (fun c hc => .inl hc))
/-- 'make' -/
theorem Mine.mkS (H : Mine w0 S w L) {t e : TypeId} {sz bytes : Nat} {l c : Nat} {x y : Int} {K : SlV → World → Prop} (hel : Elt P t e sz bytes) (hx : x = (l : Int)) (hy : y = (c : Int)) (hlc : l ≤ c) (hc : c ≤ 9223372036854775807) (hb : bytes * c ≤ 281474976710656)
    (h : ∀ b w', Mine w0 S w' (L ++ [.row e sz ⟨some ⟨b, 0, none⟩, l, c⟩ ((zeroRow c (zc P e)).take (l * sz))]) → w0.heap.size ≤ b → K ⟨some ⟨b, 0, none⟩, l, c⟩ w') : mkSl P e x y w K := by
  subst hx hy
  obtain ⟨i, z, hi, hz, hsz, hby, hzs⟩ := hel.info
  have hbytes : bytesOf P e = bytes := by unfold bytesOf; rw [hi]; exact hby
  have hzc : zc P e = z.cells.toList := by unfold zc; rw [hi]; simp only [hz]
  have hzl : (zc P e).length = sz := by rw [hzc]; simpa using hzs
  have hrow : (zeroRow c (zc P e)).length = c * sz := by
    unfold zeroRow
    rw [List.length_flatten, List.map_replicate, List.sum_replicate_nat, hzl]
  refine ⟨⟨by omega, by omega, by omega, ?_⟩, ?_⟩
  · rw [hbytes]
    have h1 : ((bytes : Int) * (c : Int)) = ((bytes * c : Nat) : Int) := by rw [Int.natCast_mul]
    have h2 : (2 ^ 48 : Int) = 281474976710656 := by decide
    rw [h1, h2]
    omega
  · simp only [Int.toNat_natCast]
    have hm : Mod [] w (w.alloc (.cells ⟨zeroRow c (zc P e)⟩ e)) := Mod.alloc _ _ _
    refine h w.heap.size _ (H.push hm ?_ (by simp [Res.row, SlV.row])) H.mod.size
    exact (Blk.new w (zeroRow c (zc P e)) e).own sz l c hrow hlc (by simp only [maxLen]; omega)
end

/-! ### what is read alone -/
theorem Bytes.mod {w w' : World} {s : SlV} {l : List B8} (h : Bytes w s l) {S : List Nat} (m : Mod S w w') (ho : off S s) : Bytes w' s l := Sl.mod h m ho
theorem Bytes.mod0 {w w' : World} {s : SlV} {l : List B8} (h : Bytes w s l) (m : Mod [] w w') : Bytes w' s l := Sl.mod0 h m
/-- lists of bytes in a slice -/
structure Parts (w : World) (S : List Nat) (s : SlV) (ls : List (List B8)) : Prop where
  ex : ∃ ss : List SlV, Sl w s 1 (ss.map SlV.v) ∧ off S s ∧ ss.length = ls.length ∧ ∀ (i : Nat) (x : SlV) (l : List B8), ss[i]? = some x → ls[i]? = some l → Bytes w x l ∧ off S x
theorem Parts.mod {w w' : World} {S : List Nat} {s : SlV} {ls : List (List B8)} (h : Parts w S s ls) (m : Mod S w w') : Parts w' S s ls := by
  obtain ⟨ss, h1, h2, h3, h4⟩ := h.ex
  exact ⟨ss, h1.mod m h2, h2, h3, fun i x l hx hl => ⟨(h4 i x l hx hl).1.mod m (h4 i x l hx hl).2, (h4 i x l hx hl).2⟩⟩
/-- new blocks lie apart -/
theorem Parts.new {w : World} {S T : List Nat} {s : SlV} {ls : List (List B8)} (h : Parts w S s ls) (hT : ∀ b ∈ T, b ∈ S ∨ w.heap.size ≤ b) : Parts w T s ls := by
  obtain ⟨ss, h1, h2, h3, h4⟩ := h.ex
  have key : ∀ {x : SlV} {vs : List Value}, Sl w x 1 vs → off S x → off T x := fun {x vs} k1 k2 h0 a ha hb => by
    rcases hT _ hb with h | h
    · exact k2 h0 a ha h
    · have := k1.block (by omega) h0 ha; omega
  exact ⟨ss, h1, key h1 h2, h3, fun i x l hx hl => ⟨(h4 i x l hx hl).1, key (h4 i x l hx hl).1 (h4 i x l hx hl).2⟩⟩
theorem Parts.len {w : World} {S : List Nat} {s : SlV} {ls : List (List B8)} (h : Parts w S s ls) : s.n = ls.length := by
  obtain ⟨ss, h1, h2, h3, h4⟩ := h.ex
  have := h1.len
  simp only [List.length_map] at this
  omega
/-- a part is read -/
theorem Parts.ld {w : World} {S : List Nat} {s : SlV} {ls : List (List B8)} (h : Parts w S s ls) {i : Nat} (hi : i < ls.length) {K : SlV → Prop} (hk : ∀ x, Bytes w x (ls.getD i []) → off S x → K x) :
    idxS s.a (i : Int) s.n (ldL (Addr.add (base s.a) (Int.toNat (i : Int) * 1)) w K) := by
  have hn := h.len
  obtain ⟨ss, h1, h2, h3, h4⟩ := h.ex
  refine ⟨⟨h1.pre (by omega), by omega, by omega⟩, ss[i]'(by omega), ?_, ?_⟩
  · rw [Int.toNat_natCast, Nat.mul_one]
    exact h1.cell i _ (by simp [show i < ss.length by omega, SlV.v])
  · have := h4 i (ss[i]'(by omega)) (ls.getD i []) (by simp [show i < ss.length by omega]) (by simp [hi])
    exact hk _ this.1 this.2
/-- a slice of one, or two, slices that was made for a call -/
theorem Parts.of1 {w : World} {S : List Nat} {b : Nat} {x : SlV} {l : List B8} {t : TypeId} (h : Blk w b [x.v] t) (hb : b ∉ S) (hx : Bytes w x l) (ho : off S x) : Parts w S ⟨some ⟨b, 0, none⟩, 1, 1⟩ [l] :=
  ⟨[x], by simpa using h.sl 1 1 1 (by simp) (by omega), fun _ a ha => by simp only [Option.some.injEq] at ha; subst ha; exact hb, rfl, fun i y m hy hm => by
    cases i with
    | zero =>
      simp only [List.getElem?_cons_zero, Option.some.injEq] at hy hm
      subst hy hm; exact ⟨hx, ho⟩
    | succ i => simp at hy⟩
theorem Bytes.nil (w : World) : Bytes w ⟨none, 0, 0⟩ [] := Sl.nil w 1
theorem Own.bytes {w : World} {lo : Nat} {e : TypeId} {s : SlV} {l : List B8} (h : Own w lo e 1 s (u8s l)) : Bytes w s l := h.sl
/-! ### slices of slices -/
/-- x lies within s -/
def Within (x s : SlV) : Prop := x.n ≤ s.n ∧ ∀ a, x.a = some a → ∃ a0, s.a = some a0 ∧ a.block = a0.block
theorem Sl.part {w : World} {s : SlV} {sz : Nat} {vs : List Value} (h : Sl w s sz vs) (hsz : 0 < sz) (l k : Nat) (hlk : l ≤ k) (hk : k ≤ s.n) : Sl w ⟨sub s.a l s.c sz, k - l, s.c - l⟩ sz ((vs.drop (l * sz)).take ((k - l) * sz)) := by
  have hl := h.len
  have hc := h.cap
  have e1 : k * sz ≤ s.n * sz := Nat.mul_le_mul_right _ hk
  have e2 : (k - l) * sz = k * sz - l * sz := Nat.sub_mul _ _ _
  have e3 : l * sz ≤ k * sz := Nat.mul_le_mul_right _ hlk
  refine ⟨by simp only [List.length_take, List.length_drop]; omega, by show k - l ≤ s.c - l; omega, fun h0 => ?_, fun i v hv => ?_⟩
  · have h0 : 0 < k - l := h0
    have := h.pre (by omega)
    unfold sub; split
    · exact this
    · simpa using this
  · rw [List.getElem?_take] at hv
    split at hv
    · rename_i hi
      rw [List.getElem?_drop] at hv
      have h1 := h.cell _ v hv
      have hkl : l < k := by
        rcases Nat.lt_or_ge l k with h | h
        · exact h
        · rw [show k - l = 0 by omega, Nat.zero_mul] at hi; omega
      obtain ⟨a, ha⟩ := Option.isSome_iff_exists.1 (h.pre (by omega))
      have hne : ¬ s.c = l := by omega
      have hb : base s.a = a := by rw [ha]; rfl
      unfold sub
      rw [if_neg hne, ha]
      show w.cell? ((a.add (l * sz)).add i) = some v
      rw [add_add, ← hb]
      exact h1
    · cases hv
theorem Within.part (s : SlV) (l m sz n c : Nat) (hn : n ≤ s.n) : Within ⟨sub s.a l m sz, n, c⟩ s := by
  refine ⟨hn, fun a ha => ?_⟩
  unfold sub at ha
  simp only at ha
  split at ha
  · exact ⟨a, ha, rfl⟩
  · cases hs : s.a with
    | none => rw [hs] at ha; cases ha
    | some a0 =>
      rw [hs] at ha
      simp only [Option.map_some, Option.some.injEq] at ha
      subst ha
      exact ⟨a0, rfl, add_block _ _⟩
theorem Sl.lh {w : World} {s : SlV} {sz : Nat} {vs : List Value} {K : SlV → Prop} (h : Sl w s sz vs) (hsz : 0 < sz) (l k : Nat) {x y : Int} (hx : x = (l : Int)) (hy : y = (k : Int)) (hlk : l ≤ k) (hk : k ≤ s.n)
    (hK : ∀ z : SlV, z.n = k - l → Sl w z sz ((vs.drop (l * sz)).take ((k - l) * sz)) → Within z s → K z) : slLH sz s x y K := by
  subst hx hy
  have hc := h.cap
  refine ⟨⟨by omega, by omega, by omega⟩, ?_⟩
  simp only [Int.toNat_natCast]
  exact hK _ rfl (h.part hsz l k hlk hk) (Within.part _ _ _ _ _ _ (by omega))
theorem Sl.l {w : World} {s : SlV} {sz : Nat} {vs : List Value} {K : SlV → Prop} (h : Sl w s sz vs) (hsz : 0 < sz) (l : Nat) {x : Int} (hx : x = (l : Int)) (hl : l ≤ s.n)
    (hK : ∀ z : SlV, z.n = s.n - l → Sl w z sz (vs.drop (l * sz)) → Within z s → K z) : slL sz s x K := by
  subst hx
  refine ⟨⟨by omega, by omega⟩, ?_⟩
  simp only [Int.toNat_natCast]
  have := h.part hsz l s.n hl (Nat.le_refl _)
  rw [List.take_of_length_le (by rw [List.length_drop, h.len, Nat.sub_mul]; exact Nat.le_refl _)] at this
  exact hK _ rfl this (Within.part _ _ _ _ _ _ (by omega))
theorem Sl.h {w : World} {s : SlV} {sz : Nat} {vs : List Value} {K : SlV → Prop} (h : Sl w s sz vs) (k : Nat) {y : Int} (hy : y = (k : Int)) (hk : k ≤ s.n)
    (hK : ∀ z : SlV, z.n = k → Sl w z sz (vs.take (k * sz)) → Within z s → K z) : slH s y K := by
  subst hy
  have hc := h.cap
  refine ⟨⟨by omega, by omega⟩, ?_⟩
  simp only [Int.toNat_natCast]
  have e1 : k * sz ≤ s.n * sz := Nat.mul_le_mul_right _ hk
  refine hK ⟨s.a, k, s.c⟩ rfl ⟨by rw [List.length_take, h.len]; show min (k * sz) (s.n * sz) = k * sz; omega, by show k ≤ s.c; omega, fun h0 => h.pre (Nat.lt_of_lt_of_le h0 hk), fun i v hv => ?_⟩ ⟨hk, fun a ha => ⟨a, ha, rfl⟩⟩
  rw [List.getElem?_take] at hv
  split at hv
  · exact h.cell i v hv
  · cases hv
theorem u8s_take (l : List B8) (n : Nat) : (u8s l).take n = u8s (l.take n) := by simp [u8s, List.map_take]
theorem u8s_drop (l : List B8) (n : Nat) : (u8s l).drop n = u8s (l.drop n) := by simp [u8s, List.map_drop]
theorem u8s_set (l : List B8) (i : Nat) (b : B8) : (u8s l).set i (.int .u8 (b.toNat : Int)) = u8s (l.set i b) := by simp [u8s, u8, List.map_set]
theorem Bytes.lh {w : World} {s : SlV} {bs : List B8} {K : SlV → Prop} (h : Bytes w s bs) (l k : Nat) {x y : Int} (hx : x = (l : Int)) (hy : y = (k : Int)) (hlk : l ≤ k) (hk : k ≤ s.n)
    (hK : ∀ z : SlV, z.n = k - l → Bytes w z ((bs.drop l).take (k - l)) → Within z s → K z) : slLH 1 s x y K :=
  Sl.lh h (by omega) l k hx hy hlk hk fun z h1 h2 h3 => hK z h1 (by simp only [Nat.mul_one, u8s_drop, u8s_take] at h2; exact h2) h3
theorem Bytes.l {w : World} {s : SlV} {bs : List B8} {K : SlV → Prop} (h : Bytes w s bs) (l : Nat) {x : Int} (hx : x = (l : Int)) (hl : l ≤ s.n)
    (hK : ∀ z : SlV, z.n = s.n - l → Bytes w z (bs.drop l) → Within z s → K z) : slL 1 s x K :=
  Sl.l h (by omega) l hx hl fun z h1 h2 h3 => hK z h1 (by simp only [Nat.mul_one, u8s_drop] at h2; exact h2) h3
theorem Bytes.h {w : World} {s : SlV} {bs : List B8} {K : SlV → Prop} (h : Bytes w s bs) (k : Nat) {y : Int} (hy : y = (k : Int)) (hk : k ≤ s.n)
    (hK : ∀ z : SlV, z.n = k → Bytes w z (bs.take k) → Within z s → K z) : slH s y K :=
  Sl.h h k hy hk fun z h1 h2 h3 => hK z h1 (by simp only [Nat.mul_one, u8s_take] at h2; exact h2) h3
/-- an own row of bytes -/
theorem Mine.st8 {w0 w : World} {S : List Nat} {L : List Res} (H : Mine w0 S w L) (k : Nat) {e : TypeId} {s : SlV} {bs : List B8} {i : Nat} {a : Addr} {n : Int} {K : World → Prop} (x : B8) (hk : L[k]? = some (.row e 1 s (u8s bs))) (ha : a = Addr.add (base s.a) i) (hi : i < bs.length) (hn : n = (x.toNat : Int))
    (h : ∀ w', Mine w0 S w' (L.set k (.row e 1 s (u8s (bs.set i x)))) → K w') : Ev.st a (.int .u8 n) w K := by
  subst hn
  refine H.stRow k hk ha (by simpa using hi) rfl fun w' H' => h w' ?_
  rw [← u8s_set]; exact H'
theorem Mine.bytes {w0 w : World} {S : List Nat} {L : List Res} (H : Mine w0 S w L) (k : Nat) {e : TypeId} {s : SlV} {bs : List B8} (hk : L[k]? = some (.row e 1 s (u8s bs))) : Bytes w s bs := H.rowSl k hk
theorem Bytes.some {w : World} {s : SlV} {bs : List B8} (h : Bytes w s bs) (h0 : 0 < s.n) : s.a.isSome = true := h.pre h0
/-- bytes are appended -/
theorem Mine.app8 {P : Program} {w0 w : World} {S : List Nat} {L : List Res} (H : Mine w0 S w L) (k : Nat) {t ty e : TypeId} {s x : SlV} {vs us : List B8} {K : SlV → World → Prop} (hel : Elt P t e 1 1) (hk : L[k]? = some (.row e 1 s (u8s vs))) (hx : Bytes w x us)
    (hm : s.n + x.n ≤ 100000000000000) (h : ∀ s' w', Mine w0 S w' (L.set k (.row e 1 s' (u8s (vs ++ us)))) → s'.n = s.n + x.n → K s' w') : appK P [t, t] ty [.slice s.a s.n s.c, .slice x.a x.n x.c] w K :=
  H.app k hel hk hx (ones_u8s us) (by omega) (by omega) fun s' w' H' hn => h s' w' (by rw [u8s_append]; exact H') hn
theorem Mine.app8one {P : Program} {w0 w : World} {S : List Nat} {L : List Res} (H : Mine w0 S w L) (k : Nat) {t ty e t1 : TypeId} {s : SlV} {vs : List B8} {n : Int} {K : SlV → World → Prop} (x : B8) (hel : Elt P t e 1 1) (hk : L[k]? = some (.row e 1 s (u8s vs))) (hn : n = (x.toNat : Int))
    (hm : s.n ≤ 100000000000000) (h : ∀ s' w', Mine w0 S w' (L.set k (.row e 1 s' (u8s (vs ++ [x])))) → s'.n = s.n + 1 → K s' w') : Ev.nw t1 [.int .u8 n] w fun p w5 => appK P [t, t] ty [.slice s.a s.n s.c, .slice (some p) 1 1] w5 K := by
  subst hn
  exact H.app1 k hel hk rfl (by simp [isOne]) (by omega) (by omega) fun s' w' H' hn => h s' w' (by rw [u8s_append]; exact H') hn

/-! ### a block that is filled by hand -/
end Go.Ev
end
section
set_option linter.unusedVariables false
set_option linter.unusedSimpArgs false
/- THE SPONGE: what each function computes. -/
namespace Go.Proofs.YtdnhoebcomffoaaGreatDoor
open Go Go.Ev
theorem elt_u8 : Elt Pr t_s_uint8 t_uint8 1 1 := Elt.of (by kernel_rfl)
theorem maxi64 : IntKind.max .i64 = 9223372036854775807 := by decide
def tail4 (rate at_ : Nat) (suf : B8) (gives : Bool) : List Value := [.int .i64 (rate : Int), .int .u8 (suf.toNat : Int), .int .i64 (at_ : Int), .bool gives]
/-- the cells of a sponge -/
def spc (ws : List B64) (rate at_ : Nat) (suf : B8) (gives : Bool) : List Value := u64s ws ++ tail4 rate at_ suf gives
def flip (ws : List B64) (i : Nat) (b : B8) : List B64 := ws.set (i / 8) (g ws (i / 8) ^^^ (b.setWidth 64 <<< (8 * (i % 8))))
theorem length_flip (ws : List B64) (i : Nat) (b : B8) : (flip ws i b).length = ws.length := by simp [flip]
theorem ad0 (b i : Nat) : Addr.add (Addr.add ⟨b, 0, none⟩ 0) (i * 1) = ⟨b, i, none⟩ := by rw [add_mk, ad]
theorem ad00 (b : Nat) : Addr.add ⟨b, 0, none⟩ 0 = ⟨b, 0, none⟩ := add_mk _ _ _
section
variable {ws : List B64} {rate at_ : Nat} {suf : B8} {gives : Bool}
theorem spc_word (hws : ws.length = 25) (i : Nat) (hi : i < 25) : (spc ws rate at_ suf gives)[i]? = some (.int .u64 ((g ws i).toNat : Int)) := by
  unfold spc
  rw [List.getElem?_append_left (by simp; omega)]
  exact u64s_get ws i (by omega)
theorem spc_rate (hws : ws.length = 25) : (spc ws rate at_ suf gives)[25]? = some (.int .i64 (rate : Int)) := by
  unfold spc; rw [List.getElem?_append_right (by simp; omega), length_u64s, hws]; rfl
theorem spc_suf (hws : ws.length = 25) : (spc ws rate at_ suf gives)[26]? = some (.int .u8 (suf.toNat : Int)) := by
  unfold spc; rw [List.getElem?_append_right (by simp; omega), length_u64s, hws]; rfl
theorem spc_at (hws : ws.length = 25) : (spc ws rate at_ suf gives)[27]? = some (.int .i64 (at_ : Int)) := by
  unfold spc; rw [List.getElem?_append_right (by simp; omega), length_u64s, hws]; rfl
theorem spc_gives (hws : ws.length = 25) : (spc ws rate at_ suf gives)[28]? = some (.bool gives) := by
  unfold spc; rw [List.getElem?_append_right (by simp; omega), length_u64s, hws]; rfl
theorem length_spc (hws : ws.length = 25) : (spc ws rate at_ suf gives).length = 29 := by simp [spc, tail4, hws]
theorem spc_set_at (hws : ws.length = 25) (n : Nat) : (spc ws rate at_ suf gives).set 27 (.int .i64 (n : Int)) = spc ws rate n suf gives := by
  unfold spc; rw [List.set_append_right _ _ (by simp; omega), length_u64s, hws]; rfl
theorem spc_set_gives (hws : ws.length = 25) (b : Bool) : (spc ws rate at_ suf gives).set 28 (.bool b) = spc ws rate at_ suf b := by
  unfold spc; rw [List.set_append_right _ _ (by simp; omega), length_u64s, hws]; rfl
theorem spc_set_word (hws : ws.length = 25) (i : Nat) (x : B64) (hi : i < 25) : (spc ws rate at_ suf gives).set i (.int .u64 (x.toNat : Int)) = spc (ws.set i x) rate at_ suf gives := by
  unfold spc; rw [List.set_append_left _ _ (by simp; omega), ← u64s_set]; rfl
theorem spc_take (hws : ws.length = 25) : (spc ws rate at_ suf gives).take 25 = u64s ws := by
  unfold spc; rw [List.take_append_of_le_length (by simp; omega), List.take_of_length_le (by simp; omega)]
theorem spc_drop (hws : ws.length = 25) : (spc ws rate at_ suf gives).drop 25 = tail4 rate at_ suf gives := by
  unfold spc; rw [List.drop_append_of_le_length (by simp; omega), List.drop_of_length_le (by simp; omega), List.nil_append]
end
abbrev Sponge (w : World) (b : Nat) (ws : List B64) (rate at_ : Nat) (suf : B8) (gives : Bool) : Prop := Blk w b (spc ws rate at_ suf gives) t_sponge_Sponge
abbrev spr (b : Nat) (ws : List B64) (rate at_ : Nat) (suf : B8) (gives : Bool) : Res := .blk b (spc ws rate at_ suf gives) t_sponge_Sponge

def mayBe (rate : Int) (suf : B8) : Bool := decide (8 ≤ rate) && decide (rate ≤ 192) && decide (rate % 8 = 0) && decide (1 ≤ (suf.toNat : Int)) && decide ((suf.toNat : Int) ≤ 127)
theorem tmod8 (x : Int) : decide (Int.tmod x 8 = 0) = decide (x % 8 = 0) := by
  have : Int.tmod x 8 = 0 ↔ x % 8 = 0 := by rw [← Int.dvd_iff_tmod_eq_zero, Int.dvd_iff_emod_eq_zero]
  simp only [this]
theorem sponge_New_ok (rate : Nat) (suf : B8) (h : mayBe rate suf = true) (w : World) : Ok Pr f_sponge_New [.int .i64 (rate : Int), .int .u8 (suf.toNat : Int)] w fun v w' => ∃ b, v = .pointer (some ⟨b, 0, none⟩) ∧ Sponge w' b z25 rate 0 suf false ∧ w.heap.size ≤ b ∧ Mod [] w w' := by
  refine V_sponge_New_of ?_
  unfold V_sponge_New
  rw [tmod8]
  refine ite_false ?_ (nw_blk fun b w' hb h1 h2 _ => ⟨b, rfl, h1, by omega, h2⟩)
  unfold mayBe at h
  simp only [Bool.and_eq_true, decide_eq_true_eq] at h
  simp only [Bool.or_eq_false_iff, decide_eq_false_iff_not, Bool.not_eq_false', decide_eq_true_eq]
  omega
theorem sponge_flip_ok {ws : List B64} {rate at_ : Nat} {suf : B8} {gives : Bool} (hws : ws.length = 25) (b i : Nat) (hi : i < 200) (x : B8) (w : World) (h : Sponge w b ws rate at_ suf gives) :
    Ok Pr f_sponge_Sponge_flip [.pointer (some ⟨b, 0, none⟩), .int .i64 (i : Int), .int .u8 (x.toNat : Int)] w fun v w' => v = .tuple ⟨[]⟩ ∧ Sponge w' b (flip ws i x) rate at_ suf gives ∧ Mod [b] w w' := by
  refine V_sponge_Sponge_flip_of ?_
  unfold V_sponge_Sponge_flip
  have H := Mine.start1 (r := spr b ws rate at_ suf gives) h
  refine ⟨⟨by omega, by rw [maxi64]; omega⟩, ⟨by omega, by omega⟩, H.drew.ldI 0 (i := i / 8) rfl (ad0 b (i / 8)) (spc_word hws _ (by omega)) ⟨by omega, ⟨by omega, by omega⟩, ?_⟩⟩
  refine ⟨⟨by omega, by omega⟩, H.drew.st 0 (i := i / 8) rfl (ad0 b (i / 8)) (by rw [length_spc hws]; omega) rfl fun w1 H => ⟨rfl, ?_, H.mod⟩⟩
  have H := H.blk 0 rfl
  rw [up64, show ((8 : Int) * ((i : Int) % 8)) = ((8 * (i % 8) : Nat) : Int) by omega, shl64, xor64, spc_set_word hws _ _ (by omega)] at H
  exact H
/-- when the rate is reached -/
def turn (rate : Nat) (s : List B64 × Nat) : List B64 × Nat := if s.2 = rate then (perm s.1, 0) else s
theorem sponge_turn_ok {ws : List B64} {rate at_ : Nat} {suf : B8} {gives : Bool} (hws : ws.length = 25) (b : Nat) (w : World) (h : Sponge w b ws rate at_ suf gives) :
    Ok Pr f_sponge_Sponge_turn [.pointer (some ⟨b, 0, none⟩)] w fun v w' => v = .tuple ⟨[]⟩ ∧ Sponge w' b (turn rate (ws, at_)).1 rate (turn rate (ws, at_)).2 suf gives ∧ Mod [b] w w' := by
  refine V_sponge_Sponge_turn_of ?_
  unfold V_sponge_Sponge_turn
  have H := (Mine.start1 (r := spr b ws rate at_ suf gives) h).drew
  refine H.ldI 0 (i := 27) rfl (ad1 b 27) (spc_at hws) (H.ldI 0 (i := 25) rfl (ad1 b 25) (spc_rate hws) (ite_intro (fun h1 => ?_) (fun h1 => ?_)))
  · have h2 : at_ = rate := by have := of_decide_eq_true h1; omega
    rw [turn, if_pos h2]
    refine H.ldAp 0 rfl (ad00 b) (by rw [length_spc hws]; omega) ?_
    rw [spc_take hws]
    refine call_of (keccak_Permute_ok ws hws _) ?_
    rintro _ w1 ⟨rfl, m⟩
    have H := H.frame m
    refine asArr_u64s (nc (H.stAp 0 rfl (ad00 b) (by rw [length_u64s, length_perm ws hws]) (by rw [length_spc hws]; omega) (ones_u64s _) fun w2 H => ?_))
    rw [spc_drop hws] at H
    refine Mine.st (L := [spr b (perm ws) rate at_ suf gives]) H 0 (i := 27) rfl (ad1 b 27) (by rw [length_spc (length_perm ws hws)]; omega) rfl fun w3 H => ⟨rfl, ?_, H.mod⟩
    have H := H.blk 0 rfl
    rw [show (.int .i64 (0 : Int) : Value) = .int .i64 ((0 : Nat) : Int) from rfl, spc_set_at (length_perm ws hws)] at H
    exact H
  · have h2 : ¬ at_ = rate := by have := of_decide_eq_false h1; omega
    rw [turn, if_neg h2]
    exact ⟨rfl, H.blk 0 rfl, H.mod⟩
end Go.Proofs.YtdnhoebcomffoaaGreatDoor
end
section
set_option linter.unusedVariables false
set_option linter.unusedSimpArgs false
/- THE SPONGE: in and out. -/
namespace Go.Proofs.YtdnhoebcomffoaaGreatDoor
open Go Go.Ev
/-- a byte goes in -/
def inB (rate : Nat) (s : List B64 × Nat) (x : B8) : List B64 × Nat := turn rate (flip s.1 s.2 x, s.2 + 1)
def absorb (rate : Nat) (s : List B64 × Nat) (l : List B8) : List B64 × Nat := l.foldl (inB rate) s
theorem absorb_append (rate : Nat) (s : List B64 × Nat) (a b : List B8) : absorb rate s (a ++ b) = absorb rate (absorb rate s a) b := List.foldl_append
/-- what is kept true of it -/
def Fits (rate : Nat) (s : List B64 × Nat) : Prop := s.1.length = 25 ∧ s.2 < rate
theorem Fits.inB {rate : Nat} {s : List B64 × Nat} (h : Fits rate s) (x : B8) : Fits rate (inB rate s x) := by
  unfold YtdnhoebcomffoaaGreatDoor.inB turn
  split
  · exact ⟨length_perm _ ((length_flip _ _ _).trans h.1), Nat.lt_of_le_of_lt (Nat.zero_le _) h.2⟩
  · rename_i hn
    have := h.2
    exact ⟨(length_flip _ _ _).trans h.1, by dsimp only at hn ⊢; omega⟩
theorem Fits.absorb {rate : Nat} : ∀ (l : List B8) {s : List B64 × Nat}, Fits rate s → Fits rate (absorb rate s l)
  | [], _, h => h
  | x :: r, _, h => Fits.absorb r (h.inB x)
theorem take_succ_getD {A : Type} (l : List A) (i : Nat) (h : i < l.length) (d : A) : l.take (i + 1) = l.take i ++ [l.getD i d] := by
  rw [List.take_succ_eq_append_getElem h]
  simp [h]
theorem sponge_Write_ok {s : List B64 × Nat} {rate : Nat} {suf : B8} (hr : rate ≤ 192) (hs : Fits rate s) (b : Nat) (parts : SlV) (ls : List (List B8)) (w : World) (h : Sponge w b s.1 rate s.2 suf false) (hp : Parts w [b] parts ls)
    (hsmall : parts.n < 1000000 ∧ ∀ l ∈ ls, l.length < 1000000000) :
    Ok Pr f_sponge_Sponge_Write [.pointer (some ⟨b, 0, none⟩), .slice parts.a parts.n parts.c] w fun v w' => v = .nilIface ∧ Sponge w' b (absorb rate s ls.flatten).1 rate (absorb rate s ls.flatten).2 suf false ∧ Mod [b] w w' := by
  refine V_sponge_Sponge_Write_of ?_
  unfold V_sponge_Sponge_Write
  have H := Mine.start1 (r := spr b s.1 rate s.2 suf false) h
  refine ite_false rfl (nc (H.ldB 0 (i := 28) rfl (ad1 b 28) (spc_gives hs.1) (ite_false rfl ?_)))
  have hn := hp.len
  let st (j : Nat) := absorb rate s (ls.take j).flatten
  refine loop1_up 0 ls.length (fun j w' => Mine w [b] w' [spr b (st j).1 rate (st j).2 suf false]) rfl (by omega) H ?_ ?_
  · intro again j w3 _ hj H hag
    refine ite_true (by rw [hn]; simpa using hj) ?_
    refine (hp.mod H.mod).ld hj fun x hx hxo => ?_
    have hxl := hx.len
    have hxs : (ls.getD j []).length < 1000000000 := hsmall.2 _ (by simp [hj])
    have hst : Fits rate (st j) := hs.absorb _
    have H3 := Mine.start1 (r := spr b (st j).1 rate (st j).2 suf false) (H.blk 0 rfl)
    refine loop1_up 0 (ls.getD j []).length (fun i w' => Mine w3 [b] w' [spr b (absorb rate (st j) ((ls.getD j []).take i)).1 rate (absorb rate (st j) ((ls.getD j []).take i)).2 suf false]) rfl (by omega) H3 ?_ ?_
    · intro again i w4 _ hi H4 hag
      have hf : Fits rate (absorb rate (st j) ((ls.getD j []).take i)) := hst.absorb _
      have hx4 : Bytes w4 x (ls.getD j []) := hx.mod H4.mod hxo
      have hcur := H4.blk 0 rfl
      have hat := hf.2
      refine ite_true (by rw [← hxl]; simpa using hi) (hx4.ld hi (nc (H4.ldI 0 (i := 27) rfl (ad1 b 27) (spc_at hf.1) ?_)))
      refine call_of (sponge_flip_ok hf.1 b _ (by omega) _ _ hcur) ?_
      rintro _ w5 ⟨rfl, h5, m5⟩
      have H5 := H4.upd (r' := spr b _ rate _ suf false) 0 rfl m5 (fun c hc => .inl hc) h5 (fun c hc => .inl hc)
      have hl5 : (flip (absorb rate (st j) ((ls.getD j []).take i)).1 (absorb rate (st j) ((ls.getD j []).take i)).2 ((ls.getD j []).getD i 0)).length = 25 := (length_flip _ _ _).trans hf.1
      refine nc (H5.ldI 0 (i := 27) rfl (ad1 b 27) (spc_at hl5) ⟨⟨by omega, by omega⟩, nc (H5.st 0 (i := 27) rfl (ad1 b 27) (by rw [length_spc hl5]; omega) rfl fun w6 H6 => ?_)⟩)
      have h6 := H6.blk 0 rfl
      rw [show ((absorb rate (st j) ((ls.getD j []).take i)).2 : Int) + 1 = (((absorb rate (st j) ((ls.getD j []).take i)).2 + 1 : Nat) : Int) by omega, spc_set_at hl5] at h6
      refine call_of (sponge_turn_ok hl5 b _ h6) ?_
      rintro _ w7 ⟨rfl, h7, m7⟩
      refine ⟨⟨by omega, by omega⟩, hag w7 ?_⟩
      rw [take_succ_getD _ _ hi 0, absorb_append]
      exact H6.upd (r' := spr b _ rate _ suf false) 0 rfl m7 (fun c hc => .inl hc) h7 (fun c hc => .inl hc)
    · intro again w4 H4
      refine ite_false (by rw [← hxl]; simp) ⟨⟨by omega, by omega⟩, ?_⟩
      refine hag w4 ?_
      have e1 : st (j + 1) = absorb rate (st j) ((ls.getD j []).take (ls.getD j []).length) := by
        simp only [st]
        rw [take_succ_getD _ _ hj [], List.flatten_append, absorb_append, List.take_length]
        simp
      rw [e1]
      exact H.upd (r' := spr b _ rate _ suf false) 0 rfl H4.mod (fun c hc => .inl hc) (H4.blk 0 rfl) (fun c hc => .inl hc)
  · intro again w3 H
    have e : ls.take ls.length = ls := List.take_length
    refine ite_false (by rw [hn]; simp) ⟨rfl, ?_, H.mod⟩
    have := H.blk 0 rfl
    simp only [st, e] at this
    exact this

/-- the byte at a place -/
def byteAt (s : List B64 × Nat) : B8 := (g s.1 (s.2 / 8) >>> (8 * (s.2 % 8))).setWidth 8
def outB (rate : Nat) (x : List B8 × (List B64 × Nat)) (_i : Nat) : List B8 × (List B64 × Nat) := (x.1 ++ [byteAt (turn rate x.2)], ((turn rate x.2).1, (turn rate x.2).2 + 1))
def squeeze (rate : Nat) (s : List B64 × Nat) (n : Nat) : List B8 × (List B64 × Nat) := up (outB rate) ([], s) n
theorem squeeze_succ (rate : Nat) (s : List B64 × Nat) (n : Nat) : squeeze rate s (n + 1) = outB rate (squeeze rate s n) n := up_succ _ _ _
/-- where it gives -/
def Gives (rate : Nat) (s : List B64 × Nat) : Prop := s.1.length = 25 ∧ s.2 ≤ rate
theorem Gives.turn {rate : Nat} (hr : 0 < rate) {s : List B64 × Nat} (h : Gives rate s) : Fits rate (turn rate s) := by
  unfold YtdnhoebcomffoaaGreatDoor.turn
  split
  · exact ⟨length_perm _ h.1, hr⟩
  · rename_i hn
    have := h.2
    exact ⟨h.1, by omega⟩
theorem Gives.squeeze {rate : Nat} (hr : 0 < rate) {s : List B64 × Nat} (h : Gives rate s) (n : Nat) : Gives rate (squeeze rate s n).2 := by
  induction n with
  | zero => exact h
  | succ n ih =>
    rw [squeeze_succ]
    have := ih.turn hr
    exact ⟨this.1, this.2⟩
theorem length_squeeze (rate : Nat) (s : List B64 × Nat) (n : Nat) : (squeeze rate s n).1.length = n := by
  induction n with
  | zero => rfl
  | succ n ih => rw [squeeze_succ]; simp [outB, ih]
/-- the last bytes that go in -/
def close (rate : Nat) (suf : B8) (s : List B64 × Nat) : List B64 × Nat := (flip (flip s.1 s.2 suf) (rate - 1) 128, rate)
theorem sponge_Read_no (p : Option Addr) (n : Int) (hn : p = none ∨ n < 1 ∨ 1048576 < n) (w : World) : Ok Pr f_sponge_Sponge_Read [.pointer p, .int .i64 n] w fun v w' => v = .slice none 0 0 ∧ w' = w := by
  refine V_sponge_Sponge_Read_of ?_
  unfold V_sponge_Sponge_Read
  refine ite_true ?_ ⟨rfl, rfl⟩
  simp only [Bool.or_eq_true, decide_eq_true_eq]
  rcases hn with rfl | h | h
  · exact .inl (.inl rfl)
  · exact .inl (.inr h)
  · exact .inr h
/-- what a reading is begun with -/
def ready (rate : Nat) (suf : B8) (gives : Bool) (s : List B64 × Nat) : List B64 × Nat := if gives then s else close rate suf s
theorem zrow_bytes (n : Nat) : (zeroRow n (zc Pr t_uint8)).take (0 * 1) = u8s [] := by simp [u8s]
theorem sponge_Read_ok {s : List B64 × Nat} {rate : Nat} {suf : B8} {gives : Bool} (hr0 : 8 ≤ rate) (hr : rate ≤ 192) (hs : if gives then Gives rate s else Fits rate s) (b : Nat) (n : Nat) (hn : 1 ≤ n) (hn' : n ≤ 1048576) (w : World) (h : Sponge w b s.1 rate s.2 suf gives) :
    Ok Pr f_sponge_Sponge_Read [.pointer (some ⟨b, 0, none⟩), .int .i64 (n : Int)] w fun v w' => ∃ x : SlV, v = .slice x.a x.n x.c ∧ Own w' w.heap.size t_uint8 1 x (u8s (squeeze rate (ready rate suf gives s) n).1) ∧
      Sponge w' b (squeeze rate (ready rate suf gives s) n).2.1 rate (squeeze rate (ready rate suf gives s) n).2.2 suf true ∧ Mod [b] w w' := by
  refine V_sponge_Sponge_Read_of ?_
  unfold V_sponge_Sponge_Read
  refine ite_false (by simp; omega) (join0_of fun go hgo => ?_)
  have H := Mine.start1 (r := spr b s.1 rate s.2 suf gives) h
  -- the giving
  have give : ∀ (s' : List B64 × Nat) (w1 : World), s' = ready rate suf gives s → Gives rate s' → Mine w [b] w1 [spr b s'.1 rate s'.2 suf true] → go w1 := by
    rintro s' w1 rfl hg H
    refine hgo w1 ?_
    refine H.mkS (l := 0) (c := n) elt_u8 rfl rfl (Nat.zero_le _) (by omega) (by omega) fun c w2 H hc => ?_
    rw [zrow_bytes] at H
    generalize ready rate suf gives s = r at *
    refine loop2_up 0 n (fun i x w' => Mine w [b] w' [spr b (squeeze rate r i).2.1 rate (squeeze rate r i).2.2 suf true, .row t_uint8 1 x (u8s (squeeze rate r i).1)] ∧ x.n = i) rfl (by omega) ⟨H, rfl⟩ ?_ ?_
    · rintro again i x w3 _ hi ⟨H, hx⟩ hag
      have hq := hg.squeeze (by omega) i
      have hf := hq.turn (by omega)
      have hfa := hf.2
      refine ite_true (by simp; omega) (call_of (sponge_turn_ok hq.1 b _ (H.blk 0 rfl)) ?_)
      rintro _ w4 ⟨rfl, h4, m4⟩
      have H4 := (H.upd (r' := spr b _ rate _ suf true) 0 rfl m4 (fun c hc => .inl hc) h4 (fun c hc => .inl hc)).drew
      change Mine w [b] _ [spr b (turn rate (squeeze rate r i).2).1 rate (turn rate (squeeze rate r i).2).2 suf true, .row t_uint8 1 x (u8s (squeeze rate r i).1)] at H4
      refine nc (H4.ldI 0 (i := 27) rfl (ad1 b 27) (spc_at hf.1) ⟨⟨by omega, by rw [maxi64]; omega⟩, nc ⟨⟨by omega, by omega⟩, ?_⟩⟩)
      refine H4.ldI 0 (i := (turn rate (squeeze rate r i).2).2 / 8) rfl (ad0 b ((turn rate (squeeze rate r i).2).2 / 8)) (spc_word hf.1 _ (by omega)) (nc (H4.ldI 0 (i := 27) rfl (ad1 b 27) (spc_at hf.1) ⟨by omega, ⟨by omega, by omega⟩, ?_⟩))
      refine cnt_of (by omega) ?_
      rw [show ((8 : Int) * (((turn rate (squeeze rate r i).2).2 : Int) % 8)) = ((8 * ((turn rate (squeeze rate r i).2).2 % 8) : Nat) : Int) by omega, shr64, low8]
      refine H4.app1 1 elt_u8 rfl rfl (by simp [isOne]) (by omega) (by omega) fun x' w6 H6 hx' => ?_
      change Mine w [b] _ [spr b (turn rate (squeeze rate r i).2).1 rate (turn rate (squeeze rate r i).2).2 suf true, .row t_uint8 1 x' (u8s (squeeze rate r i).1 ++ [u8 (byteAt (turn rate (squeeze rate r i).2))])] at H6
      refine nc (H6.ldI 0 (i := 27) rfl (ad1 b 27) (spc_at hf.1) ⟨⟨by omega, by omega⟩, nc (H6.st 0 (i := 27) rfl (ad1 b 27) (by rw [length_spc hf.1]; omega) rfl fun w7 H7 => ⟨⟨by omega, by omega⟩, ?_⟩)⟩)
      refine hag x' w7 ⟨?_, by omega⟩
      rw [show ((turn rate (squeeze rate r i).2).2 : Int) + 1 = (((turn rate (squeeze rate r i).2).2 + 1 : Nat) : Int) by omega, spc_set_at hf.1] at H7
      rw [squeeze_succ]
      have e : u8s (outB rate (squeeze rate r i) i).1 = u8s (squeeze rate r i).1 ++ [u8 (byteAt (turn rate (squeeze rate r i).2))] := by
        unfold outB; rw [u8s_append]; rfl
      rw [e]
      exact H7
    · rintro again x w3 ⟨H, hx⟩
      refine ite_false (by simp) ⟨x, rfl, H.fresh 1 rfl ?_, H.blk 0 rfl, H.mod⟩
      intro c hc hcS
      exact H.apart 1 0 _ _ (by omega) rfl rfl c hc (by simpa [Res.blk] using hcS)
  refine nc (H.ldB 0 (i := 28) rfl (ad1 b 28) (spc_gives (by cases gives <;> exact hs.1)) ?_)
  cases gives with
  | true => exact ite_false rfl (give s w rfl hs H)
  | false =>
    have hs : Fits rate s := hs
    have hsa := hs.2
    have H := H.drew
    refine ite_true rfl (nc (H.ldI 0 (i := 27) rfl (ad1 b 27) (spc_at hs.1) (nc (H.ldI 0 (i := 26) rfl (ad1 b 26) (spc_suf hs.1) (call_of (sponge_flip_ok hs.1 b _ (by omega) _ _ (H.blk 0 rfl)) ?_)))))
    rintro _ w3 ⟨rfl, h3, m3⟩
    have H3 := H.upd (r' := spr b _ rate _ suf false) 0 rfl m3 (fun c hc => .inl hc) h3 (fun c hc => .inl hc)
    have l3 : (flip s.1 s.2 suf).length = 25 := (length_flip _ _ _).trans hs.1
    refine nc (H3.ldI 0 (i := 25) rfl (ad1 b 25) (spc_rate l3) ⟨⟨by omega, by omega⟩, ?_⟩)
    rw [show ((rate : Int) - 1) = ((rate - 1 : Nat) : Int) by omega]
    refine call_of (sponge_flip_ok l3 b (rate - 1) (by omega) 128 _ h3) ?_
    rintro _ w4 ⟨rfl, h4, m4⟩
    have H4 := H3.upd (r' := spr b _ rate _ suf false) 0 rfl m4 (fun c hc => .inl hc) h4 (fun c hc => .inl hc)
    have l4 : (flip (flip s.1 s.2 suf) (rate - 1) 128).length = 25 := (length_flip _ _ _).trans l3
    refine nc (H4.ldI 0 (i := 25) rfl (ad1 b 25) (spc_rate l4) (nc (H4.st 0 (i := 28) rfl (ad1 b 28) (by rw [length_spc l4]; omega) rfl fun w5 H5 => ?_)))
    rw [spc_set_gives l4] at H5
    refine nc (H5.st 0 (i := 27) rfl (ad1 b 27) (by show 27 < (spc _ _ _ _ _).length; rw [length_spc l4]; omega) rfl fun w6 H6 => ?_)
    refine give (close rate suf s) w6 rfl ⟨l4, Nat.le_refl _⟩ ?_
    rw [spc_set_at l4] at H6
    exact H6
end Go.Proofs.YtdnhoebcomffoaaGreatDoor
end
section
set_option linter.unusedVariables false
set_option linter.unusedSimpArgs false
/- THE DOCUMENT'S SPONGE: what each function computes. -/
namespace Go.Proofs.YtdnhoebcomffoaaGreatDoor
open Go Go.Ev
/-- bytes into a state -/
def mixU (l : List B8) (a : List B64) (n : Nat) : List B64 := up (fun a i => flip a i (l.getD i 0)) a n
def mix (a : List B64) (l : List B8) : List B64 := mixU l a l.length
theorem length_mixU (l : List B8) (a : List B64) (n : Nat) : (mixU l a n).length = a.length := length_up _ (fun _ _ => length_flip _ _ _) _ _
theorem ref2_mix_ok (a : List B64) (ha : a.length = 25) (x : SlV) (l : List B8) (w : World) (hx : Bytes w x l) (hl : l.length ≤ 200) : Ok Pr f_ref2_mix [.agg ⟨u64s a⟩, .slice x.a x.n x.c] w fun v w' => v = .agg ⟨u64s (mix a l)⟩ ∧ Mod [] w w' := by
  refine V_ref2_mix_of ?_
  unfold V_ref2_mix
  rw [zc25]
  have hn := hx.len
  refine (Mine.start w).nw fun b0 w1 H _ => H.nw fun b1 w2 H _ => ?_
  refine loop1_up 0 l.length (fun i w' => Mine w [] w' [.blk b0 (u64s (mixU l a i)) t_25_uint64, .blk b1 (u64s z25) t_25_uint64]) rfl (by omega) H ?_ ?_
  · intro again i w3 _ hi H hag
    have hla : (mixU l a i).length = 25 := (length_mixU _ _ _).trans ha
    refine ite_true (by rw [← hn]; simpa using hi) ⟨⟨by omega, by rw [maxi64]; omega⟩, ⟨by omega, by rw [maxi64]; omega⟩, ⟨by omega, by omega⟩, ?_⟩
    refine H.drew.ld64 0 (i := i / 8) rfl (ad b0 (i / 8)) (by omega) ((hx.mod0 H.drew.mod).ld hi ⟨by omega, ⟨by omega, by omega⟩, cnt_of (by omega) ⟨⟨by omega, by omega⟩, ?_⟩⟩)
    rw [up64, show ((8 : Int) * ((i : Int) % 8)) = ((8 * (i % 8) : Nat) : Int) by omega, shl64]
    refine H.drew.st64 0 (i := i / 8) (g (mixU l a i) (i / 8) ^^^ ((l.getD i 0).setWidth 64 <<< (8 * (i % 8)))) rfl (ad b0 (i / 8)) (by omega) (xor64 _ _) fun w4 H => ⟨⟨by omega, by omega⟩, hag w4 ?_⟩
    rw [show mixU l a (i + 1) = flip (mixU l a i) i (l.getD i 0) from up_succ _ _ _]
    exact H
  · intro again w3 H
    have hla : (mix a l).length = 25 := (length_mixU _ _ _).trans ha
    refine ite_false (by rw [← hn]; simp) ?_
    refine H.ldA64 0 rfl hla ?_
    refine H.stA64 1 rfl hla rfl fun w6 H => ?_
    exact H.ldA64 1 rfl hla ⟨rfl, H.mod⟩
/-- zeros behind -/
def zpad (rate : Nat) (l : List B8) : List B8 := l ++ List.replicate ((rate - l.length % rate) % rate) 0
theorem zpad_len {rate : Nat} (hr : 0 < rate) (l : List B8) : (zpad rate l).length % rate = 0 := by
  unfold zpad
  rw [List.length_append, List.length_replicate]
  have h1 := Nat.mod_lt l.length hr
  rcases Nat.eq_zero_or_pos (l.length % rate) with h | h
  · rw [h, Nat.sub_zero, Nat.mod_self, Nat.add_zero, h]
  · rw [Nat.mod_eq_of_lt (by omega : rate - l.length % rate < rate), Nat.add_mod, Nat.mod_eq_of_lt (by omega : rate - l.length % rate < rate), show l.length % rate + (rate - l.length % rate) = rate by omega, Nat.mod_self]
theorem zpad_least {rate : Nat} (hr : 0 < rate) (n k : Nat) (hk : k ≤ (rate - n % rate) % rate) (h : (n + k) % rate = 0) : k = (rate - n % rate) % rate := by
  have h1 := Nat.mod_lt n hr
  rcases Nat.eq_zero_or_pos (n % rate) with h0 | h0
  · rw [h0, Nat.sub_zero, Nat.mod_self] at hk ⊢; omega
  · rw [Nat.mod_eq_of_lt (by omega : rate - n % rate < rate)] at hk ⊢
    rcases Nat.lt_or_ge k (rate - n % rate) with h2 | h2
    · rw [Nat.add_mod, Nat.mod_eq_of_lt (by omega : k < rate), Nat.mod_eq_of_lt (by omega : n % rate + k < rate)] at h
      omega
    · omega
/-- what goes in, as blocks -/
def padded (rate : Nat) (suf : B8) (l : List B8) : List B8 :=
  let p := zpad rate (l ++ [suf])
  p.set (p.length - 1) (p.getD (p.length - 1) 0 ^^^ 128)
def blocks (rate : Nat) (p : List B8) (a : List B64) (m : Nat) : List B64 := up (fun a j => perm (mix a ((p.drop (rate * j)).take rate))) a m
theorem length_blocks (rate : Nat) (p : List B8) (m : Nat) : (blocks rate p z25 m).length = 25 := by
  induction m with
  | zero => rfl
  | succ m ih =>
    rw [show blocks rate p z25 (m + 1) = perm (mix (blocks rate p z25 m) ((p.drop (rate * m)).take rate)) from up_succ _ _ _]
    exact length_perm _ ((length_mixU _ _ _).trans ih)
def outStep (rate : Nat) (x : List B8 × List B64) (i : Nat) : List B8 × List B64 :=
  let a := if 0 < i ∧ i % rate = 0 then perm x.2 else x.2
  (x.1 ++ [(g a (i % rate / 8) >>> (8 * (i % 8))).setWidth 8], a)
def outs (rate : Nat) (a : List B64) (n : Nat) : List B8 × List B64 := up (outStep rate) ([], a) n
theorem outs_succ (rate : Nat) (a : List B64) (n : Nat) : outs rate a (n + 1) = outStep rate (outs rate a n) n := up_succ _ _ _
theorem length_outs (rate : Nat) (a : List B64) (ha : a.length = 25) (n : Nat) : (outs rate a n).1.length = n ∧ (outs rate a n).2.length = 25 := by
  induction n with
  | zero => exact ⟨rfl, ha⟩
  | succ n ih =>
    rw [outs_succ]
    refine ⟨by simp [outStep, ih.1], ?_⟩
    simp only [outStep]
    split
    · exact length_perm _ ih.2
    · exact ih.2
def refOut (rate : Nat) (suf : B8) (l : List B8) (n : Nat) : List B8 := (outs rate (blocks rate (padded rate suf l) z25 ((padded rate suf l).length / rate)) n).1
theorem length_refOut (rate : Nat) (suf : B8) (l : List B8) (n : Nat) : (refOut rate suf l n).length = n := by
  unfold refOut
  exact (length_outs _ _ (length_blocks _ _ _) _).1
theorem length_padded (rate : Nat) (suf : B8) (l : List B8) : (padded rate suf l).length = (zpad rate (l ++ [suf])).length := by simp [padded]
theorem ref2_Out_ok (rate : Nat) (hr0 : 8 ≤ rate) (hr : rate ≤ 192) (hr8 : rate % 8 = 0) (suf : B8) (x : SlV) (l : List B8) (hl : l.length ≤ 1000000) (n : Nat) (hn : n ≤ 1048576) (w : World) (hx : Bytes w x l) :
    Ok Pr f_ref2_Out [.int .i64 (rate : Int), .int .u8 (suf.toNat : Int), .slice x.a x.n x.c, .int .i64 (n : Int)] w fun v w' => ∃ y : SlV, v = .slice y.a y.n y.c ∧ Own w' w.heap.size t_uint8 1 y (u8s (refOut rate suf l n)) ∧ Mod [] w w' := by
  refine V_ref2_Out_of ?_
  unfold V_ref2_Out
  rw [zc25, zc24]
  have hxl := hx.len
  refine call_of (ref1_Words_ok w) ?_
  rintro _ w1 ⟨rfl, m1⟩
  have H := (Mine.start w).frame m1
  refine asArr_u64s (H.nw fun b0 w2 H _ => H.stA64 0 (l := words) rfl rfl rfl fun w3 H => ?_)
  have H := H.nilrow t_uint8 1
  change Mine w [] w3 [.blk b0 (u64s words) t_24_uint64, .row t_uint8 1 ⟨none, 0, 0⟩ (u8s [])] at H
  refine H.app8 (s := ⟨none, 0, 0⟩) 1 elt_u8 rfl (hx.mod0 H.mod) (by show 0 + x.n ≤ _; omega) fun s4 w4 H hs4 => ?_
  change Mine w [] w4 [.blk b0 (u64s words) t_24_uint64, .row t_uint8 1 s4 (u8s l)] at H
  refine H.app8one 1 suf elt_u8 rfl rfl (by rw [hs4]; show 0 + x.n ≤ _; omega) fun s6 w6 H hs6 => ?_
  change Mine w [] w6 [.blk b0 (u64s words) t_24_uint64, .row t_uint8 1 s6 (u8s (l ++ [suf]))] at H
  have hK := Nat.mod_lt (rate - (l ++ [suf]).length % rate) (show 0 < rate by omega)
  refine loop1_of (fun s w' => ∃ k, k ≤ (rate - (l ++ [suf]).length % rate) % rate ∧ Mine w [] w' [.blk b0 (u64s words) t_24_uint64, .row t_uint8 1 s (u8s (l ++ [suf] ++ List.replicate k 0))]) (fun s _ => l.length + 1 + rate - s.n) ⟨0, Nat.zero_le _, by simpa using H⟩ ?_
  rintro again s w7 ⟨k, hk, H⟩ hag
  have hsn := (H.bytes 1 rfl).len
  simp only [List.length_append, List.length_replicate, List.length_cons, List.length_nil] at hsn
  refine pos_of (by omega) ⟨by omega, ite_intro (fun h0 => ?_) (fun h0 => ?_)⟩
  · have hne : ¬ s.n % rate = 0 := by
      simp only [Bool.not_eq_true', decide_eq_false_iff_not] at h0
      intro e; apply h0; rw [← Int.natCast_emod, e]; rfl
    have hlt : k < (rate - (l ++ [suf]).length % rate) % rate := by
      rcases Nat.lt_or_ge k ((rate - (l ++ [suf]).length % rate) % rate) with h | h
      · exact h
      · exfalso
        apply hne
        have e : s.n = (zpad rate (l ++ [suf])).length := by
          unfold zpad
          rw [List.length_append, List.length_replicate, ← Nat.le_antisymm hk h, List.length_append]
          exact hsn.symm
        rw [e]
        exact zpad_len (by omega) _
    refine H.app8one 1 0 elt_u8 rfl rfl (by omega) fun s' w8 H hs' => hag s' w8 ⟨k + 1, hlt, ?_⟩ (by omega)
    rw [List.replicate_succ', ← List.append_assoc]
    exact H
  · have he : s.n % rate = 0 := by
      simp only [Bool.not_eq_false', decide_eq_true_eq] at h0
      exact_mod_cast h0
    have hkk := zpad_least (show 0 < rate by omega) (l ++ [suf]).length k hk (by rw [← he, ← hsn]; simp)
    have hz : l ++ [suf] ++ List.replicate k 0 = zpad rate (l ++ [suf]) := by rw [hkk]; rfl
    rw [hz] at H
    have hzl : (zpad rate (l ++ [suf])).length = s.n := (H.bytes 1 rfl).len
    have hpl : (padded rate suf l).length = s.n := (length_padded _ _ _).trans hzl
    have esn : ((s.n : Int) - 1) = ((s.n - 1 : Nat) : Int) := by omega
    rw [esn]
    refine ⟨⟨by omega, by omega⟩, ⟨by omega, by omega⟩, (H.bytes 1 rfl).ld (by omega) ⟨⟨(H.bytes 1 rfl).some (by omega), by omega, by omega⟩, ?_⟩⟩
    refine H.st8 1 (i := s.n - 1) ((zpad rate (l ++ [suf])).getD (s.n - 1) 0 ^^^ 128) rfl (by rw [Int.toNat_natCast, Nat.mul_one]) (by omega) (xor8 _ 128) fun w10 H => ?_
    have hpd : (zpad rate (l ++ [suf])).set (s.n - 1) ((zpad rate (l ++ [suf])).getD (s.n - 1) 0 ^^^ 128) = padded rate suf l := by
      show _ = (zpad rate (l ++ [suf])).set ((zpad rate (l ++ [suf])).length - 1) ((zpad rate (l ++ [suf])).getD ((zpad rate (l ++ [suf])).length - 1) 0 ^^^ 128)
      rw [hzl]
    rw [hpd] at H
    refine H.nw fun b3 w11 H _ => ?_
    generalize hP : padded rate suf l = p at *
    change Mine w [] w11 [.blk b0 (u64s words) t_24_uint64, .row t_uint8 1 s (u8s p), .blk b3 (u64s z25) t_25_uint64] at H
    have hm : s.n = rate * (s.n / rate) := by have := Nat.div_add_mod s.n rate; omega
    refine loop1_of (fun i w' => ∃ j, j ≤ s.n / rate ∧ i = ((rate * j : Nat) : Int) ∧ Mine w [] w' [.blk b0 (u64s words) t_24_uint64, .row t_uint8 1 s (u8s p), .blk b3 (u64s (blocks rate p z25 j)) t_25_uint64]) (fun i _ => s.n - i.toNat) ⟨0, Nat.zero_le _, rfl, H⟩ ?_
    rintro again _ w12 ⟨j, hj, rfl, H⟩ hag
    have hlb := length_blocks rate p j
    rcases Nat.lt_or_ge j (s.n / rate) with hjj | hjj
    · have hle : rate * (j + 1) ≤ s.n := by rw [hm]; exact Nat.mul_le_mul_left _ hjj
      rw [Nat.mul_add, Nat.mul_one] at hle
      refine ite_true (by simp only [decide_eq_true_eq]; omega) (H.drew.ldA64 2 rfl hlb ⟨⟨by omega, by omega⟩, ?_⟩)
      refine (H.drew.bytes 1 rfl).lh (rate * j) (rate * j + rate) rfl (by omega) (by omega) hle fun z hzn hz hzw => ?_
      rw [Nat.add_sub_cancel_left] at hz
      refine H.drew.ldA64 0 rfl rfl (call_of (ref2_mix_ok _ hlb z _ _ hz (by rw [List.length_take]; omega)) ?_)
      rintro _ w13 ⟨rfl, m13⟩
      have hk13 := H.drew.kept m13 0 rfl (rfl : (⟨b0, 0, none⟩ : Addr) = _) 24
      have H := H.drew.frame m13
      have hmx : (mix (blocks rate p z25 j) ((p.drop (rate * j)).take rate)).length = 25 := (length_mixU _ _ _).trans hlb
      refine asArr_u64s ⟨hk13, call_of (ref1_With_ok _ hmx _) ?_⟩
      rintro _ w14 ⟨rfl, m14⟩
      have H := H.frame m14
      refine asArr_u64s (H.stA64 2 rfl (length_perm _ hmx) hlb fun w15 H => ⟨⟨by omega, by omega⟩, ?_⟩)
      refine hag _ w15 ⟨j + 1, hjj, by rw [Nat.mul_add, Nat.mul_one]; omega, ?_⟩ (by omega)
      rw [show blocks rate p z25 (j + 1) = perm (mix (blocks rate p z25 j) ((p.drop (rate * j)).take rate)) from up_succ _ _ _]
      exact H
    · have hje : j = s.n / rate := by omega
      subst hje
      rw [← hm]
      refine ite_false (by simp) ?_
      have H := H.nilrow t_uint8 1
      have hro : ∀ i, (outs rate (blocks rate p z25 (s.n / rate)) i).1.length = i ∧ (outs rate (blocks rate p z25 (s.n / rate)) i).2.length = 25 := length_outs rate _ hlb
      have hre : refOut rate suf l n = (outs rate (blocks rate p z25 (s.n / rate)) n).1 := by unfold refOut; rw [hP, hpl]
      generalize blocks rate p z25 (s.n / rate) = a0 at *
      refine loop2_up 0 n (fun i y w' => y.n = i ∧ Mine w [] w' [.blk b0 (u64s words) t_24_uint64, .row t_uint8 1 s (u8s p), .blk b3 (u64s (outs rate a0 i).2) t_25_uint64, .row t_uint8 1 y (u8s (outs rate a0 i).1)]) rfl (by omega) ⟨rfl, H⟩ ?_ ?_
      · rintro again i y w16 _ hi ⟨hyn, H⟩ hag
        obtain ⟨h1, h2⟩ := hro i
        refine ite_true (by simp; omega) (join0_of fun go hgo => join1_of fun go1 hgo1 => ?_)
        have emod : ((i : Int) % (rate : Int)) = ((i % rate : Nat) : Int) := by rw [Int.natCast_emod]
        have hir := Nat.mod_lt i (show 0 < rate by omega)
        have fin : ∀ w17, Mine w [] w17 [.blk b0 (u64s words) t_24_uint64, .row t_uint8 1 s (u8s p), .blk b3 (u64s (outs rate a0 (i + 1)).2) t_25_uint64, .row t_uint8 1 y (u8s (outs rate a0 i).1)] → go w17 := by
          intro w17 H
          refine hgo w17 (pos_of (by omega) ⟨by omega, ?_⟩)
          rw [emod]
          refine ⟨⟨by omega, by rw [maxi64]; omega⟩, ⟨by omega, by omega⟩, H.ld64 2 (i := i % rate / 8) rfl (ad b3 (i % rate / 8)) (by rw [(hro (i + 1)).2]; omega) ⟨by omega, ⟨by omega, by omega⟩, cnt_of (by omega) ?_⟩⟩
          rw [show ((8 : Int) * ((i : Int) % 8)) = ((8 * (i % 8) : Nat) : Int) by omega, shr64, low8]
          refine H.app8one 3 _ elt_u8 rfl rfl (by omega) fun y' w19 H hy' => ⟨⟨by omega, by omega⟩, hag y' w19 ⟨by omega, ?_⟩⟩
          have e : (outs rate a0 (i + 1)).1 = (outs rate a0 i).1 ++ [(g (outs rate a0 (i + 1)).2 (i % rate / 8) >>> (8 * (i % 8))).setWidth 8] := by rw [outs_succ]; rfl
          rw [e]
          exact H
        have yes : 0 < i ∧ i % rate = 0 → go1 true w16 := fun hc => by
          refine hgo1 true w16 (ite_true rfl (H.ldA64 2 rfl h2 (H.ldA64 0 rfl rfl (call_of (ref1_With_ok _ h2 _) ?_))))
          rintro _ w21 ⟨rfl, m21⟩
          have H := H.frame m21
          refine asArr_u64s (H.stA64 2 rfl (length_perm _ h2) h2 fun w22 H => fin w22 ?_)
          have e : (outs rate a0 (i + 1)).2 = perm (outs rate a0 i).2 := by rw [outs_succ]; simp only [outStep]; rw [if_pos hc]
          rw [e]
          exact H
        have no : ¬ (0 < i ∧ i % rate = 0) → go1 false w16 := fun hc => by
          refine hgo1 false w16 (ite_false rfl (fin w16 ?_))
          have e : (outs rate a0 (i + 1)).2 = (outs rate a0 i).2 := by rw [outs_succ]; simp only [outStep]; rw [if_neg hc]
          rw [e]
          exact H
        refine ite_intro (fun hc => ?_) (fun hc => ?_)
        · have hi0 : 0 < i := by have := of_decide_eq_true hc; omega
          refine pos_of (by omega) ⟨by omega, ?_⟩
          rw [emod]
          rcases Nat.eq_zero_or_pos (i % rate) with h0 | h0
          · rw [show decide (((i % rate : Nat) : Int) = 0) = true by rw [h0]; rfl]
            exact yes ⟨hi0, h0⟩
          · rw [show decide (((i % rate : Nat) : Int) = 0) = false by simp; omega]
            exact no (by omega)
        · exact no (by have := of_decide_eq_false hc; omega)
      · rintro again y w16 ⟨hyn, H⟩
        refine ite_false (by simp) ⟨y, rfl, ?_, H.mod⟩
        rw [hre]
        exact H.fresh0 3 rfl
end Go.Proofs.YtdnhoebcomffoaaGreatDoor
end
section
set_option linter.unusedVariables false
set_option linter.unusedSimpArgs false
/- THE PROGRAM'S SPONGE TELLS WHAT THE DOCUMENT'S DOES: plain lists. -/
namespace Go.Proofs.YtdnhoebcomffoaaGreatDoor
open Go Go.Ev
theorem flip_flip (ws : List B64) (i : Nat) (x y : B8) (h : i / 8 < ws.length) : flip (flip ws i x) i y = flip ws i (x ^^^ y) := by
  unfold flip
  rw [List.set_set]
  congr 1
  have : g (ws.set (i / 8) (g ws (i / 8) ^^^ BitVec.setWidth 64 x <<< (8 * (i % 8)))) (i / 8) = g ws (i / 8) ^^^ BitVec.setWidth 64 x <<< (8 * (i % 8)) := by
    simp [g, h]
  rw [this, BitVec.xor_assoc, BitVec.setWidth_xor, BitVec.shiftLeft_xor_distrib]
theorem flip_zero (ws : List B64) (i : Nat) : flip ws i 0 = ws := by
  unfold flip
  have h0 : (BitVec.setWidth 64 (0 : B8)) <<< (8 * (i % 8)) = (0 : B64) := by
    rw [show BitVec.setWidth 64 (0 : B8) = (0 : B64) from rfl]; exact BitVec.zero_shiftLeft _
  rw [h0, show g ws (i / 8) ^^^ (0 : B64) = g ws (i / 8) from BitVec.xor_zero]
  rcases Nat.lt_or_ge (i / 8) ws.length with h | h
  · have : g ws (i / 8) = ws[i / 8] := by simp [g, h]
    rw [this, List.set_getElem_self]
  · rw [List.set_eq_of_length_le h]
/-- a block goes in, byte by byte -/
theorem absorb_block (rate : Nat) (a : List B64) (bl : List B8) (hb : bl.length = rate) (k : Nat) (hk : k < rate) : absorb rate (a, 0) (bl.take k) = (mixU bl a k, k) := by
  induction k with
  | zero => rfl
  | succ k ih =>
    rw [take_succ_getD _ _ (by omega) 0, absorb_append, ih (by omega)]
    show turn rate (flip (mixU bl a k) k (bl.getD k 0), k + 1) = _
    unfold turn
    rw [if_neg (by show ¬ k + 1 = rate; omega), show mixU bl a (k + 1) = flip (mixU bl a k) k (bl.getD k 0) from up_succ _ _ _]
theorem absorb_block' (rate : Nat) (hr : 0 < rate) (a : List B64) (bl : List B8) (hb : bl.length = rate) : absorb rate (a, 0) bl = (perm (mix a bl), 0) := by
  obtain ⟨k, rfl⟩ : ∃ k, rate = k + 1 := ⟨rate - 1, by omega⟩
  have e : bl = bl.take k ++ [bl.getD k 0] := by rw [← take_succ_getD _ _ (by omega) 0, ← hb, List.take_length]
  have h1 := absorb_block (k + 1) a bl hb k (by omega)
  have h2 : mix a bl = flip (mixU bl a k) k (bl.getD k 0) := by unfold mix; rw [hb]; exact up_succ _ _ _
  rw [h2]
  conv => lhs; rw [e]
  rw [absorb_append, h1]
  show turn (k + 1) (flip (mixU bl a k) k (bl.getD k 0), k + 1) = _
  unfold turn
  rw [if_pos rfl]
theorem absorb_blocks (rate : Nat) (hr : 0 < rate) (p : List B8) (m : Nat) (hm : rate * m ≤ p.length) : absorb rate (z25, 0) (p.take (rate * m)) = (blocks rate p z25 m, 0) := by
  induction m with
  | zero => rfl
  | succ m ih =>
    rw [Nat.mul_add, Nat.mul_one] at hm
    have e : p.take (rate * (m + 1)) = p.take (rate * m) ++ (p.drop (rate * m)).take rate := by rw [Nat.mul_add, Nat.mul_one, List.take_add]
    rw [e, absorb_append, ih (by omega), absorb_block' rate hr _ _ (by rw [List.length_take, List.length_drop]; omega)]
    rw [show blocks rate p z25 (m + 1) = perm (mix (blocks rate p z25 m) ((p.drop (rate * m)).take rate)) from up_succ _ _ _]
/-- where it stands -/
theorem absorb_at (rate : Nat) (hr : 0 < rate) (l : List B8) : ∀ (s : List B64 × Nat), s.2 < rate → (absorb rate s l).2 = (s.2 + l.length) % rate := by
  induction l with
  | nil => intro s h; exact (Nat.mod_eq_of_lt h).symm
  | cons x r ih =>
    intro s h
    show (absorb rate (inB rate s x) r).2 = _
    have h1 : (inB rate s x).2 < rate ∧ (inB rate s x).2 % rate = (s.2 + 1) % rate := by
      unfold inB turn
      split
      · rename_i e
        have e' : s.2 + 1 = rate := e
        exact ⟨hr, by rw [e', Nat.mod_self]; rfl⟩
      · rename_i e
        have e' : ¬ s.2 + 1 = rate := e
        exact ⟨by show s.2 + 1 < rate; omega, rfl⟩
    rw [ih _ h1.1, Nat.add_mod, h1.2, ← Nat.add_mod, List.length_cons]
    congr 1; omega
theorem absorb_zeros (rate : Nat) (ws : List B64) : ∀ (k at_ : Nat), at_ + k < rate → absorb rate (ws, at_) (List.replicate k 0) = (ws, at_ + k)
  | 0, at_, _ => rfl
  | k + 1, at_, h => by
    show absorb rate (inB rate (ws, at_) 0) (List.replicate k 0) = _
    have e : inB rate (ws, at_) 0 = (ws, at_ + 1) := by
      unfold inB turn
      rw [if_neg (by show ¬ at_ + 1 = rate; omega)]
      show (flip ws at_ 0, at_ + 1) = _
      rw [flip_zero]
    rw [e, absorb_zeros rate ws k (at_ + 1) (by omega)]
    congr 1; omega
theorem padded_eq (rate : Nat) (hr : 8 ≤ rate) (hr2 : rate ≤ 192) (suf : B8) (l : List B8) :
    absorb rate (z25, 0) (padded rate suf l) = (perm (close rate suf (absorb rate (z25, 0) l)).1, 0) := by
  have hat := absorb_at rate (by omega) l (z25, 0) (by show 0 < rate; omega)
  have hf : Fits rate (absorb rate (z25, 0) l) := Fits.absorb l ⟨rfl, by show 0 < rate; omega⟩
  rw [Nat.zero_add] at hat
  rcases hs : absorb rate (z25, 0) l with ⟨ws, at_⟩
  rw [hs] at hat hf
  have hat : at_ = l.length % rate := hat
  have hlt : at_ < rate := hf.2
  have hws : ws.length = 25 := hf.1
  obtain ⟨k, hk, hak⟩ : ∃ k, (rate - (l.length + 1) % rate) % rate = k ∧ at_ + 1 + k = rate := by
    refine ⟨_, rfl, ?_⟩
    have h1 : (l.length + 1) % rate = (at_ + 1) % rate := by rw [hat, Nat.add_mod, Nat.mod_eq_of_lt (by omega : 1 < rate)]
    rcases Nat.lt_or_ge (at_ + 1) rate with h | h
    · rw [h1, Nat.mod_eq_of_lt h, Nat.mod_eq_of_lt (by omega : rate - (at_ + 1) < rate)]; omega
    · rw [h1, show at_ + 1 = rate by omega, Nat.mod_self, Nat.sub_zero, Nat.mod_self]; omega
  have hz : zpad rate (l ++ [suf]) = l ++ ([suf] ++ List.replicate k 0) := by
    unfold zpad
    rw [List.length_append, List.length_cons, List.length_nil, hk, List.append_assoc]
  have hp : padded rate suf l = l ++ ([suf] ++ List.replicate k 0).set k (([suf] ++ List.replicate k 0).getD k 0 ^^^ 128) := by
    show (zpad rate (l ++ [suf])).set ((zpad rate (l ++ [suf])).length - 1) ((zpad rate (l ++ [suf])).getD ((zpad rate (l ++ [suf])).length - 1) 0 ^^^ 128) = _
    have hlen : (zpad rate (l ++ [suf])).length - 1 = l.length + k := by rw [hz]; simp
    rw [hlen, hz, List.set_append_right _ _ (by omega), Nat.add_sub_cancel_left]
    congr 3
    rw [List.getD_eq_getElem?_getD, List.getD_eq_getElem?_getD, List.getElem?_append_right (by omega), Nat.add_sub_cancel_left]
  rw [hp, absorb_append, hs]
  unfold close
  cases k with
  | zero =>
    show turn rate (flip ws at_ (suf ^^^ 128), at_ + 1) = _
    unfold turn
    rw [if_pos (by show at_ + 1 = rate; omega)]
    rw [show rate - 1 = at_ by omega, flip_flip _ _ _ _ (by rw [hws]; omega)]
  | succ k =>
    have e : ([suf] ++ List.replicate (k + 1) 0).set (k + 1) (([suf] ++ List.replicate (k + 1) 0).getD (k + 1) 0 ^^^ 128) = [suf] ++ List.replicate k 0 ++ [128] := by
      have h1 : ([suf] ++ List.replicate (k + 1) (0 : B8)).getD (k + 1) 0 = 0 := by simp
      rw [h1, List.replicate_succ', ← List.append_assoc, List.set_append_right _ _ (by simp)]
      have h2 : k + 1 - ([suf] ++ List.replicate k (0 : B8)).length = 0 := by simp
      rw [h2]
      rfl
    rw [e, absorb_append, absorb_append]
    have e1 : absorb rate (ws, at_) [suf] = (flip ws at_ suf, at_ + 1) := by
      show turn rate (flip ws at_ suf, at_ + 1) = _
      unfold turn
      rw [if_neg (by show ¬ at_ + 1 = rate; omega)]
    rw [e1, absorb_zeros rate _ k (at_ + 1) (by omega)]
    show turn rate (flip (flip ws at_ suf) (at_ + 1 + k) 128, at_ + 1 + k + 1) = _
    unfold turn
    rw [if_pos (by show at_ + 1 + k + 1 = rate; omega)]
    rw [show at_ + 1 + k = rate - 1 by omega]
theorem squeeze_outs (rate : Nat) (hr : 8 ≤ rate) (hr8 : rate % 8 = 0) (a : List B64) (n : Nat) :
    (squeeze rate (a, rate) n).1 = (outs rate (perm a) n).1 ∧ (squeeze rate (a, rate) n).2 = (if n = 0 then (a, rate) else ((outs rate (perm a) n).2, (n - 1) % rate + 1)) := by
  induction n with
  | zero => exact ⟨rfl, rfl⟩
  | succ n ih =>
    obtain ⟨h1, h2⟩ := ih
    have hturn : turn rate (squeeze rate (a, rate) n).2 = ((outs rate (perm a) (n + 1)).2, n % rate) := by
      rw [h2, outs_succ]
      simp only [outStep]
      cases n with
      | zero =>
        rw [if_pos rfl, if_neg (by omega)]
        unfold turn
        rw [if_pos rfl, Nat.zero_mod]
        rfl
      | succ n =>
        rw [if_neg (by omega)]
        unfold turn
        have hlt := Nat.mod_lt n (show 0 < rate by omega)
        have hm : (n + 1) % rate = if n % rate + 1 = rate then 0 else n % rate + 1 := by
          rw [Nat.add_mod, Nat.mod_eq_of_lt (by omega : 1 < rate)]
          split
          · rename_i h; rw [h, Nat.mod_self]
          · rw [Nat.mod_eq_of_lt (by omega)]
        simp only [Nat.add_sub_cancel]
        split
        · rename_i h
          rw [if_pos h] at hm
          rw [if_pos ⟨by omega, hm⟩, hm]
        · rename_i h
          rw [if_neg h] at hm
          rw [if_neg (by omega), hm]
    rw [squeeze_succ]
    unfold outB
    rw [hturn]
    refine ⟨?_, ?_⟩
    · show (squeeze rate (a, rate) n).1 ++ [byteAt ((outs rate (perm a) (n + 1)).2, n % rate)] = _
      rw [h1]
      conv => rhs; rw [outs_succ]
      rw [outs_succ]
      simp only [outStep, byteAt]
      rw [Nat.mod_mod_of_dvd n (Nat.dvd_of_mod_eq_zero hr8)]
    · rw [if_neg (by omega), Nat.add_sub_cancel]
theorem refOut_eq (rate : Nat) (hr : 8 ≤ rate) (hr2 : rate ≤ 192) (hr8 : rate % 8 = 0) (suf : B8) (l : List B8) (n : Nat) :
    refOut rate suf l n = (squeeze rate (close rate suf (absorb rate (z25, 0) l)) n).1 := by
  have hp := padded_eq rate hr hr2 suf l
  have hm : rate * ((padded rate suf l).length / rate) = (padded rate suf l).length := by
    have h1 := Nat.div_add_mod (padded rate suf l).length rate
    have h2 := zpad_len (show 0 < rate by omega) (l ++ [suf])
    rw [← length_padded] at h2
    omega
  have hb := absorb_blocks rate (by omega) (padded rate suf l) ((padded rate suf l).length / rate) (by omega)
  rw [hm, List.take_length, hp] at hb
  unfold refOut
  rw [← (Prod.mk.inj hb).1]
  exact (squeeze_outs rate hr hr8 _ n).1.symm
end Go.Proofs.YtdnhoebcomffoaaGreatDoor
end
section
set_option linter.unusedVariables false
set_option linter.unusedSimpArgs false
/- WHAT THE STATEMENTS SHARE, and the four: what each function computes. -/
namespace Go.Proofs.YtdnhoebcomffoaaGreatDoor
open Go Go.Ev
/-- what comes out -/
def spOut (rate : Nat) (suf : B8) (l : List B8) (n : Int) : List B8 := if 1 ≤ n ∧ n ≤ 1048576 then refOut rate suf l n.toNat else []
theorem spOut_nat (rate : Nat) (suf : B8) (l : List B8) (n : Nat) (h : 1 ≤ n) (h2 : n ≤ 1048576) : spOut rate suf l (n : Int) = refOut rate suf l n := by
  unfold spOut
  rw [if_pos (by omega), Int.toNat_natCast]
theorem sponge_of_ok (rate : Nat) (hr : 8 ≤ rate) (hr2 : rate ≤ 192) (hr8 : rate % 8 = 0) (suf : B8) (hm : mayBe rate suf = true) (n : Int) (parts : SlV) (ls : List (List B8)) (w : World) (hp : Parts w [] parts ls)
    (hsmall : parts.n < 1000000 ∧ ∀ l ∈ ls, l.length < 1000000000) :
    Ok Pr f_sponge_of [.int .i64 (rate : Int), .int .u8 (suf.toNat : Int), .int .i64 n, .slice parts.a parts.n parts.c] w fun v w' => ∃ y : SlV, v = .slice y.a y.n y.c ∧ Own w' w.heap.size t_uint8 1 y (u8s (spOut rate suf ls.flatten n)) ∧ Mod [] w w' := by
  refine V_sponge_of_of ?_
  unfold V_sponge_of
  refine call_of (sponge_New_ok rate suf hm w) ?_
  rintro _ w1 ⟨b, rfl, h1, hb, m1⟩
  have H := (Mine.start w).gotblk m1 h1 hb
  have hp1 : Parts w1 [b] parts ls := (hp.new (T := [b]) fun c hc => .inr (by simp only [List.mem_singleton] at hc; subst hc; exact hb)).mod m1.of_nil
  refine asP_p (call_of (sponge_Write_ok hr2 (s := (z25, 0)) ⟨rfl, by show 0 < rate; omega⟩ b parts ls _ h1 hp1 hsmall) ?_)
  rintro _ w2 ⟨rfl, h2, m2⟩
  have hf : Fits rate (absorb rate (z25, 0) ls.flatten) := Fits.absorb _ ⟨rfl, by show 0 < rate; omega⟩
  have H2 := H.upd (r' := spr b _ rate _ suf false) 0 rfl m2 (fun c hc => .inl hc) h2 (fun c hc => .inl hc)
  rcases Decidable.em (1 ≤ n ∧ n ≤ 1048576) with hn | hn
  · obtain ⟨k, rfl⟩ : ∃ k : Nat, n = (k : Int) := ⟨n.toNat, by omega⟩
    refine call_of (sponge_Read_ok hr hr2 (gives := false) (s := absorb rate (z25, 0) ls.flatten) hf b k (by omega) (by omega) _ h2) ?_
    rintro _ w3 ⟨x, rfl, hx, h3, m3⟩
    have hml : Mod [] w w3 := H2.mod.trans' m3 fun c hc => .inr (by simp only [List.mem_singleton] at hc; subst hc; exact hb)
    refine asSl_s ⟨x, rfl, ?_, hml⟩
    unfold spOut
    rw [if_pos hn, Int.toNat_natCast, refOut_eq rate hr hr2 hr8]
    obtain ⟨hl, e1 | ⟨gg, cap, cur, e1, e2, e3⟩⟩ := hx
    · exact ⟨hl, .inl e1⟩
    · exact ⟨hl, .inr ⟨gg, cap, cur, e1, Nat.le_trans H2.mod.size e2, e3⟩⟩
  · refine call_of (sponge_Read_no _ n (.inr (by omega)) _) ?_
    rintro _ _ ⟨rfl, rfl⟩
    refine asSl_s (s := ⟨none, 0, 0⟩) ⟨⟨none, 0, 0⟩, rfl, ?_, H2.mod⟩
    unfold spOut
    rw [if_neg hn]
    exact Own.nil _ _ _ _

/-! ### the four, the program's and the document's -/
def Gave (w w' : World) (v : Value) (l : List B8) : Prop := ∃ y : SlV, v = .slice y.a y.n y.c ∧ Own w' w.heap.size t_uint8 1 y (u8s l) ∧ Mod [] w w'
def Small (parts : SlV) (ls : List (List B8)) : Prop := parts.n < 1000000 ∧ ∀ l ∈ ls, l.length < 1000000000
theorem sponge_Shake256_ok (n : Int) (parts : SlV) (ls : List (List B8)) (w : World) (hp : Parts w [] parts ls) (hs : Small parts ls) : Ok Pr f_sponge_Shake256 [.int .i64 n, .slice parts.a parts.n parts.c] w fun v w' => Gave w w' v (spOut 136 31 ls.flatten n) := by
  refine V_sponge_Shake256_of ?_
  unfold V_sponge_Shake256
  refine call_of (sponge_of_ok 136 (by omega) (by omega) rfl 31 rfl n parts ls w hp hs) ?_
  rintro _ w1 ⟨y, rfl, h1, h2⟩
  exact asSl_s ⟨y, rfl, h1, h2⟩
def many (n : Int) : Nat := if 1 ≤ n ∧ n ≤ 1048576 then n.toNat else 0
theorem ref2_Many_ok (n : Int) (w : World) : Ok Pr f_ref2_Many [.int .i64 n] w fun v w' => v = .int .i64 (many n : Int) ∧ w' = w := by
  refine V_ref2_Many_of ?_
  unfold V_ref2_Many many
  refine ite_intro (fun h => ?_) (fun h => ?_)
  · simp only [Bool.or_eq_true, decide_eq_true_eq] at h
    rw [if_neg (by omega)]; exact ⟨rfl, rfl⟩
  · simp only [Bool.or_eq_false_iff, decide_eq_false_iff_not] at h
    rw [if_pos (by omega)]; exact ⟨by congr 1; omega, rfl⟩
theorem refOut_many (rate : Nat) (suf : B8) (l : List B8) (n : Int) : refOut rate suf l (many n) = spOut rate suf l n := by
  unfold many spOut
  split
  · rfl
  · rfl
theorem many_le (n : Int) : many n ≤ 1048576 := by unfold many; split <;> omega
theorem ref2_Shake128_ok (n : Int) (x : SlV) (l : List B8) (w : World) (hx : Bytes w x l) (hl : l.length ≤ 1000000) : Ok Pr f_ref2_Shake128 [.int .i64 n, .slice x.a x.n x.c] w fun v w' => Gave w w' v (spOut 168 31 l n) := by
  refine V_ref2_Shake128_of ?_
  unfold V_ref2_Shake128
  refine call_of (ref2_Many_ok n w) ?_
  rintro _ _ ⟨rfl, rfl⟩
  refine asI_i (call_of (ref2_Out_ok 168 (by omega) (by omega) rfl 31 x l hl _ (many_le n) _ hx) ?_)
  rintro _ w1 ⟨y, rfl, h1, h2⟩
  rw [refOut_many] at h1
  exact asSl_s ⟨y, rfl, h1, h2⟩
theorem ref2_Shake256_ok (n : Int) (x : SlV) (l : List B8) (w : World) (hx : Bytes w x l) (hl : l.length ≤ 1000000) : Ok Pr f_ref2_Shake256 [.int .i64 n, .slice x.a x.n x.c] w fun v w' => Gave w w' v (spOut 136 31 l n) := by
  refine V_ref2_Shake256_of ?_
  unfold V_ref2_Shake256
  refine call_of (ref2_Many_ok n w) ?_
  rintro _ _ ⟨rfl, rfl⟩
  refine asI_i (call_of (ref2_Out_ok 136 (by omega) (by omega) rfl 31 x l hl _ (many_le n) _ hx) ?_)
  rintro _ w1 ⟨y, rfl, h1, h2⟩
  rw [refOut_many] at h1
  exact asSl_s ⟨y, rfl, h1, h2⟩
/-! ### what the statements share -/
def low (x n : Int) : Nat := (x % 18446744073709551616 % n).toNat
theorem low_lt {x n : Int} (h : 0 < n) : (low x n : Int) < n := by
  unfold low
  have := Int.emod_nonneg (x % 18446744073709551616) (show n ≠ 0 by omega)
  have := Int.emod_lt_of_pos (x % 18446744073709551616) h
  omega
theorem law0_Low_ok (x n : Int) (hn : 0 < n) (hn2 : n ≤ 9223372036854775807) (w : World) : Ok Pr f_law0_Low [.int .i64 x, .int .i64 n] w fun v w' => v = .int .i64 (low x n : Int) ∧ w' = w := by
  refine V_law0_Low_of ?_
  unfold V_law0_Low
  have e : IntKind.wrap .u64 n = n := by rw [wrap_u64]; omega
  rw [e, wrap_u64]
  have h1 := Int.emod_nonneg (x % 18446744073709551616) (show n ≠ 0 by omega)
  have h2 := Int.emod_lt_of_pos (x % 18446744073709551616) hn
  refine pos_of hn ⟨Int.emod_nonneg _ (by decide), ⟨by omega, by omega⟩, ?_, rfl⟩
  unfold low
  congr 1
  omega
end Go.Proofs.YtdnhoebcomffoaaGreatDoor
end
section
set_option linter.unusedVariables false
set_option linter.unusedSimpArgs false
/- AN ERROR'S NUMBER: what l.Num computes. -/
namespace Go.Proofs.YtdnhoebcomffoaaGreatDoor
open Go Go.Ev
/-- what the package variable errors.errorType holds -/
def Laid (w : World) : Prop := w.cell? ⟨0, 0, none⟩ = some (.iface t_reflectlite_rtype (.agg #[.pointer (some ⟨1, t_error, none⟩)]))
theorem Laid.mod {w w' : World} (h : Laid w) {S : List Nat} (m : Mod S w w') (h0 : 0 ∉ S) : Laid w' := m.cell h h0
theorem Laid.mine {w0 w : World} {S : List Nat} {L : List Res} (h : Laid w0) (H : Mine w0 S w L) (h0 : 0 ∉ S) : Laid w := h.mod H.mod h0
theorem mod_four (w : World) (o1 o2 o3 o4 : Obj) (p : Nat) (v : Value) : Mod [p] w (((((w.alloc o1).alloc o2).alloc o3).alloc o4).setCell ⟨p, 0, none⟩ v) :=
  ((((Mod.alloc _ w o1).trans (Mod.alloc _ _ o2)).trans (Mod.alloc _ _ o3)).trans (Mod.alloc _ _ o4)).trans (Mod.setCell _ ⟨p, 0, none⟩ v)
theorem blk_four {w : World} {p : Nat} {u : Value} {t : TypeId} (h : Blk w p [u] t) (o1 o2 o3 o4 : Obj) (v : Value) : Blk (((((w.alloc o1).alloc o2).alloc o3).alloc o4).setCell ⟨p, 0, none⟩ v) p [v] t :=
  ((((h.mod0 (Mod.alloc _ _ o1)).mod0 (Mod.alloc _ _ o2)).mod0 (Mod.alloc _ _ o3)).mod0 (Mod.alloc _ _ o4)).set 0 v
theorem errors_As_fault (e : Addr) (p : Nat) (u : Value) (w : World) (hg : Laid w) (hp : Blk w p [u] t_p_api_Fault) :
    Ok Pr f_errors_As [.iface t_p_api_Fault (.pointer (some e)), .iface t_p_p_api_Fault (.pointer (some ⟨p, 0, none⟩))] w fun v w' => v = .bool true ∧ Mod [p] w w' ∧ Blk w' p [.pointer (some e)] t_p_api_Fault := by
  refine Calls.mono (as_hit e ⟨p, 0, none⟩ u w hg ((hp.cell 0).trans rfl) (hp.frozen 0)) ?_
  rintro _ _ ⟨rfl, rfl⟩
  exact ⟨_, rfl, rfl, mod_four _ _ _ _ _ _ _, blk_four hp _ _ _ _ _⟩
theorem errors_As_code (b : Nat) (c : Int) (p : Nat) (u : Value) (w : World) (hg : Laid w) (hc : w.cell? ⟨b, 0, none⟩ = some (.int .i64 c)) (hp : Blk w p [u] t_api_Errno) :
    Ok Pr f_errors_As [.iface t_p_api_Fault (.pointer (some ⟨b, 0, none⟩)), .iface t_p_api_Errno (.pointer (some ⟨p, 0, none⟩))] w fun v w' => v = .bool true ∧ Mod [p] w w' ∧ Blk w' p [.int .i64 c] t_api_Errno := by
  refine Calls.mono (as_code b c ⟨p, 0, none⟩ u w hg hc ((hp.cell 0).trans rfl) (hp.frozen 0)) ?_
  rintro _ _ ⟨rfl, rfl⟩
  exact ⟨_, rfl, rfl, mod_four _ _ _ _ _ _ _, blk_four hp _ _ _ _ _⟩
theorem errors_Is_code (b : Nat) (c : Int) (w : World) (hc : w.cell? ⟨b, 0, none⟩ = some (.int .i64 c)) : Ok Pr f_errors_Is [.iface t_p_api_Fault (.pointer (some ⟨b, 0, none⟩)), .iface t_api_Errno (.int .i64 c)] w fun v w' => v = .bool true ∧ w' = w := by
  refine Calls.mono (is_code b c w hc) ?_
  rintro _ _ ⟨rfl, rfl⟩
  exact ⟨_, rfl, rfl, rfl⟩
theorem zcErrno : zc Pr t_api_Errno = [.int .i64 0] := by kernel_rfl
theorem zcPF : zc Pr t_p_api_Fault = [.pointer none] := by kernel_rfl
theorem api_Code_ok (b : Nat) (c : Int) (w : World) (hg : Laid w) (hc : w.cell? ⟨b, 0, none⟩ = some (.int .i64 c)) : Ok Pr f_api_Code [.iface t_p_api_Fault (.pointer (some ⟨b, 0, none⟩))] w fun v w' => v = .int .i64 c ∧ Mod [] w w' := by
  refine V_api_Code_of ?_
  unfold V_api_Code
  rw [zcErrno]
  refine (Mine.start w).nw fun p w1 H hp => ?_
  refine ifn_iface (ite_false rfl (call_of (errors_As_code b c p _ w1 (hg.mine H (by simp)) (H.mod.cell0 hc) (H.blk 0 rfl)) ?_))
  rintro _ w2 ⟨rfl, m2, h2⟩
  have H2 := H.upd (r' := .blk p [.int .i64 c] t_api_Errno) 0 rfl m2 (fun c hc => .inl hc) h2 (fun c hc => .inl hc)
  exact asB_b (ite_true rfl (H2.ldI 0 rfl rfl rfl ⟨rfl, H2.mod⟩))
theorem law0_Num_nil (w : World) : Ok Pr f_law0_Num [.nilIface] w fun v w' => v = .int .i64 0 ∧ w' = w := by
  refine V_law0_Num_of ?_
  unfold V_law0_Num
  exact ⟨rfl, rfl⟩
theorem law0_Num_ok (b : Nat) (c : Int) (s : ByteArray) (w : World) (hg : Laid w) (hb : Blk w b [.int .i64 c, .string s] t_api_Fault) (hc : c ≠ 0) : Ok Pr f_law0_Num [.iface t_p_api_Fault (.pointer (some ⟨b, 0, none⟩))] w fun v w' => v = .int .i64 c ∧ Mod [] w w' := by
  refine V_law0_Num_of ?_
  unfold V_law0_Num
  rw [zcPF]
  have hb0 : w.cell? ⟨b, 0, none⟩ = some (.int .i64 c) := (hb.cell 0).trans rfl
  refine ifn_iface (ite_false rfl ((Mine.start w).nw fun p w1 H hp => join0_of fun go hgo => ?_))
  have H := H.drew
  refine call_of (errors_As_fault ⟨b, 0, none⟩ p _ _ (hg.mine H (by simp)) (H.blk 0 rfl)) ?_
  rintro _ w3 ⟨rfl, m3, h3⟩
  have H := H.upd (r' := .blk p [.pointer (some ⟨b, 0, none⟩)] t_p_api_Fault) 0 rfl m3 (fun c hc => .inl hc) h3 (fun c hc => .inl hc)
  have hb3 : w3.cell? (Addr.add ⟨b, 0, none⟩ 0) = some (.int .i64 c) := by rw [ad00]; exact H.mod.cell0 hb0
  refine asB_b (H.ldP 0 rfl rfl rfl (H.ldP 0 rfl rfl rfl (ite_false rfl (nc ⟨c, hb3, H.ldP 0 rfl rfl rfl (ite_false (decide_eq_false hc) (nc ⟨c, hb3, ?_⟩))⟩))))
  refine call_of (errors_Is_code b c _ (by rw [← ad00]; exact hb3)) ?_
  rintro _ _ ⟨rfl, rfl⟩
  refine asB_b (H.ldP 0 rfl rfl rfl (ite_false rfl (nc ⟨c, hb3, ?_⟩)))
  refine call_of (api_Code_ok b c _ (hg.mine H (by simp)) (by rw [← ad00]; exact hb3)) ?_
  rintro _ w5 ⟨rfl, m5⟩
  refine asI_i ⟨kept_nil m5 hb3, H.kept m5 0 rfl rfl 1, ite_false (by simp) (hgo w5 ?_)⟩
  have H := H.frame m5
  refine H.ldP 0 rfl rfl rfl (nc ⟨c, ?_, rfl, H.mod⟩)
  rw [ad00]; exact H.mod.cell0 hb0
end Go.Proofs.YtdnhoebcomffoaaGreatDoor
end
section
set_option linter.unusedVariables false
set_option linter.unusedSimpArgs false
/- WHAT THE ROWS' LIST GIVES, and a world for the witness. -/
namespace Go.Proofs.YtdnhoebcomffoaaGreatDoor
open Go Go.Ev Go.ChangeShapes Go.WideShapes Go.ChangeAt Go.RowKit
theorem own : ownKnob Tryz.prog.godebug = none := by kernel_rfl
theorem laidOut : laidOutB Tryz.prog = true := by kernel_rfl
theorem et : Tryz.prog.globalNamed "errors.errorType" = some 0 := by kernel_rfl
theorem rt : (Tryz.prog.cutTypes.find? (·.1 == "internal/reflectlite.rtype")).map (·.2) = some 205 := by kernel_rfl
theorem oneRow : ((List.range 264).filter fun t => Tryz.prog.rowNamed t [101, 114, 114, 111, 114]) = [25] := by kernel_rfl
theorem tsize : Tryz.prog.types.size = 264 := by kernel_rfl
/-- WHAT THE CONDITION GIVES: the variable's one cell. -/
theorem laid_of {W : World} (h : laidMetH Tryz.prog [("errors.errorType", Rows.laid_errors_errorType)] W) : Laid W := by
  have h' : laidMet Tryz.prog [] W ∧ handlesMet Tryz.prog [("errors.errorType", Rows.laid_errors_errorType)] W := h
  obtain ⟨name, u, ty, e1, e2, e3, e4, e5⟩ := h'.2 _ (List.mem_singleton.2 rfl)
  have en : name = [101, 114, 114, 111, 114] := (Option.some.inj e1).symm
  subst en
  obtain rfl := Option.some.inj (rt.symm.trans e2)
  have hm : ty ∈ (List.range 264).filter fun t => Tryz.prog.rowNamed t [101, 114, 114, 111, 114] := List.mem_filter.2 ⟨List.mem_range.2 (by rw [← tsize]; exact e3), e4⟩
  rw [oneRow] at hm
  obtain rfl := List.mem_singleton.1 hm
  have hh : typeHandle Tryz.prog 25 = .pointer (some ⟨1, 25, none⟩) := by kernel_rfl
  rw [hh] at e5
  have := World.var?_cell et e5 0
  simpa [Laid] using this
/-- A world that meets the condition: the settled one, the variable's cell laid. -/
noncomputable def laidWorld (os : Os) : World :=
  let w0 := World.holding Tryz.prog os ⟨#[], #[], []⟩
  { w0 with heap := w0.heap.modify 0 fun
      | .cells _ t frozen => .cells #[.iface 205 (.agg #[.pointer (some ⟨1, 25, none⟩)])] t frozen
      | o => o }
theorem laidWorld_met (os : Os) (args : Array Value) : laidMetH Tryz.prog [("errors.errorType", Rows.laid_errors_errorType)] ((laidWorld os).forCall (fun _ _ => 0) ⟨#[], args, []⟩).memory :=
  laidMetH_of_parts (laidMet_nil _ _) (by kernel_rfl)
end Go.Proofs.YtdnhoebcomffoaaGreatDoor
end
section
set_option linter.unusedVariables false
set_option linter.unusedSimpArgs false
/- ARGUMENTS THAT WERE READ AS DATA: slices of numbers, of bytes, of slices of bytes: words of this claim's author. -/
namespace Go.Ev
open Go Go.RowKit Go.ChangeShapes Go.WideShapes Go.ChangeAt Go.Deep
variable {H : Type} {enc : TypeId × Value → H} {P : Program} {w : World} {held : Bool}
theorem wf_int {k : IntKind} {n : Int} (h : (Lit.int k n).wf = true) : k.min ≤ n ∧ n ≤ k.max := by
  simpa [Lit.wf] using h
theorem b8_of {n : Int} (h : (Lit.int .u8 n).wf = true) : (((BitVec.ofInt 8 n).toNat : Nat) : Int) = n := by
  have h1 := wf_int h
  have e1 : IntKind.min .u8 = 0 := by decide
  have e2 : IntKind.max .u8 = 255 := by decide
  rw [e1, e2] at h1
  rw [BitVec.toNat_ofInt]
  omega
/-- a slice of numbers -/
theorem read_ints {t e : TypeId} {k : IntKind} {v : Value} {d : DataW H} {ps : List MemPlace} (ht : P.underlying t = some (.slice e)) (he : P.underlying e = some (.int k)) (hc : P.cellsOf e = 1) {r : Reach} {base : Nat} (hv : Value.okWide P w r base t v)
    (h : DataW.Trod enc P w 0 (fun _ => true) held t v d ps) : ∃ (s : SlV) (xs : List Int), v = .slice s.a s.n s.c ∧ Ints w s k xs ∧ s.n ≤ 9223372036854775807 := by
  obtain ⟨va, vn, vc, rfl⟩ := Go.WideShapes.okWide_slice ht hv
  obtain ⟨fuel, h⟩ := h
  rcases open_ints ht he hc h with ⟨hcs, -⟩ | ⟨a, len, cap, zs, hcs, -, hl, hm, hz, -, hcell, hw⟩
  · refine ⟨⟨none, 0, 0⟩, [], by simpa [Value.cells] using hcs, ⟨Sl.nil w 1, fun x hx => by cases hx⟩, by show 0 ≤ _; omega⟩
  · simp only [if_true] at hz
    refine ⟨⟨some a, len, cap⟩, zs.take len, by simpa [Value.cells] using hcs, ⟨⟨?_, hl, fun _ => rfl, fun i x hx => ?_⟩, fun x hx => wf_int (hw x (List.mem_of_mem_take hx))⟩, ?_⟩
    · simp only [List.length_map, List.length_take, Nat.mul_one]; omega
    · rw [List.getElem?_map, List.getElem?_take] at hx
      split at hx
      · rename_i hi
        have := hcell i (by omega)
        rw [List.getD_eq_getElem?_getD] at this
        cases hzi : zs[i]? with
        | none => rw [hzi] at hx; cases hx
        | some z =>
          rw [hzi] at hx this
          simp only [Option.map_some, Option.some.injEq] at hx
          subst hx
          exact this
      · cases hx
    · simp only [maxLen] at hm; show len ≤ _; omega
/-- numbers as bytes -/
theorem bytes_of_ints {s : SlV} {xs : List Int} (h : Ints w s .u8 xs) : Bytes w s (xs.map (BitVec.ofInt 8)) := by
  have e : u8s (xs.map (BitVec.ofInt 8)) = xs.map (Value.int .u8) := by
    unfold u8s
    rw [List.map_map]
    refine List.map_congr_left fun x hx => ?_
    have h1 := h.2 x hx
    have e1 : IntKind.min .u8 = 0 := by decide
    have e2 : IntKind.max .u8 = 255 := by decide
    rw [e1, e2] at h1
    show Value.int .u8 _ = _
    congr 1
    rw [BitVec.toNat_ofInt]
    omega
  unfold Bytes
  rw [e]
  exact h.1
theorem read_bytes {t e : TypeId} {v : Value} {d : DataW H} {ps : List MemPlace} (ht : P.underlying t = some (.slice e)) (he : P.underlying e = some (.int .u8)) (hc : P.cellsOf e = 1) {r : Reach} {base : Nat} (hv : Value.okWide P w r base t v)
    (h : DataW.Trod enc P w 0 (fun _ => true) held t v d ps) : ∃ (s : SlV) (l : List B8), v = .slice s.a s.n s.c ∧ Bytes w s l ∧ s.n ≤ 9223372036854775807 := by
  obtain ⟨s, xs, h1, h2, h3⟩ := read_ints ht he hc hv h
  exact ⟨s, _, h1, bytes_of_ints h2, h3⟩
end Go.Ev
end
section
set_option linter.unusedVariables false
set_option linter.unusedSimpArgs false
/- LOOPS of more slots, as they are met: words of this claim's author (printed by a small program). -/
namespace Go.Ev
open Go Go.RowKit
theorem loop4_of {A1 A2 A3 A4 : Type} {mk : A1 → A2 → A3 → A4 → Fr} {body : (A1 → A2 → A3 → A4 → World → Prop) → A1 → A2 → A3 → A4 → World → Prop} {y1 : A1} {y2 : A2} {y3 : A3} {y4 : A4} {v : World} (I : A1 → A2 → A3 → A4 → World → Prop) (μ : A1 → A2 → A3 → A4 → World → Nat) (hi : I y1 y2 y3 y4 v)
    (hb : ∀ (again : A1 → A2 → A3 → A4 → World → Prop) x1 x2 x3 x4 w, I x1 x2 x3 x4 w → (∀ x1' x2' x3' x4' w', I x1' x2' x3' x4' w' → μ x1' x2' x3' x4' w' < μ x1 x2 x3 x4 w → again x1' x2' x3' x4' w') → body again x1 x2 x3 x4 w) : loop4 mk body y1 y2 y3 y4 v := by
  intro X hX
  suffices ∀ n x1 x2 x3 x4 w, μ x1 x2 x3 x4 w < n → I x1 x2 x3 x4 w → X (mk x1 x2 x3 x4) w from this _ y1 y2 y3 y4 v (Nat.lt_succ_self _) hi
  intro n
  induction n with
  | zero => intro x1 x2 x3 x4 w h; omega
  | succ n ih => intro x1 x2 x3 x4 w hn hI; exact hX x1 x2 x3 x4 w (hb _ x1 x2 x3 x4 w hI fun x1' x2' x3' x4' w' h1 h2 => ih x1' x2' x3' x4' w' (by omega) h1)
/-- a loop that counts: from lo up to hi -/
theorem loop4_up {A1 A2 A3 : Type} {mk : A1 → A2 → A3 → Int → Fr} {body : (A1 → A2 → A3 → Int → World → Prop) → A1 → A2 → A3 → Int → World → Prop} {v : World} {z1 : A1} {z2 : A2} {z3 : A3} {y : Int} (lo hi : Nat) (I : Nat → A1 → A2 → A3 → World → Prop) (hy : y = (lo : Int)) (hle : lo ≤ hi) (h0 : I lo z1 z2 z3 v)
    (step : ∀ (again : A1 → A2 → A3 → Int → World → Prop) (i : Nat) x1 x2 x3 w, lo ≤ i → i < hi → I i x1 x2 x3 w → (∀ x1' x2' x3' w', I (i + 1) x1' x2' x3' w' → again x1' x2' x3' ((i : Int) + 1) w') → body again x1 x2 x3 (i : Int) w)
    (done : ∀ (again : A1 → A2 → A3 → Int → World → Prop) x1 x2 x3 w, I hi x1 x2 x3 w → body again x1 x2 x3 (hi : Int) w) : loop4 mk body z1 z2 z3 y v := by
  subst hy
  refine loop4_of (fun x1 x2 x3 x w => ∃ i : Nat, x = (i : Int) ∧ lo ≤ i ∧ i ≤ hi ∧ I i x1 x2 x3 w) (fun _ _ _ x _ => hi - x.toNat) ⟨lo, rfl, Nat.le_refl _, hle, h0⟩ ?_
  rintro again x1 x2 x3 x w ⟨i, rfl, h1, h2, h3⟩ hag
  rcases Nat.lt_or_ge i hi with h | h
  · exact step again i x1 x2 x3 w h1 h h3 fun x1' x2' x3' w' h4 => hag x1' x2' x3' _ w' ⟨i + 1, by simp, by omega, by omega, h4⟩ (by omega)
  · have : i = hi := by omega
    subst this
    exact done again x1 x2 x3 w h3
end Go.Ev
end
section
set_option linter.unusedVariables false
set_option linter.unusedSimpArgs false
/- NUMBERS IN SLICES, and what is reckoned with them bit by bit: words of this claim's author. -/
namespace Go.Ev
open Go Go.RowKit
variable {P : Program}
def i64 (n : Int) : Value := .int .i64 n
def i64s (l : List Int) : List Value := l.map i64
theorem ones_i64s (l : List Int) : ∀ v ∈ i64s l, isOne v = true := by
  intro v hv
  obtain ⟨b, -, rfl⟩ := List.mem_map.1 hv
  rfl
@[simp] theorem length_i64s (l : List Int) : (i64s l).length = l.length := by simp [i64s]
theorem i64s_append (a b : List Int) : i64s (a ++ b) = i64s a ++ i64s b := by simp [i64s]
theorem i64s_set (l : List Int) (i : Nat) (x : Int) : (i64s l).set i (.int .i64 x) = i64s (l.set i x) := by simp [i64s, i64, List.map_set]
theorem i64s_get (l : List Int) (i : Nat) (h : i < l.length) : (i64s l)[i]? = some (.int .i64 (l.getD i 0)) := by simp [i64s, i64, h]
/-- numbers in a slice -/
def Nums (w : World) (s : SlV) (l : List Int) : Prop := Sl w s 1 (i64s l)
theorem Nums.len {w : World} {s : SlV} {l : List Int} (h : Nums w s l) : l.length = s.n := by simpa using Sl.len h
theorem Nums.mod0 {w w' : World} {s : SlV} {l : List Int} (h : Nums w s l) (m : Mod [] w w') : Nums w' s l := Sl.mod0 h m
theorem Nums.some {w : World} {s : SlV} {l : List Int} (h : Nums w s l) (h0 : 0 < s.n) : s.a.isSome = true := h.pre h0
theorem Nums.ld {w : World} {s : SlV} {l : List Int} (h : Nums w s l) {i : Nat} (hi : i < l.length) {x : Int} (hx : x = (i : Int)) {K : Int → Prop} (hk : K (l.getD i 0)) :
    idxS s.a x s.n (ldI .i64 (Addr.add (base s.a) (Int.toNat x * 1)) w K) := by
  subst hx
  have hl := h.len
  refine ⟨⟨h.pre (by omega), by omega, by omega⟩, _, ?_, hk⟩
  rw [Int.toNat_natCast, Nat.mul_one]
  exact h.cell i _ (i64s_get l i hi)
theorem Own.nums {w : World} {lo : Nat} {e : TypeId} {s : SlV} {l : List Int} (h : Own w lo e 1 s (i64s l)) : Nums w s l := h.sl
section
variable {w0 w : World} {S : List Nat} {L : List Res}
theorem Mine.nums (H : Mine w0 S w L) (k : Nat) {e : TypeId} {s : SlV} {l : List Int} (hk : L[k]? = some (.row e 1 s (i64s l))) : Nums w s l := H.rowSl k hk
theorem Mine.stN (H : Mine w0 S w L) (k : Nat) {e : TypeId} {s : SlV} {l : List Int} {i : Nat} {x n : Int} {K : World → Prop} (hk : L[k]? = some (.row e 1 s (i64s l))) (hi : i < l.length) (hx : x = (i : Int))
    (h : ∀ w', Mine w0 S w' (L.set k (.row e 1 s (i64s (l.set i n)))) → K w') : idxS s.a x s.n (Ev.st (Addr.add (base s.a) (Int.toNat x * 1)) (.int .i64 n) w K) := by
  subst hx
  have hl := (H.nums k hk).len
  refine ⟨⟨(H.nums k hk).pre (by omega), by omega, by omega⟩, ?_⟩
  refine H.stRow k hk (i := i) (by rw [Int.toNat_natCast, Nat.mul_one]) (by simpa using hi) rfl fun w' H' => h w' ?_
  rw [← i64s_set]; exact H'
theorem Mine.appN (H : Mine w0 S w L) (k : Nat) {t ty e : TypeId} {s x : SlV} {vs us : List Int} {K : SlV → World → Prop} (hel : Elt P t e 1 8) (hk : L[k]? = some (.row e 1 s (i64s vs))) (hx : Nums w x us)
    (hm : s.n + x.n ≤ 10000000000000) (h : ∀ s' w', Mine w0 S w' (L.set k (.row e 1 s' (i64s (vs ++ us)))) → s'.n = s.n + x.n → K s' w') : appK P [t, t] ty [.slice s.a s.n s.c, .slice x.a x.n x.c] w K :=
  H.app k hel hk hx (ones_i64s us) (by omega) (by omega) fun s' w' H' hn => h s' w' (by rw [i64s_append]; exact H') hn
theorem Mine.appN1 (H : Mine w0 S w L) (k : Nat) {t ty e t1 : TypeId} {s : SlV} {vs : List Int} {n : Int} {K : SlV → World → Prop} (hel : Elt P t e 1 8) (hk : L[k]? = some (.row e 1 s (i64s vs)))
    (hm : s.n ≤ 10000000000000) (h : ∀ s' w', Mine w0 S w' (L.set k (.row e 1 s' (i64s (vs ++ [n])))) → s'.n = s.n + 1 → K s' w') : Ev.nw t1 [.int .i64 n] w fun p w5 => appK P [t, t] ty [.slice s.a s.n s.c, .slice (some p) 1 1] w5 K :=
  H.app1 k hel hk rfl (by simp [isOne]) (by omega) (by omega) fun s' w' H' hn => h s' w' (by rw [i64s_append]; exact H') hn
theorem zeroRow1 (n : Nat) (v : Value) : zeroRow n [v] = List.replicate n v := by
  unfold zeroRow
  induction n with
  | zero => rfl
  | succ n ih => rw [List.replicate_succ, List.flatten_cons, ih]; rfl
theorem zeroRow_i64 (n : Nat) : zeroRow n [.int .i64 0] = i64s (List.replicate n 0) := by rw [zeroRow1]; simp [i64s, i64]
theorem zeroRow_u8 (n : Nat) : zeroRow n [.int .u8 0] = u8s (List.replicate n 0) := by rw [zeroRow1]; simp [u8s, u8]
/-- zeros -/
theorem Mine.mkN (H : Mine w0 S w L) {t e : TypeId} {n : Nat} {x y : Int} {K : SlV → World → Prop} (hel : Elt P t e 1 8) (hz : zc P e = [.int .i64 0]) (hx : x = (n : Int)) (hy : y = (n : Int)) (hn : n ≤ 1000000000)
    (h : ∀ s w', Mine w0 S w' (L ++ [.row e 1 s (i64s (List.replicate n 0))]) → s.n = n → K s w') : mkSl P e x y w K := by
  refine H.mkS hel hx hy (Nat.le_refl n) (by omega) (by omega) fun b w' H' _ => h _ w' ?_ rfl
  rw [hz, zeroRow_i64, Nat.mul_one, List.take_of_length_le (by simp)] at H'
  exact H'
theorem Mine.mkU (H : Mine w0 S w L) {t e : TypeId} {n : Nat} {x y : Int} {K : SlV → World → Prop} (hel : Elt P t e 1 1) (hz : zc P e = [.int .u8 0]) (hx : x = (n : Int)) (hy : y = (n : Int)) (hn : n ≤ 1000000000)
    (h : ∀ s w', Mine w0 S w' (L ++ [.row e 1 s (u8s (List.replicate n 0))]) → s.n = n → K s w') : mkSl P e x y w K := by
  refine H.mkS hel hx hy (Nat.le_refl n) (by omega) (by omega) fun b w' H' _ => h _ w' ?_ rfl
  rw [hz, zeroRow_u8, Nat.mul_one, List.take_of_length_le (by simp)] at H'
  exact H'
end
/-! ### numbers, bit by bit -/
theorem wrap_i64 {n : Int} (h1 : -9223372036854775808 ≤ n) (h2 : n < 9223372036854775808) : IntKind.wrap .i64 n = n := by
  have e : IntKind.wrap .i64 n = if n % 18446744073709551616 ≥ 9223372036854775808 then n % 18446744073709551616 - 18446744073709551616 else n % 18446744073709551616 := by
    simp [IntKind.wrap, IntKind.signed, IntKind.bits]
  rw [e]
  split <;> omega
theorem andN {a b : Nat} (ha : a < 9223372036854775808) (hb : b < 9223372036854775808) : andI .i64 (a : Int) (b : Int) = ((a &&& b : Nat) : Int) := by
  unfold andI
  have e : (BitVec.ofInt (IntKind.bits .i64) (a : Int) &&& BitVec.ofInt (IntKind.bits .i64) (b : Int)).toNat = a &&& b := by
    rw [BitVec.toNat_and]
    show (BitVec.ofInt 64 (a : Int)).toNat &&& (BitVec.ofInt 64 (b : Int)).toNat = _
    rw [BitVec.toNat_ofInt, BitVec.toNat_ofInt]
    congr 1 <;> omega
  rw [e]
  have : a &&& b ≤ a := Nat.and_le_left
  exact wrap_i64 (by omega) (by omega)
theorem orN {a b : Nat} (ha : a < 9223372036854775808) (hb : b < 9223372036854775808) : orI .i64 (a : Int) (b : Int) = ((a ||| b : Nat) : Int) := by
  unfold orI
  have e : (BitVec.ofInt (IntKind.bits .i64) (a : Int) ||| BitVec.ofInt (IntKind.bits .i64) (b : Int)).toNat = a ||| b := by
    rw [BitVec.toNat_or]
    show (BitVec.ofInt 64 (a : Int)).toNat ||| (BitVec.ofInt 64 (b : Int)).toNat = _
    rw [BitVec.toNat_ofInt, BitVec.toNat_ofInt]
    congr 1 <;> omega
  rw [e]
  have : a ||| b < 2 ^ 63 := Nat.or_lt_two_pow (by omega) (by omega)
  exact wrap_i64 (by omega) (by omega)
theorem shlN {a k : Nat} (hk : k ≤ 64) (h : a * 2 ^ k < 9223372036854775808) : shl .i64 (a : Int) (k : Int) = ((a * 2 ^ k : Nat) : Int) := by
  unfold shl
  rw [Int.toNat_natCast, show IntKind.bits .i64 = 64 from rfl, Nat.min_eq_left hk]
  have e : ((a : Int) * 2 ^ k) = ((a * 2 ^ k : Nat) : Int) := by rw [Int.natCast_mul, Int.natCast_pow]; rfl
  rw [e]
  exact wrap_i64 (by omega) (by omega)
theorem shrN {a k : Nat} (ha : a < 9223372036854775808) : shr .i64 (a : Int) (k : Int) = ((a / 2 ^ k : Nat) : Int) := by
  unfold shr
  rw [show IntKind.bits .i64 = 64 from rfl, Int.toNat_natCast, Int.fdiv_eq_ediv_of_nonneg _ (by exact Int.le_of_lt (Int.pow_pos (by decide)))]
  have e : a / 2 ^ k = a / 2 ^ (min k 64) := by
    rcases Nat.le_total k 64 with h | h
    · rw [Nat.min_eq_left h]
    · rw [Nat.min_eq_right h, Nat.div_eq_of_lt (Nat.lt_of_lt_of_le (show a < 2 ^ 64 by omega) (Nat.pow_le_pow_right (by decide) h)), Nat.div_eq_of_lt (by omega)]
  rw [e, Int.natCast_ediv, Int.natCast_pow]
  rfl
/-- bytes as a number, the lowest first -/
def num : List B8 → Nat
  | [] => 0
  | b :: r => b.toNat + 256 * num r
theorem num_append (l m : List B8) : num (l ++ m) = num l + 2 ^ (8 * l.length) * num m := by
  induction l with
  | nil => simp [num]
  | cons a r ih =>
    simp only [List.cons_append, num, ih, List.length_cons, Nat.mul_add, Nat.mul_one, Nat.pow_add]
    rw [show (2 : Nat) ^ 8 = 256 from rfl]
    generalize 2 ^ (8 * r.length) = p
    have : 256 * (p * num m) = p * 256 * num m := by rw [Nat.mul_comm p 256, Nat.mul_assoc]
    omega
theorem num_lt (l : List B8) : num l < 2 ^ (8 * l.length) := by
  induction l with
  | nil => simp [num]
  | cons a r ih =>
    simp only [num, List.length_cons, Nat.mul_add, Nat.mul_one, Nat.pow_add]
    rw [show (2 : Nat) ^ 8 = 256 from rfl]
    have := a.isLt
    generalize 2 ^ (8 * r.length) = p at *
    omega
theorem num_take_succ (l : List B8) (k : Nat) (h : k < l.length) : num (l.take (k + 1)) = num (l.take k) + 2 ^ (8 * k) * (l.getD k 0).toNat := by
  rw [List.take_succ_eq_append_getElem h, num_append, List.length_take, Nat.min_eq_left (by omega)]
  simp [num, h]
theorem num_take (l : List B8) (k : Nat) (h : k ≤ l.length) : num l = num (l.take k) + 2 ^ (8 * k) * num (l.drop k) := by
  have := num_append (l.take k) (l.drop k)
  rw [List.take_append_drop, List.length_take, Nat.min_eq_left h] at this
  exact this
/-- what lies above does not matter -/
theorem low_of (a r c p d : Nat) (h : p + d ≤ c) : (a + 2 ^ c * r) / 2 ^ p % 2 ^ d = a / 2 ^ p % 2 ^ d := by
  obtain ⟨e, rfl⟩ := Nat.exists_eq_add_of_le h
  have e1 : 2 ^ (p + d + e) * r = 2 ^ p * (2 ^ d * (2 ^ e * r)) := by rw [Nat.pow_add, Nat.pow_add]; simp only [Nat.mul_assoc]
  rw [e1, Nat.add_mul_div_left _ _ (Nat.pow_pos (by decide)), Nat.add_mul_mod_self_left]
/-- the i-th of a number's parts of d bits -/
def ptk (N d i : Nat) : Nat := N / 2 ^ (d * i) % 2 ^ d
theorem ptk_take (l : List B8) (k d i : Nat) (hk : k ≤ l.length) (h : d * (i + 1) ≤ 8 * k) : ptk (num (l.take k)) d i = ptk (num l) d i := by
  unfold ptk
  rw [num_take l k hk, low_of _ _ _ _ _ (by rw [Nat.mul_succ] at h; exact h)]
theorem ptk_lt (N d i : Nat) : ptk N d i < 2 ^ d := Nat.mod_lt _ (Nat.pow_pos (by decide))
/-- numbers of d bits that bytes have -/
def unpack (d : Nat) (l : List B8) : List Int := (List.range (8 * l.length / d)).map fun i => ((ptk (num l) d i : Nat) : Int)
theorem and_low (x d : Nat) : x &&& (2 ^ d - 1) = x % 2 ^ d := Nat.and_two_pow_sub_one_eq_mod x d
theorem or_high {x n y : Nat} (h : x < 2 ^ n) : x ||| (y * 2 ^ n) = x + y * 2 ^ n := by
  rw [Nat.mul_comm y, Nat.or_comm, ← Nat.two_pow_add_eq_or_of_lt h, Nat.add_comm]
end Go.Ev
end
section
set_option linter.unusedVariables false
set_option linter.unusedSimpArgs false
/- ERRORS AS PARTS OF A CALL'S OWN MEMORY; answers of a list and an error: words of this claim's author. -/
namespace Go.Ev
open Go Go.RowKit
/-- a part that is there already -/
theorem Mine.add {w0 w : World} {S : List Nat} {L : List Res} {r : Res} (H : Mine w0 S w L) (hr : r.ok w) (ho : ∀ b ∈ r.fp, b ∈ S ∨ w0.heap.size ≤ b) (hd : ∀ (k : Nat) (s : Res), L[k]? = some s → ∀ b ∈ s.fp, b ∉ r.fp) : Mine w0 S w (L ++ [r]) := by
  have e : ∀ {k : Nat} {s : Res}, (L ++ [r])[k]? = some s → (L[k]? = some s ∧ k < L.length) ∨ (s = r ∧ k = L.length) := fun {k s} h => by
    rcases Nat.lt_or_ge k L.length with hk | hk
    · rw [List.getElem?_append_left hk] at h; exact .inl ⟨h, hk⟩
    · rw [List.getElem?_append_right hk] at h
      rcases Nat.eq_zero_or_pos (k - L.length) with e | e
      · rw [e] at h; simp at h; exact .inr ⟨h.symm, by omega⟩
      · rw [List.getElem?_eq_none (by simp; omega)] at h; cases h
  refine ⟨H.mod, fun k s hs => ?_, fun k s hs b hb => ?_, fun j k s t hjk hs ht b hb hb' => ?_⟩
  · rcases e hs with ⟨h, _⟩ | ⟨rfl, _⟩
    · exact H.ok k s h
    · exact hr
  · rcases e hs with ⟨h, _⟩ | ⟨rfl, _⟩
    · exact H.own k s h b hb
    · exact ho b hb
  · rcases e hs with ⟨h, _⟩ | ⟨rfl, hj⟩
    · rcases e ht with ⟨h', _⟩ | ⟨rfl, _⟩
      · exact H.apart j k s t hjk h h' b hb hb'
      · exact hd j s h b hb hb'
    · rcases e ht with ⟨h', _⟩ | ⟨rfl, hk⟩
      · exact hd k t h' b hb' hb
      · omega
/-- two parts that a call hands out -/
theorem Mine.push2 {w0 w w' : World} {S : List Nat} {L : List Res} {r s : Res} (H : Mine w0 S w L) (m : Mod [] w w') (hr : r.ok w') (hs : s.ok w') (hrf : ∀ b ∈ r.fp, w.heap.size ≤ b) (hsf : ∀ b ∈ s.fp, w.heap.size ≤ b) (hd : ∀ b ∈ r.fp, b ∉ s.fp) : Mine w0 S w' (L ++ [r, s]) := by
  have H1 := H.push m hr hrf
  have H2 := H1.add hs (fun b hb => .inr (Nat.le_trans H.mod.size (hsf b hb))) fun k t ht b hb hb' => by
    rcases Nat.lt_or_ge k L.length with hk | hk
    · rw [List.getElem?_append_left hk] at ht
      have := t.lt w (H.ok k t ht) b hb
      have := hsf b hb'
      omega
    · rw [List.getElem?_append_right hk] at ht
      rcases Nat.eq_zero_or_pos (k - L.length) with e | e
      · rw [e] at ht; simp at ht; subst ht; exact hd b hb hb'
      · rw [List.getElem?_eq_none (by simp; omega)] at ht; cases ht
  rw [List.append_assoc] at H2
  exact H2
/-- 'append([]T(nil), x...)' -/
theorem Mine.clone {P : Program} {w0 w : World} {S : List Nat} {L : List Res} (H : Mine w0 S w L) {t ty e : TypeId} {sz bytes : Nat} {x : SlV} {us : List Value} {K : SlV → World → Prop} (hel : Elt P t e sz bytes) (hx : Sl w x sz us) (h1 : ∀ u ∈ us, isOne u = true) (hm : x.n * bytes ≤ 140737488355328) (hm2 : x.n ≤ 9223372036854775807)
    (h : ∀ s' w', Mine w0 S w' (L ++ [.row e sz s' us]) → s'.n = x.n → K s' w') : appK P [t, t] ty [.slice none 0 0, .slice x.a x.n x.c] w K := by
  have H1 := H.nilrow e sz
  refine H1.app (s := ⟨none, 0, 0⟩) (vs := []) L.length hel (by simp) hx h1 (by rw [Nat.zero_add]; exact hm) (by rw [Nat.zero_add]; exact hm2) fun s' w' H' hn => h s' w' ?_ (by rw [hn]; exact Nat.zero_add _)
  rw [List.set_append_right _ _ (Nat.le_refl _), Nat.sub_self, List.nil_append] at H'
  exact H'
theorem Mine.clone8 {P : Program} {w0 w : World} {S : List Nat} {L : List Res} (H : Mine w0 S w L) {t ty e : TypeId} {x : SlV} {us : List B8} {K : SlV → World → Prop} (hel : Elt P t e 1 1) (hx : Bytes w x us) (hm : x.n ≤ 10000000000000)
    (h : ∀ s' w', Mine w0 S w' (L ++ [.row e 1 s' (u8s us)]) → s'.n = x.n → K s' w') : appK P [t, t] ty [.slice none 0 0, .slice x.a x.n x.c] w K :=
  H.clone hel hx (ones_u8s us) (by omega) (by omega) h
theorem Mine.cloneN {P : Program} {w0 w : World} {S : List Nat} {L : List Res} (H : Mine w0 S w L) {t ty e : TypeId} {x : SlV} {us : List Int} {K : SlV → World → Prop} (hel : Elt P t e 1 8) (hx : Nums w x us) (hm : x.n ≤ 10000000000000)
    (h : ∀ s' w', Mine w0 S w' (L ++ [.row e 1 s' (i64s us)]) → s'.n = x.n → K s' w') : appK P [t, t] ty [.slice none 0 0, .slice x.a x.n x.c] w K :=
  H.clone hel hx (ones_i64s us) (by omega) (by omega) h
end Go.Ev
namespace Go.Proofs.YtdnhoebcomffoaaGreatDoor
open Go Go.Ev
/-- an error of this number, or none (0) -/
def ErrAt (w : World) (e : Value) (c : Int) : Prop := (e = .nilIface ∧ c = 0) ∨ ∃ b s, e = .iface t_p_api_Fault (.pointer (some ⟨b, 0, none⟩)) ∧ Blk w b [.int .i64 c, .string s] t_api_Fault ∧ c ≠ 0
def errB : Value → List Nat
  | .iface _ (.pointer (some a)) => [a.block]
  | _ => []
def Res.err (e : Value) (c : Int) : Res where
  fp := errB e
  ok w := ErrAt w e c
  stab w w' h k := by
    rcases k with k | ⟨b, s, rfl, hb, hc⟩
    · exact .inl k
    · exact .inr ⟨b, s, rfl, (h b (by simp [errB])).trans hb, hc⟩
  lt w h b hb := by
    rcases h with ⟨rfl, _⟩ | ⟨a, s, rfl, h, _⟩
    · cases hb
    · simp only [errB, List.mem_singleton] at hb; subst hb; exact h.lt
def IsErr (w w' : World) (e : Value) (c : Int) : Prop := ErrAt w' e c ∧ ∀ b ∈ errB e, w.heap.size ≤ b
theorem IsErr.zero (w w' : World) : IsErr w w' .nilIface 0 := ⟨.inl ⟨rfl, rfl⟩, fun b hb => by cases hb⟩
theorem IsErr.mk {w w' : World} {b : Nat} {c : Int} {s : ByteArray} (h : Blk w' b [.int .i64 c, .string s] t_api_Fault) (hb : w.heap.size ≤ b) (hc : c ≠ 0) : IsErr w w' (.iface t_p_api_Fault (.pointer (some ⟨b, 0, none⟩))) c :=
  ⟨.inr ⟨b, s, rfl, h, hc⟩, fun a ha => by simp only [errB, List.mem_singleton] at ha; subst ha; exact hb⟩
theorem IsErr.from {w0 w w' : World} {e : Value} {c : Int} (h : IsErr w w' e c) (hs : w0.heap.size ≤ w.heap.size) : IsErr w0 w' e c := ⟨h.1, fun b hb => Nat.le_trans hs (h.2 b hb)⟩
/-- is there one? -/
theorem ErrAt.isNil {w : World} {e : Value} {c : Int} (h : ErrAt w e c) {K : Bool → Prop} (hk : K (decide (c = 0))) : ifaceNil e K := by
  rcases h with ⟨rfl, rfl⟩ | ⟨b, s, rfl, _, hc⟩
  · exact hk
  · rw [decide_eq_false hc] at hk; exact hk
theorem law0_Num_err (e : Value) (c : Int) (w : World) (hg : Laid w) (h : ErrAt w e c) : Ok Pr f_law0_Num [e] w fun v w' => v = .int .i64 c ∧ Mod [] w w' := by
  rcases h with ⟨rfl, rfl⟩ | ⟨b, s, rfl, hb, hc⟩
  · refine (law0_Num_nil w).mono ?_
    rintro _ _ ⟨rfl, rfl⟩
    exact ⟨rfl, Mod.refl _ _⟩
  · exact law0_Num_ok b c s w hg hb hc
/-- a list and an error -/
def Gave2 (e : TypeId) (sz : Nat) (w w' : World) (v : Value) (vs : List Value) (c : Int) : Prop :=
  ∃ (y : SlV) (er : Value), v = .tuple ⟨[.slice y.a y.n y.c, er]⟩ ∧ Own w' w.heap.size e sz y vs ∧ IsErr w w' er c ∧ (c ≠ 0 → y = ⟨none, 0, 0⟩) ∧ Mod [] w w'
/-- a list and a number -/
def GaveC (e : TypeId) (sz : Nat) (w w' : World) (v : Value) (vs : List Value) (c : Int) : Prop :=
  ∃ y : SlV, v = .tuple ⟨[.slice y.a y.n y.c, .int .i64 c]⟩ ∧ Own w' w.heap.size e sz y vs ∧ Mod [] w w'
theorem Gave2.no {e : TypeId} {sz : Nat} {w w' : World} {er : Value} {c : Int} (h : IsErr w w' er c) (m : Mod [] w w') : Gave2 e sz w w' (.tuple ⟨[.slice none 0 0, er]⟩) [] c :=
  ⟨⟨none, 0, 0⟩, er, rfl, Own.nil _ _ _ _, h, fun _ => rfl, m⟩
theorem Gave2.yes {e : TypeId} {sz : Nat} {w w' : World} {y : SlV} {vs : List Value} (h : Own w' w.heap.size e sz y vs) (m : Mod [] w w') : Gave2 e sz w w' (.tuple ⟨[.slice y.a y.n y.c, .nilIface]⟩) vs 0 :=
  ⟨y, .nilIface, rfl, h, IsErr.zero _ _, fun h => absurd rfl h, m⟩
theorem _root_.Go.Ev.Mine.got2 {w0 w w' : World} {S : List Nat} {L : List Res} (H : Mine w0 S w L) {e : TypeId} {sz : Nat} {y : SlV} {er : Value} {vs : List Value} {c : Int} (m : Mod [] w w') (hy : Own w' w.heap.size e sz y vs) (he : IsErr w w' er c) (hn : c ≠ 0 → y = ⟨none, 0, 0⟩) :
    Mine w0 S w' (L ++ [.row e sz y vs, Res.err er c]) :=
  Mine.push2 H m hy.lo he.1 (fun b hb => (Own.row_ge hy b hb).1) he.2 fun b hb hb' => by
    rcases he.1 with ⟨rfl, _⟩ | ⟨_, _, _, _, hc⟩
    · cases hb'
    · rw [hn hc] at hb; cases hb
theorem _root_.Go.Ev.Mine.err {w0 w : World} {S : List Nat} {L : List Res} (H : Mine w0 S w L) (k : Nat) {e : Value} {c : Int} (hk : L[k]? = some (Res.err e c)) : ErrAt w e c := H.ok k _ hk
/-- an error alone -/
theorem _root_.Go.Ev.Mine.gotE {w0 w w' : World} {S : List Nat} {L : List Res} (H : Mine w0 S w L) {er : Value} {c : Int} (m : Mod [] w w') (he : IsErr w w' er c) : Mine w0 S w' (L ++ [Res.err er c]) := H.push m he.1 he.2
theorem elt_i64' : Elt Pr t_s_int t_int 1 8 := Elt.of (by kernel_rfl)
end Go.Proofs.YtdnhoebcomffoaaGreatDoor
end
section
set_option linter.unusedVariables false
set_option linter.unusedSimpArgs false
/- THE SPONGE, more: words that all layers above use. -/
namespace Go.Ev
open Go Go.RowKit
/-- a part turns, and a new one is handed out, by one call -/
theorem Mine.updGot {w0 w w' : World} {S T : List Nat} {L : List Res} (H : Mine w0 S w L) (k : Nat) {r r' n : Res} (hk : L[k]? = some r) (m : Mod T w w') (hT : ∀ b ∈ T, b ∈ r.fp) (hr : r'.ok w') (hf : ∀ b ∈ r'.fp, b ∈ r.fp) (hn : n.ok w') (hnf : ∀ b ∈ n.fp, w.heap.size ≤ b) :
    Mine w0 S w' (L.set k r' ++ [n]) := by
  have H' := H.upd k hk m (fun b hb => .inl (hT b hb)) hr (fun b hb => .inl (hf b hb))
  have old : ∀ (j : Nat) (s : Res), (L.set k r')[j]? = some s → ∀ b ∈ s.fp, b < w.heap.size := by
    intro j s hs b hb
    rw [List.getElem?_set] at hs
    split at hs
    · split at hs
      · obtain rfl := Option.some.inj hs
        exact r.lt w (H.ok k r hk) b (hf b hb)
      · cases hs
    · exact s.lt w (H.ok j s hs) b hb
  have e : ∀ {j : Nat} {s : Res}, (L.set k r' ++ [n])[j]? = some s → ((L.set k r')[j]? = some s ∧ j < (L.set k r').length) ∨ (s = n ∧ j = (L.set k r').length) := fun {j s} h => by
    rcases Nat.lt_or_ge j (L.set k r').length with hj | hj
    · rw [List.getElem?_append_left hj] at h; exact .inl ⟨h, hj⟩
    · rw [List.getElem?_append_right hj] at h
      rcases Nat.eq_zero_or_pos (j - (L.set k r').length) with e | e
      · rw [e] at h; simp at h; exact .inr ⟨h.symm, by omega⟩
      · rw [List.getElem?_eq_none (by simp at e ⊢; omega)] at h; cases h
  refine ⟨H'.mod, fun j s hs => ?_, fun j s hs b hb => ?_, fun i j s t hij hs ht b hb hb' => ?_⟩
  · rcases e hs with ⟨h, _⟩ | ⟨rfl, _⟩
    · exact H'.ok j s h
    · exact hn
  · rcases e hs with ⟨h, _⟩ | ⟨rfl, _⟩
    · exact H'.own j s h b hb
    · exact .inr (Nat.le_trans H.mod.size (hnf b hb))
  · rcases e hs with ⟨h, hi⟩ | ⟨rfl, hi⟩
    · rcases e ht with ⟨h', _⟩ | ⟨rfl, _⟩
      · exact H'.apart i j s t hij h h' b hb hb'
      · have := old i s h b hb; have := hnf b hb'; omega
    · rcases e ht with ⟨h', _⟩ | ⟨rfl, hj⟩
      · have := old j t h' b hb'; have := hnf b hb; omega
      · omega
/-- a slice of slices that was made for a call -/
theorem Parts.ofs {w : World} {S : List Nat} {b : Nat} {ss : List SlV} {ls : List (List B8)} {t : TypeId} (h : Blk w b (ss.map SlV.v) t) (hb : b ∉ S) (hl : ss.length = ls.length) (hx : ∀ (i : Nat) (x : SlV) (l : List B8), ss[i]? = some x → ls[i]? = some l → Bytes w x l ∧ off S x) :
    Parts w S ⟨some ⟨b, 0, none⟩, ss.length, ss.length⟩ ls :=
  ⟨ss, (by
    have := h.sl 1 ss.length ss.length (by simp) (by omega)
    rw [Nat.mul_one, List.take_of_length_le (by simp)] at this
    exact this), fun _ a ha => by simp only [Option.some.injEq] at ha; subst ha; exact hb, hl, hx⟩
theorem Parts.of2b {w : World} {S : List Nat} {b : Nat} {x y : SlV} {l m : List B8} {t : TypeId} (h : Blk w b [x.v, y.v] t) (hb : b ∉ S) (hx : Bytes w x l) (ox : off S x) (hy : Bytes w y m) (oy : off S y) : Parts w S ⟨some ⟨b, 0, none⟩, 2, 2⟩ [l, m] :=
  Parts.ofs (ss := [x, y]) h hb rfl fun i z k hz hk => by
    match i with
    | 0 =>
      simp only [List.getElem?_cons_zero, Option.some.injEq] at hz hk
      subst hz hk; exact ⟨hx, ox⟩
    | 1 =>
      simp only [List.getElem?_cons_succ, List.getElem?_cons_zero, Option.some.injEq] at hz hk
      subst hz hk; exact ⟨hy, oy⟩
    | i + 2 => simp at hz
/-- one part alone -/
theorem Mine.only {w0 w : World} {S : List Nat} {L : List Res} (H : Mine w0 S w L) (k : Nat) {r : Res} (hk : L[k]? = some r) : Mine w0 S w [r] :=
  ⟨H.mod, fun j s hs => by
    match j with
    | 0 => simp at hs; subst hs; exact H.ok k _ hk
    | j + 1 => simp at hs, fun j s hs => by
    match j with
    | 0 => simp at hs; subst hs; exact H.own k _ hk
    | j + 1 => simp at hs, fun i j s t hij hs ht => by
    match i, j with
    | 0, 0 => exact absurd rfl hij
    | 0, j + 1 => simp at ht
    | i + 1, _ => simp at hs⟩
/-- two parts alone -/
theorem Mine.two {w0 w : World} {S : List Nat} {L : List Res} (H : Mine w0 S w L) (k l : Nat) {r s : Res} (hk : L[k]? = some r) (hl : L[l]? = some s) (hkl : k ≠ l) : Mine w0 S w [r, s] :=
  (H.only k hk).add (H.ok l _ hl) (H.own l _ hl) fun j u hj b hb => by
    match j with
    | 0 =>
      simp at hj; subst hj
      exact H.apart k l _ _ hkl hk hl b hb
    | j + 1 => simp at hj
/-- bytes of a block that a call made -/
theorem Mine.blkBytes {w0 w : World} {S : List Nat} {L : List Res} (H : Mine w0 S w L) (k : Nat) {b : Nat} {l : List B8} {t : TypeId} (hk : L[k]? = some (.blk b (u8s l) t)) : Bytes w ⟨some ⟨b, 0, none⟩, l.length, l.length⟩ l := by
  have := (H.blk k hk).sl 1 l.length l.length (by simp) (Nat.le_refl _)
  rw [Nat.mul_one, List.take_of_length_le (by simp)] at this
  exact this
/-- 'append(s, make([]T, m)...)' where there is room -/
theorem run_append_zeros {P : Program} (w : World) (t ti ty e : TypeId) (i : TypeInfo) (z : Value) {k : IntKind} (ht : P.underlying t = some (.slice e)) (hti : P.underlying ti = some (.int k)) (hi : P.info? e = some i) (hz : i.zero = some z)
    (g sLen sCap m : Nat) (cur : Array Value) (hg : w.heap[g]? = some (.cells cur e (0, 0))) (hs : i.size = 1) (v : Value) (hzc : z.cells = #[v]) (hv : v.oneCell' = true) (hm : m * i.bytes ≤ 281474976710656) (hm2 : m < 9223372036854775808)
    (hroom : sLen + m ≤ sCap) (hfit : sLen + m ≤ cur.size) :
    (Builtin.append_ #[t, ti] ty #[.slice (some ⟨g, 0, none⟩) sLen sCap, .int .i64 (m : Int)]).run P w =
      .ok (.slice (some ⟨g, 0, none⟩) (sLen + m) sCap) (w.setRow g (cur.toList.take sLen ++ List.replicate m v ++ cur.toList.drop (sLen + m)).toArray) := by
  have hwr : IntKind.wrap .i64 (m : Int) = (m : Int) := wrap_i64 (by omega) (by omega)
  have hle : ¬ ((m : Int) * (i.bytes : Int) > 2 ^ 48) := by
    have e1 : ((m : Int) * (i.bytes : Int)) = ((m * i.bytes : Nat) : Int) := by rw [Int.natCast_mul]
    rw [e1, show (2 : Int) ^ 48 = 281474976710656 by decide]
    omega
  have hle' : ¬ (281474976710656 < (m : Int) * (i.bytes : Int)) := fun h => hle (by rw [show (2 : Int) ^ 48 = 281474976710656 by decide]; exact h)
  have hzs : (Builtin.zeroCells z.cells m).toList = List.replicate m v := by
    unfold Builtin.zeroCells
    rw [hzc]
    refine List.ext_getElem (by simp) fun j h1 h2 => ?_
    simp [Nat.mod_one]
  have hst := run_storeCells_at (P := P) g (sLen * i.size) e (List.replicate m v) 0 cur w hg (by rw [hs, List.length_replicate]; omega) fun u hu => by rw [List.eq_of_mem_replicate hu]; exact hv
  simp only [Nat.add_zero, hs, Nat.mul_one, List.length_replicate] at hst
  rcases Nat.eq_zero_or_pos m with rfl | h0
  · have hset : (w.setRow g (cur.toList.take sLen ++ List.replicate 0 v ++ cur.toList.drop (sLen + 0)).toArray) = w := by
      have := setRow_self w g cur e (0, 0) hg
      simpa using this
    rw [hset]
    simp [Builtin.append_, run_underlying ht, run_underlying hti, Go.sizeOf, Go.typeInfo, hi, asInt, asIntOf, show sLen ≤ sCap by omega, storeCells, show IntKind.wrap .i64 0 = 0 by decide]
  · have hne : ¬ m * i.size = 0 := by rw [hs]; omega
    simp [Builtin.append_, run_underlying ht, run_underlying hti, Go.sizeOf, Go.typeInfo, hi, asInt, asIntOf, hwr, show ¬ ((m : Int) < 0) by omega, hle', hroom, hs, zeroValue, hz, hzs, Addr.add_lit, hst, show ¬ m = 0 by omega]
end Go.Ev
namespace Go.Proofs.YtdnhoebcomffoaaGreatDoor
open Go Go.Ev
set_option linter.unusedVariables false
theorem gives_ready {rate : Nat} {suf : B8} {gives : Bool} {s : List B64 × Nat} (h : if gives then Gives rate s else Fits rate s) : Gives rate (ready rate suf gives s) := by
  cases gives with
  | true => exact h
  | false => exact ⟨(length_flip _ _ _).trans ((length_flip _ _ _).trans h.1), Nat.le_refl _⟩
theorem small1 {parts : SlV} {l : List B8} (hn : parts.n = 1) (hl : l.length ≤ 1000000) : Small parts [l] := ⟨by omega, fun m hm => by rw [List.mem_singleton.1 hm]; omega⟩
theorem spOut_len (rate : Nat) (suf : B8) (l : List B8) (n : Nat) (h : n ≤ 1048576) : (spOut rate suf l (n : Int)).length = n := by
  unfold spOut
  split
  · rw [Int.toNat_natCast, length_refOut]
  · simp only [List.length_nil]; omega
theorem outs_take (rate : Nat) (a : List B64) (ha : a.length = 25) (n k : Nat) : (outs rate a (n + k)).1.take n = (outs rate a n).1 := by
  induction k with
  | zero => rw [Nat.add_zero, List.take_of_length_le (Nat.le_of_eq (length_outs rate a ha n).1)]
  | succ k ih =>
    rw [← Nat.add_assoc, outs_succ]
    simp only [outStep]
    rw [List.take_append_of_le_length (by rw [(length_outs rate a ha (n + k)).1]; omega)]
    exact ih
theorem spOut_take (rate : Nat) (suf : B8) (l : List B8) (lo hi : Nat) (h : lo ≤ hi) (h2 : hi ≤ 1048576) : (spOut rate suf l (hi : Int)).take lo = spOut rate suf l (lo : Int) := by
  rcases Nat.eq_zero_or_pos lo with rfl | h0
  · rw [List.take_zero]
    unfold spOut
    rw [if_neg (by omega)]
  · rw [spOut_nat _ _ _ _ (by omega) (by omega), spOut_nat _ _ _ _ (by omega) (by omega)]
    obtain ⟨k, rfl⟩ : ∃ k, hi = lo + k := ⟨hi - lo, by omega⟩
    exact outs_take rate _ (length_blocks _ _ _) lo k
theorem squeeze_add (rate : Nat) (s : List B64 × Nat) (m n : Nat) : squeeze rate s (m + n) = ((squeeze rate s m).1 ++ (squeeze rate (squeeze rate s m).2 n).1, (squeeze rate (squeeze rate s m).2 n).2) := by
  induction n with
  | zero => simp [squeeze, up_zero]
  | succ n ih =>
    rw [← Nat.add_assoc, squeeze_succ, ih, squeeze_succ]
    simp [outB, List.append_assoc]
/-- bytes go into a sponge that is a part of the call's own memory -/
theorem _root_.Go.Ev.Mine.swrite {w0 w : World} {S : List Nat} {L : List Res} (H : Mine w0 S w L) (k : Nat) {b rate : Nat} {s : List B64 × Nat} {suf : B8} (hk : L[k]? = some (spr b s.1 rate s.2 suf false)) (hr : rate ≤ 192) (hs : Fits rate s) {parts : SlV} {ls : List (List B8)}
    (hp : Parts w [b] parts ls) (hsmall : Small parts ls) {K : Value → World → Prop} (h : ∀ w', Mod [b] w w' → Mine w0 S w' (L.set k (spr b (absorb rate s ls.flatten).1 rate (absorb rate s ls.flatten).2 suf false)) → K .nilIface w') :
    callK Pr f_sponge_Sponge_Write [.pointer (some ⟨b, 0, none⟩), .slice parts.a parts.n parts.c] w K := by
  refine call_of (sponge_Write_ok hr hs b parts ls _ (H.blk k hk) hp hsmall) ?_
  rintro _ w1 ⟨rfl, h1, m1⟩
  exact h w1 m1 (H.upd k hk m1 (fun c hc => .inl hc) h1 (fun c hc => .inl hc))
theorem fits0 {rate : Nat} (h : 8 ≤ rate) : Fits rate ((z25, 0) : List B64 × Nat) := ⟨rfl, by show 0 < rate; omega⟩
/-- the sponge's state behind m bytes that came out -/
def gst (rate : Nat) (suf : B8) (s : List B64 × Nat) (m : Nat) : List B64 × Nat := if m = 0 then s else (squeeze rate (close rate suf s) m).2
def ggv (m : Nat) : Bool := decide (0 < m)
theorem ready_gst (rate : Nat) (suf : B8) (s : List B64 × Nat) (m : Nat) : ready rate suf (ggv m) (gst rate suf s m) = (squeeze rate (close rate suf s) m).2 := by
  unfold gst ggv ready
  rcases Nat.eq_zero_or_pos m with rfl | h
  · rfl
  · rw [if_pos (by simp; omega), if_neg (by omega)]
theorem gst_ok {rate : Nat} {suf : B8} {s : List B64 × Nat} (hr : 8 ≤ rate) (hs : Fits rate s) (m : Nat) : if ggv m = true then Gives rate (gst rate suf s m) else Fits rate (gst rate suf s m) := by
  unfold gst ggv
  rcases Nat.eq_zero_or_pos m with rfl | h
  · simpa using hs
  · rw [if_neg (show ¬ m = 0 by omega), if_pos (by simp [h])]
    exact (gives_ready (gives := false) hs).squeeze (by omega) m
theorem smallOf {parts : SlV} {ls : List (List B8)} (hn : parts.n < 1000000) (h : ∀ l ∈ ls, l.length ≤ 1000000) : Small parts ls := ⟨hn, fun l hl => by have := h l hl; omega⟩
theorem small2b {parts : SlV} {l m : List B8} (hn : parts.n = 2) (hl : l.length ≤ 1000000) (hm : m.length ≤ 1000000) : Small parts [l, m] := smallOf (by omega) fun k hk => by
  simp only [List.mem_cons, List.not_mem_nil, or_false] at hk
  rcases hk with rfl | rfl <;> omega
theorem wrap_u8_any (n : Int) : IntKind.wrap .u8 n = ((BitVec.ofInt 8 n).toNat : Int) := by
  rw [wrap_u8, BitVec.toNat_ofInt]
  omega
end Go.Proofs.YtdnhoebcomffoaaGreatDoor
end
section
set_option linter.unusedVariables false
set_option linter.unusedSimpArgs false
/- ROWS: zeros behind, parts of a block overwritten, two walks' memory joined. -/
namespace Go.Ev
open Go
set_option maxRecDepth 20000
set_option linter.unusedVariables false
/-- the memory of a call's own walk, behind the caller's -/
theorem Mine.join {w0 w w' : World} {S : List Nat} {L L2 : List Res} (H : Mine w0 S w L) (H2 : Mine w [] w' L2) : Mine w0 S w' (L ++ L2) := by
  have HF := H.frame H2.mod
  have own2 : ∀ (k : Nat) (r : Res), L2[k]? = some r → ∀ b ∈ r.fp, w.heap.size ≤ b := fun k r hk b hb => (H2.own k r hk b hb).resolve_left (by simp)
  have lt1 : ∀ (k : Nat) (r : Res), L[k]? = some r → ∀ b ∈ r.fp, b < w.heap.size := fun k r hk b hb => r.lt w (H.ok k r hk) b hb
  have split : ∀ (k : Nat) (r : Res), (L ++ L2)[k]? = some r → (k < L.length ∧ L[k]? = some r) ∨ (L.length ≤ k ∧ L2[k - L.length]? = some r) := fun k r hk => by
    rcases Nat.lt_or_ge k L.length with h | h
    · rw [List.getElem?_append_left h] at hk; exact .inl ⟨h, hk⟩
    · rw [List.getElem?_append_right h] at hk; exact .inr ⟨h, hk⟩
  refine ⟨HF.mod, fun k r hk => ?_, fun k r hk b hb => ?_, fun j k r s hjk hj hk b hb hbs => ?_⟩
  · rcases split k r hk with ⟨_, h⟩ | ⟨_, h⟩
    · exact HF.ok k r h
    · exact H2.ok _ r h
  · rcases split k r hk with ⟨_, h⟩ | ⟨_, h⟩
    · exact HF.own k r h b hb
    · exact .inr (Nat.le_trans H.mod.size (own2 _ r h b hb))
  · rcases split j r hj with ⟨h0, h⟩ | ⟨h0, h⟩ <;> rcases split k s hk with ⟨h1, h'⟩ | ⟨h1, h'⟩
    · exact HF.apart j k r s hjk h h' b hb hbs
    · have := lt1 j r h b hb
      have := own2 _ s h' b hbs
      omega
    · have := lt1 k s h' b hbs
      have := own2 _ r h b hb
      omega
    · exact H2.apart _ _ r s (by omega) h h' b hb hbs
theorem zeroCells_one {z : Value} {v : Value} (hz : z.cells = #[v]) (m : Nat) : (Builtin.zeroCells z.cells m).toList = List.replicate m v := by
  unfold Builtin.zeroCells
  rw [hz]
  refine List.ext_getElem (by simp) fun j h1 h2 => ?_
  simp [Nat.mod_one]
section
variable {P : Program}
theorem run_appZ {t ti ty e : TypeId} {q : IntKind} {bytes lo m : Nat} {s : SlV} {v : Value} {vs : List Value} {w : World} (hel : Elt P t e 1 bytes) (hti : P.underlying ti = some (.int q)) (hz : zc P e = [v]) (hv : isOne v = true) (hs : Own w lo e 1 s vs)
    (hb : (s.n + m) * bytes ≤ 140737488355328) (hm : s.n + m ≤ 1000000000) (hlo : lo ≤ w.heap.size) :
    ∃ s' : SlV, ∃ w', (Builtin.append_ #[t, ti] ty #[s.v, .int .i64 (m : Int)]).run P w = .ok s'.v w' ∧ Own w' lo e 1 s' (vs ++ List.replicate m v) ∧ Mod s.row w w' ∧ s'.n = s.n + m ∧ (∀ b ∈ s'.row, b ∈ s.row ∨ w.heap.size ≤ b) := by
  obtain ⟨i, z, hi, hzz, hsz, hby, hzs⟩ := hel.info
  have hzc : z.cells = #[v] := by
    have : z.cells.toList = [v] := by
      have h2 : zc P e = z.cells.toList := by unfold zc; rw [hi]; simp only [hzz]
      rw [← h2]; exact hz
    rw [← Array.toArray_toList (xs := z.cells), this]
  have hv' : v.oneCell' = true := by cases v <;> first | rfl | cases hv
  have hmb : m * i.bytes ≤ 281474976710656 := by
    rw [hby]
    have : m * bytes ≤ (s.n + m) * bytes := Nat.mul_le_mul_right _ (by omega)
    omega
  obtain ⟨sa, sn, sc⟩ := s
  dsimp only at hb hm
  -- a new row
  have grow : ∀ (ba : Option Addr), sc < sn + m → 0 < m → vs.length = sn → (Builtin.firstCells i.size sn (.slice ba sn sc)).run P w.drew = .ok vs.toArray w.drew → ∃ s' : SlV, ∃ w', (Builtin.append_ #[t, ti] ty #[.slice ba sn sc, .int .i64 (m : Int)]).run P w = .ok s'.v w' ∧ Own w' lo e 1 s' (vs ++ List.replicate m v) ∧ Mod (SlV.row ⟨sa, sn, sc⟩) w w' ∧ s'.n = sn + m ∧ (∀ b ∈ s'.row, b ∈ SlV.row ⟨sa, sn, sc⟩ ∨ w.heap.size ≤ b) := by
    intro ba hg h0 hvs hold
    have hr := Go.Lib.run_append_grow_zeros (P := P) w t ti ty e i z .i64 q hel.und hti hi hzz ba sn sc vs hold m h0 (by omega) hg (by omega) hmb (growslice_fits hg (by rw [hby]; exact hb))
    have hge := grownCap_ge w (sn + m) sc e
    have hcm : grownCap w (sn + m) sc e ≤ maxLen := grownCap_le_maxLen w (sn + m) sc e (by simp only [maxLen]; omega)
    refine ⟨⟨some ⟨w.heap.size, 0, none⟩, sn + m, grownCap w (sn + m) sc e⟩, _, hr, ⟨?_, .inr ⟨w.heap.size, _, _, rfl, hlo, heap_alloc_new w.drew _, hge, hcm, ?_, ?_⟩⟩, (Mod.drew _ w).trans (Mod.alloc _ w.drew _), rfl, ?_⟩
    · rw [List.length_append, List.length_replicate]; show vs.length + m = (sn + m) * 1; omega
    · simp only [Array.size_append, List.size_toArray, size_zeroCells, hzs, hvs]
      omega
    · simp only [Array.toList_append, zeroCells_one hzc]
      rw [List.take_left' (by rw [List.length_append, List.length_replicate]; omega)]
    · intro b hb
      simp only [SlV.row, List.mem_singleton] at hb
      exact .inr (by omega)
  have hvl : vs.length = sn := by have := hs.1; simpa using this
  rcases hs.2 with ⟨hv, hn⟩ | ⟨g, cap, cur, hv, hlg, hg, hnc, hcm, hcs, htake⟩
  · simp only [SlV.v, Value.slice.injEq] at hv
    obtain ⟨rfl, rfl, rfl⟩ := hv
    rcases Nat.eq_zero_or_pos m with rfl | h0
    · refine ⟨⟨none, 0, 0⟩, w, ?_, by simpa using hs, Mod.refl _ _, rfl, fun b hb => .inl hb⟩
      simp [SlV.v, Builtin.append_, run_underlying hel.und, run_underlying hti, Go.sizeOf, Go.typeInfo, hi, asInt, asIntOf, show IntKind.wrap .i64 0 = 0 by decide]
    · have hvs : vs = [] := List.eq_nil_of_length_eq_zero hvl
      subst hvs
      exact grow none (by omega) h0 rfl (run_firstCells_none w.drew i.size 0 0 0)
  · simp only [SlV.v, Value.slice.injEq] at hv
    obtain ⟨rfl, -, rfl⟩ := hv
    by_cases hroom : sn + m ≤ sc
    · have hr := run_append_zeros (P := P) w t ti ty e i z hel.und hti hi hzz g sn sc m cur hg hsz v hzc hv' hmb (by omega) hroom (by omega)
      refine ⟨⟨some ⟨g, 0, none⟩, sn + m, sc⟩, _, hr, ⟨by rw [List.length_append, List.length_replicate]; show vs.length + m = (sn + m) * 1; omega, .inr ⟨g, sc, _, rfl, hlg, setRow_heap w g cur _ e (0, 0) hg, hroom, hcm, ?_, ?_⟩⟩, ⟨rfl, rfl, rfl, by simp, fun j _ hj => setRow_other w g j _ (fun e => hj (by simp [SlV.row, e]))⟩, rfl, fun b hb => .inl hb⟩
      · simp only [List.size_toArray, List.length_append, List.length_take, List.length_replicate, List.length_drop, Array.length_toList]
        omega
      · rw [Nat.mul_one] at htake
        show ((cur.toList.take sn ++ List.replicate m v ++ cur.toList.drop (sn + m)).toArray.toList.take ((sn + m) * 1)) = _
        rw [List.toList_toArray, htake, Nat.mul_one, List.take_left' (by rw [List.length_append, List.length_replicate]; omega)]
    · have holds : ∀ j u, vs[j]? = some u → w.cell? ((⟨g, 0, none⟩ : Addr).add j) = some u := World.ownsRow.cells (g := g) hs rfl
      have hnc' : sn ≤ sc := hnc
      have hm0 : 0 < m := by omega
      exact grow (some ⟨g, 0, none⟩) (by omega) hm0 hvl (run_firstCells_some (P := P) w.drew i.size sn ⟨g, 0, none⟩ sn sc vs (by rw [hsz, Nat.mul_one]; exact hvl) (by simpa using holds))
theorem Mine.appZr {w0 w : World} {S : List Nat} {L : List Res} (H : Mine w0 S w L) (k : Nat) {t ti ty e : TypeId} {q : IntKind} {bytes m : Nat} {s : SlV} {x : Int} {v : Value} {vs : List Value} {K : SlV → World → Prop} (hel : Elt P t e 1 bytes) (hti : P.underlying ti = some (.int q)) (hz : zc P e = [v]) (hv : isOne v = true)
    (hk : L[k]? = some (.row e 1 s vs)) (hx : x = (m : Int)) (hb : (s.n + m) * bytes ≤ 140737488355328) (hm : s.n + m ≤ 1000000000)
    (h : ∀ s' w', Mine w0 S w' (L.set k (.row e 1 s' (vs ++ List.replicate m v))) → s'.n = s.n + m → K s' w') : appK P [t, ti] ty [.slice s.a s.n s.c, .int .i64 x] w K := by
  subst hx
  obtain ⟨s', w', hr, h2, h3, h4, h5⟩ := run_appZ (ty := ty) hel hti hz hv (H.own' k hk) hb hm (Nat.zero_le _)
  exact ⟨_, w', hr, s', rfl, h s' w' (H.upd k hk h3 (fun b hb => .inl hb) h2 h5) h4⟩
end
end Go.Ev
namespace Go.Proofs.YtdnhoebcomffoaaGreatDoor
open Go Go.Ev
set_option linter.unusedVariables false
end Go.Proofs.YtdnhoebcomffoaaGreatDoor
end
section
set_option linter.unusedVariables false
set_option linter.unusedSimpArgs false
/- WHAT THE CODE OF EACH FUNCTION ASKS FOR, by a program of this claim's author (vc.py); each is held against the code by the kernel. -/
namespace Go.Proofs.YtdnhoebcomffoaaGreatDoor
open Go Go.Ev
set_option maxRecDepth 100000
set_option linter.unusedVariables false
def V_sift_Ball (setv : Int) (seed : SlV) (w : World) (R : Value → World → Prop) : Prop :=
 callK Pr f_lay_Of [.int .i64 setv] w fun a b =>
 destr.asArr' a fun c =>
 uncons c fun d e =>
 as_lay_Set d fun f g i j k l m n o =>
 uncons e fun p q =>
 asB p fun s =>
 (q = [] ∧
 nw t_lay_Set (zc Pr t_lay_Set) b fun t u =>
 sT_lay_Set t f g i j k l m n o u fun v =>
 iteP (!s)
 (callK Pr f_sift_fault [.int .i64 2] v fun x y =>
 R (.tuple ⟨[.slice none 0 0, x]⟩) y)
 (ldI .i64 (Addr.add t 8) v fun z =>
 iteP (!decide ((seed.n:Int) = z))
 (callK Pr f_sift_fault [.int .i64 3] v fun A B =>
 R (.tuple ⟨[.slice none 0 0, A]⟩) B)
 (callK Pr f_sponge_New [.int .i64 136, .int .u8 31] v fun C D =>
 asP C fun E =>
 nw t_s_uint8 [.slice seed.a seed.n seed.c] D fun F G =>
 callK Pr f_sponge_Sponge_Write [.pointer E, .slice (some F) 1 1] G fun I J =>
 callK Pr f_sponge_Sponge_Read [.pointer E, .int .i64 8] J fun L M =>
 asSl L fun N =>
 mkSl Pr t_int 256 256 M fun O Q =>
 ldI .i64 (Addr.add t 3) Q fun S =>
 (I64 (256 - S) ∧
 loop2 (fun (T : Int) (U : Int) => [(11, some (.int .i64 T)), (12, some (.int .i64 U))])
 (fun V T U X => iteP ((decide (U < 4096)) && (decide (T < 256)))
 (callK Pr f_sponge_Sponge_Read [.pointer E, .int .i64 1] X fun Y Z =>
 asSl Y fun aa =>
 idxS aa.a 0 aa.n
 (ldI .u8 (Addr.add (base aa.a) (Int.toNat 0 * 1)) Z fun ba =>
 (I64 (ba) ∧
 iteP (decide (T < ba))
 ((I64 (U + 1) ∧
 V T (U + 1) Z))
 (ldI .i64 (Addr.add t 3) Z fun ca =>
 (I64 (T + ca) ∧
 (I64 ((T + ca) - 256) ∧
 idxS O.a ba O.n
 (ldI .i64 (Addr.add (base O.a) (Int.toNat ba * 1)) (World.drew Z) fun da =>
 ((0 ≤ (T + ca) - 256 ∧ (T + ca) - 256 ≤ IntKind.max .i64) ∧
 idxS N.a (((T + ca) - 256) / 8) N.n
 (ldI .u8 (Addr.add (base N.a) (Int.toNat (((T + ca) - 256) / 8) * 1)) (World.drew Z) fun ea =>
 (0 ≤ (T + ca) - 256 ∧
 cnt (((T + ca) - 256) % 8) ((I64 (andI .u8 (shr .u8 ea (((T + ca) - 256) % 8)) 1) ∧
 (I64 (2 * (andI .u8 (shr .u8 ea (((T + ca) - 256) % 8)) 1)) ∧
 (I64 (1 - (2 * (andI .u8 (shr .u8 ea (((T + ca) - 256) % 8)) 1))) ∧
 callK Pr f_round_Of [.int .i64 (1 - (2 * (andI .u8 (shr .u8 ea (((T + ca) - 256) % 8)) 1)))] (World.drew Z) fun fa ga =>
 asI .i64 fa fun ia =>
 (kept (Addr.add (base O.a) (Int.toNat ba * 1)) 1 (World.drew Z) ga ∧
 idxS O.a T O.n
 (st (Addr.add (base O.a) (Int.toNat T * 1)) (.int .i64 da) ga fun ja =>
 idxS O.a ba O.n
 (st (Addr.add (base O.a) (Int.toNat ba * 1)) (.int .i64 ia) ja fun ka =>
 (I64 (T + 1) ∧
 (I64 (U + 1) ∧
 V (T + 1) (U + 1) ka)))))))))))))))))))
 (R (.tuple ⟨[.slice O.a O.n O.c, .nilIface]⟩) X))
 (256 - S) 8 Q))))
theorem V_sift_Ball_of {setv : Int} {seed : SlV} {w : World} {R : Value → World → Prop} (h : V_sift_Ball setv seed w R) : Ok Pr f_sift_Ball [.int .i64 setv, .slice seed.a seed.n seed.c] w R :=
 evF_ok (m := ⟨true, true⟩) (J := []) (L := [(12, [(11, .int .i64), (12, .int .i64)])]) good Tryz.func57 (by kernel_rfl) ((by kernel_rfl : evF Pr _ _ _ Tryz.f57 _ w R = V_sift_Ball setv seed w R).mpr h)

def V_ref12_Ball (setv : Int) (seed : SlV) (w : World) (R : Value → World → Prop) : Prop :=
 callK Pr f_ref11_Of [.int .i64 setv] w fun a b =>
 destr.asArr' a fun c =>
 uncons c fun d e =>
 as_ref11_Set d fun f g i j k l m n o =>
 uncons e fun p q =>
 asB p fun s =>
 (q = [] ∧
 nw t_ref11_Set (zc Pr t_ref11_Set) b fun t u =>
 sT_ref11_Set t f g i j k l m n o u fun v =>
 iteP (!s)
 (R (.tuple ⟨[.slice none 0 0, .int .i64 2]⟩) v)
 (ldI .i64 (Addr.add t 8) v fun x =>
 iteP (!decide ((seed.n:Int) = x))
 (R (.tuple ⟨[.slice none 0 0, .int .i64 3]⟩) v)
 (ld_ref11_Set t (World.drew v) fun y z A B C D E F G =>
 callK Pr f_ref2_Shake256 [.int .i64 272, .slice seed.a seed.n seed.c] (World.drew v) fun I J =>
 asSl I fun L =>
 (kept t 9 (World.drew v) J ∧
 callK Pr f_ref12_ball [.agg ⟨[.int .i64 y, .int .i64 z, .int .i64 A, .int .i64 B, .int .i64 C, .int .i64 D, .int .i64 E, .int .i64 F, .int .i64 G]⟩, .slice L.a L.n L.c] J fun M N =>
 destr.asArr' M fun O =>
 uncons O fun Q S =>
 asSl Q fun T =>
 uncons S fun U V =>
 asB U fun X =>
 (V = [] ∧
 iteP (!X)
 (ld_ref11_Set t (World.drew N) fun Y Z aa ba ca da ea fa ga =>
 callK Pr f_ref2_Shake256 [.int .i64 4096, .slice seed.a seed.n seed.c] (World.drew N) fun ia ja =>
 asSl ia fun ka =>
 (kept t 9 (World.drew N) ja ∧
 callK Pr f_ref12_ball [.agg ⟨[.int .i64 Y, .int .i64 Z, .int .i64 aa, .int .i64 ba, .int .i64 ca, .int .i64 da, .int .i64 ea, .int .i64 fa, .int .i64 ga]⟩, .slice ka.a ka.n ka.c] ja fun la ma =>
 destr.asArr' la fun na =>
 uncons na fun oa pa =>
 asSl oa fun qa =>
 uncons pa fun sa ta =>
 asB sa fun ua =>
 (ta = [] ∧
 R (.tuple ⟨[.slice qa.a qa.n qa.c, .int .i64 0]⟩) ma)))
 (R (.tuple ⟨[.slice T.a T.n T.c, .int .i64 0]⟩) N))))))
theorem V_ref12_Ball_of {setv : Int} {seed : SlV} {w : World} {R : Value → World → Prop} (h : V_ref12_Ball setv seed w R) : Ok Pr f_ref12_Ball [.int .i64 setv, .slice seed.a seed.n seed.c] w R :=
 evF_ok (m := ⟨true, true⟩) (J := []) (L := []) good Tryz.func72 (by kernel_rfl) ((by kernel_rfl : evF Pr _ _ _ Tryz.f72 _ w R = V_ref12_Ball setv seed w R).mpr h)

def V_sift_Small (eta : Int) (seed : SlV) (n : Int) (w : World) (R : Value → World → Prop) : Prop :=
 callK Pr f_sift_two [.int .i64 n] w fun a b =>
 destr.asArr' a fun c =>
 uncons c fun d e =>
 asSl d fun f =>
 uncons e fun g i =>
 asB g fun j =>
 (i = [] ∧
 join0 []
 (fun k => callK Pr f_sponge_New [.int .i64 136, .int .u8 31] k fun l m =>
 asP l fun o =>
 nw t_s_uint8 [.slice seed.a seed.n seed.c, .slice f.a f.n f.c] m fun p q =>
 callK Pr f_sponge_Sponge_Write [.pointer o, .slice (some p) 2 2] q fun s t =>
 loop2 (fun (u : SlV) (v : Int) => [(11, some (.slice u.a u.n u.c)), (12, some (.int .i64 v))])
 (fun x u v y => iteP ((decide (v < 4096)) && (decide ((u.n:Int) < 256)))
 (callK Pr f_sponge_Sponge_Read [.pointer o, .int .i64 1] y fun z A =>
 asSl z fun B =>
 idxS B.a 0 B.n
 (ldI .u8 (Addr.add (base B.a) (Int.toNat 0 * 1)) A fun C =>
 (I64 (C) ∧
 (0 ≤ C ∧
 ((0 ≤ C ∧ C ≤ IntKind.max .i64) ∧
 nw t_int [.int .i64 (C % 16), .int .i64 (C / 16)] A fun D E =>
 loop2 (fun (F : SlV) (G : Int) => [(11, some (.slice F.a F.n F.c)), (64, some (.int .i64 G))])
 (fun I F G J => iteP (decide (G < ((2 : Nat) : Int)))
 (idxS (some D) G 2
 (ldI .i64 (Addr.add (base (some D)) (Int.toNat G * 1)) J fun L =>
 callK Pr f_sift_small [.int .i64 eta, .int .i64 L] J fun M N =>
 destr.asArr' M fun O =>
 uncons O fun Q S =>
 asI .i64 Q fun T =>
 uncons S fun U V =>
 asB U fun X =>
 (V = [] ∧
 iteP (X && (decide ((F.n:Int) < 256)))
 (callK Pr f_round_Of [.int .i64 T] N fun Y Z =>
 asI .i64 Y fun aa =>
 nw t_int [.int .i64 aa] Z fun ba ca =>
 appK Pr [t_s_int, t_s_int] t_s_int [.slice F.a F.n F.c, .slice (some ba) 1 1] ca fun da ea =>
 (I64 (G + 1) ∧
 I da (G + 1) ea))
 ((I64 (G + 1) ∧
 I F (G + 1) N)))))
 ((I64 (v + 1) ∧
 x F (v + 1) J)))
 u 0 E)))))
 (callK Pr f_sift_filled [.slice u.a u.n u.c] y fun fa ga =>
 asSl fa fun ia =>
 R (.tuple ⟨[.slice ia.a ia.n ia.c, .nilIface]⟩) ga))
 ⟨none, 0, 0⟩ 0 t)
 (fun ja =>
 join1 (fun (ka : Bool) => [(23, some (.bool ka))])
 (fun ka la => iteP ka
 (callK Pr f_sift_fault [.int .i64 2] la fun ma na =>
 R (.tuple ⟨[.slice none 0 0, ma]⟩) na)
 (iteP (!decide ((seed.n:Int) = 64))
 (callK Pr f_sift_fault [.int .i64 3] la fun oa pa =>
 R (.tuple ⟨[.slice none 0 0, oa]⟩) pa)
 (ja la)))
 (fun qa =>
 iteP ((!decide (eta = 2)) && (!decide (eta = 4)))
 (qa ((!decide (eta = 2)) && (!decide (eta = 4))) b)
 (qa (!j) b))))
theorem V_sift_Small_of {eta : Int} {seed : SlV} {n : Int} {w : World} {R : Value → World → Prop} (h : V_sift_Small eta seed n w R) : Ok Pr f_sift_Small [.int .i64 eta, .slice seed.a seed.n seed.c, .int .i64 n] w R :=
 evF_ok (m := ⟨true, true⟩) (J := [(7, []), (4, [(23, .bool)])]) (L := [(11, [(11, .sl), (12, .int .i64)]), (15, [(11, .sl), (64, .int .i64)])]) good Tryz.func95 (by kernel_rfl) ((by kernel_rfl : evF Pr _ _ _ Tryz.f95 _ w R = V_sift_Small eta seed n w R).mpr h)

def V_sift_Even (seed : SlV) (s : Int) (r : Int) (w : World) (R : Value → World → Prop) : Prop :=
 iteP (!decide ((seed.n:Int) = 32))
 (callK Pr f_sift_fault [.int .i64 3] w fun a b =>
 R (.tuple ⟨[.slice none 0 0, a]⟩) b)
 (callK Pr f_sponge_New [.int .i64 168, .int .u8 31] w fun c d =>
 asP c fun e =>
 nw t_uint8 [.int .u8 s, .int .u8 r] d fun f g =>
 nw t_s_uint8 [.slice seed.a seed.n seed.c, .slice (some f) 2 2] g fun i j =>
 callK Pr f_sponge_Sponge_Write [.pointer e, .slice (some i) 2 2] j fun k l =>
 loop2 (fun (m : SlV) (n : Int) => [(9, some (.slice m.a m.n m.c)), (10, some (.int .i64 n))])
 (fun o m n p => iteP ((decide (n < 4096)) && (decide ((m.n:Int) < 256)))
 (callK Pr f_sponge_Sponge_Read [.pointer e, .int .i64 3] p fun q t =>
 asSl q fun u =>
 idxS u.a 0 u.n
 (ldI .u8 (Addr.add (base u.a) (Int.toNat 0 * 1)) (World.drew t) fun v =>
 (I64 (v) ∧
 idxS u.a 1 u.n
 (ldI .u8 (Addr.add (base u.a) (Int.toNat 1 * 1)) (World.drew t) fun x =>
 (I64 (x) ∧
 idxS u.a 2 u.n
 (ldI .u8 (Addr.add (base u.a) (Int.toNat 2 * 1)) (World.drew t) fun y =>
 (I64 (andI .u8 y 127) ∧
 lt (A := Int) (orI .i64 (orI .i64 v (shl .i64 x 8)) (shl .i64 (andI .u8 y 127) 16)) fun z =>
 iteP (decide (z < 8380417))
 (nw t_int [.int .i64 z] (World.drew t) fun B C =>
 appK Pr [t_s_int, t_s_int] t_s_int [.slice m.a m.n m.c, .slice (some B) 1 1] C fun D E =>
 (I64 (n + 3) ∧
 o D (n + 3) E))
 ((I64 (n + 3) ∧
 o m (n + 3) (World.drew t))))))))))
 (callK Pr f_sift_filled [.slice m.a m.n m.c] p fun F G =>
 asSl F fun I =>
 R (.tuple ⟨[.slice I.a I.n I.c, .nilIface]⟩) G))
 ⟨none, 0, 0⟩ 3 l)
theorem V_sift_Even_of {seed : SlV} {s : Int} {r : Int} {w : World} {R : Value → World → Prop} (h : V_sift_Even seed s r w R) : Ok Pr f_sift_Even [.slice seed.a seed.n seed.c, .int .u8 s, .int .u8 r] w R :=
 evF_ok (m := ⟨true, true⟩) (J := []) (L := [(7, [(9, .sl), (10, .int .i64)])]) good Tryz.func106 (by kernel_rfl) ((by kernel_rfl : evF Pr _ _ _ Tryz.f106 _ w R = V_sift_Even seed s r w R).mpr h)

def V_sift_Mask (setv : Int) (seed : SlV) (n : Int) (w : World) (R : Value → World → Prop) : Prop :=
 callK Pr f_lay_Of [.int .i64 setv] w fun a b =>
 destr.asArr' a fun c =>
 uncons c fun d e =>
 as_lay_Set d fun f g i j k l m o p =>
 uncons e fun q s =>
 asB q fun t =>
 (s = [] ∧
 nw t_lay_Set (zc Pr t_lay_Set) b fun u v =>
 sT_lay_Set u f g i j k l m o p v fun x =>
 callK Pr f_sift_two [.int .i64 n] x fun y z =>
 destr.asArr' y fun A =>
 uncons A fun B C =>
 asSl B fun D =>
 uncons C fun E F =>
 asB E fun G =>
 (F = [] ∧
 join0 []
 (fun I => join1 (fun (J : Int) => [(12, some (.int .i64 J))])
 (fun J L => ldI .i64 (Addr.add u 6) (World.drew L) fun M =>
 (I64 (M - 1) ∧
 ldI .i64 (Addr.add u 6) (World.drew L) fun N =>
 (I64 (32 * J) ∧
 nw t_s_uint8 [.slice seed.a seed.n seed.c, .slice D.a D.n D.c] (World.drew L) fun O Q =>
 (kept (Addr.add u 6) 1 (World.drew L) Q ∧
 (kept (Addr.add u 6) 1 (World.drew L) Q ∧
 callK Pr f_sponge_Shake256 [.int .i64 (32 * J), .slice (some O) 2 2] Q fun S T =>
 asSl S fun U =>
 (kept (Addr.add u 6) 1 Q T ∧
 (kept (Addr.add u 6) 1 Q T ∧
 callK Pr f_lay_Far [.int .i64 (M - 1), .int .i64 N, .slice U.a U.n U.c] T fun V X =>
 asSl V fun Y =>
 R (.tuple ⟨[.slice Y.a Y.n Y.c, .nilIface]⟩) X)))))))
 (fun Z =>
 ldI .i64 (Addr.add u 6) I fun aa =>
 iteP (decide (aa = 524288))
 (Z 20 I)
 (Z 18 I)))
 (fun ba =>
 join1 (fun (ca : Bool) => [(23, some (.bool ca))])
 (fun ca da => iteP ca
 (callK Pr f_sift_fault [.int .i64 2] da fun ea fa =>
 R (.tuple ⟨[.slice none 0 0, ea]⟩) fa)
 (iteP (!decide ((seed.n:Int) = 64))
 (callK Pr f_sift_fault [.int .i64 3] da fun ga ia =>
 R (.tuple ⟨[.slice none 0 0, ga]⟩) ia)
 (ba da)))
 (fun ja =>
 iteP (!t)
 (ja (!t) z)
 (ja (!G) z)))))
theorem V_sift_Mask_of {setv : Int} {seed : SlV} {n : Int} {w : World} {R : Value → World → Prop} (h : V_sift_Mask setv seed n w R) : Ok Pr f_sift_Mask [.int .i64 setv, .slice seed.a seed.n seed.c, .int .i64 n] w R :=
 evF_ok (m := ⟨true, true⟩) (J := [(8, []), (5, [(23, .bool)]), (11, [(12, .int .i64)])]) (L := []) good Tryz.func113 (by kernel_rfl) ((by kernel_rfl : evF Pr _ _ _ Tryz.f113 _ w R = V_sift_Mask setv seed n w R).mpr h)

def V_sift_fault (code : Int) (w : World) (R : Value → World → Prop) : Prop :=
 nw t_api_Fault [.int .i64 code, .string S_sift] w fun a b =>
 R (.iface t_p_api_Fault (.pointer (some a))) b
theorem V_sift_fault_of {code : Int} {w : World} {R : Value → World → Prop} (h : V_sift_fault code w R) : Ok Pr f_sift_fault [.int .i64 code] w R :=
 evF_ok (m := ⟨true, true⟩) (J := []) (L := []) good Tryz.func138 (by kernel_rfl) ((by kernel_rfl : evF Pr _ _ _ Tryz.f138 _ w R = V_sift_fault code w R).mpr h)

def V_ref12_ball (pc0 : Int) (pc1 : Int) (pc2 : Int) (pc3 : Int) (pc4 : Int) (pc5 : Int) (pc6 : Int) (pc7 : Int) (pc8 : Int) (b : SlV) (w : World) (R : Value → World → Prop) : Prop :=
 nw t_ref11_Set [.int .i64 pc0, .int .i64 pc1, .int .i64 pc2, .int .i64 pc3, .int .i64 pc4, .int .i64 pc5, .int .i64 pc6, .int .i64 pc7, .int .i64 pc8] w fun a c =>
 mkSl Pr t_int 256 256 c fun d e =>
 ldI .i64 (Addr.add a 3) e fun f =>
 (I64 (256 - f) ∧
 loop2 (fun (g : Int) (i : Int) => [(7, some (.int .i64 g)), (8, some (.int .i64 i))])
 (fun j g i k => iteP (decide (i < 256))
 (join1 (fun (l : Int) => [(7, some (.int .i64 l))])
 (fun l m => iteP (decide ((b.n:Int) ≤ l))
 (R (.tuple ⟨[.slice d.a d.n d.c, .bool false]⟩) m)
 (idxS b.a l b.n
 (ldI .u8 (Addr.add (base b.a) (Int.toNat l * 1)) m fun n =>
 (I64 (n) ∧
 (I64 (l + 1) ∧
 idxS d.a n d.n
 (ldI .i64 (Addr.add (base d.a) (Int.toNat n * 1)) m fun o =>
 idxS d.a i d.n
 (st (Addr.add (base d.a) (Int.toNat i * 1)) (.int .i64 o) m fun p =>
 idxS d.a n d.n
 (st (Addr.add (base d.a) (Int.toNat n * 1)) (.int .i64 1) p fun q =>
 ldI .i64 (Addr.add a 3) q fun s =>
 (I64 (i + s) ∧
 (I64 ((i + s) - 256) ∧
 callK Pr f_ref5_Bit [.slice b.a b.n b.c, .int .i64 ((i + s) - 256)] q fun t u =>
 asI .i64 t fun v =>
 iteP (decide (v = 1))
 (idxS d.a n d.n
 (st (Addr.add (base d.a) (Int.toNat n * 1)) (.int .i64 8380416) u fun x =>
 (I64 (i + 1) ∧
 j (l + 1) (i + 1) x)))
 ((I64 (i + 1) ∧
 j (l + 1) (i + 1) u))))))))))))
 (fun y =>
 loop1 (fun (z : Int) => [(7, some (.int .i64 z))])
 (fun A z B => iteP (decide (z < (b.n:Int)))
 (idxS b.a z b.n
 (ldI .u8 (Addr.add (base b.a) (Int.toNat z * 1)) B fun C =>
 (I64 (C) ∧
 iteP (decide (i < C))
 ((I64 (z + 1) ∧
 A (z + 1) B))
 (y z B))))
 (y z B))
 g k))
 (R (.tuple ⟨[.slice d.a d.n d.c, .bool true]⟩) k))
 8 (256 - f) e)
theorem V_ref12_ball_of {pc0 : Int} {pc1 : Int} {pc2 : Int} {pc3 : Int} {pc4 : Int} {pc5 : Int} {pc6 : Int} {pc7 : Int} {pc8 : Int} {b : SlV} {w : World} {R : Value → World → Prop} (h : V_ref12_ball pc0 pc1 pc2 pc3 pc4 pc5 pc6 pc7 pc8 b w R) : Ok Pr f_ref12_ball [.agg ⟨[.int .i64 pc0, .int .i64 pc1, .int .i64 pc2, .int .i64 pc3, .int .i64 pc4, .int .i64 pc5, .int .i64 pc6, .int .i64 pc7, .int .i64 pc8]⟩, .slice b.a b.n b.c] w R :=
 evF_ok (m := ⟨true, true⟩) (J := [(8, [(7, .int .i64)])]) (L := [(4, [(7, .int .i64), (8, .int .i64)]), (6, [(7, .int .i64)])]) good Tryz.func156 (by kernel_rfl) ((by kernel_rfl : evF Pr _ _ _ Tryz.f156 _ w R = V_ref12_ball pc0 pc1 pc2 pc3 pc4 pc5 pc6 pc7 pc8 b w R).mpr h)

def V_ref12_Even (seed : SlV) (s : Int) (r : Int) (w : World) (R : Value → World → Prop) : Prop :=
 iteP (!decide ((seed.n:Int) = 32))
 (R (.tuple ⟨[.slice none 0 0, .int .i64 3]⟩) w)
 (nw t_uint8 [.int .u8 s, .int .u8 r] w fun a b =>
 callK Pr f_ref12_with [.slice seed.a seed.n seed.c, .slice (some a) 2 2] b fun c d =>
 asSl c fun e =>
 callK Pr f_ref2_Shake128 [.int .i64 840, .slice e.a e.n e.c] d fun f g =>
 asSl f fun i =>
 callK Pr f_ref12_even [.slice i.a i.n i.c] g fun j k =>
 asSl j fun l =>
 join1 (fun (m : SlV) => [(8, some (.slice m.a m.n m.c))])
 (fun m n => callK Pr f_ref12_full [.slice m.a m.n m.c] n fun o p =>
 asSl o fun q =>
 R (.tuple ⟨[.slice q.a q.n q.c, .int .i64 0]⟩) p)
 (fun t =>
 iteP (decide ((l.n:Int) < 256))
 (nw t_uint8 [.int .u8 s, .int .u8 r] k fun u v =>
 callK Pr f_ref12_with [.slice seed.a seed.n seed.c, .slice (some u) 2 2] v fun x y =>
 asSl x fun z =>
 callK Pr f_ref2_Shake128 [.int .i64 4095, .slice z.a z.n z.c] y fun A B =>
 asSl A fun C =>
 callK Pr f_ref12_even [.slice C.a C.n C.c] B fun D E =>
 asSl D fun F =>
 t F E)
 (t l k)))
theorem V_ref12_Even_of {seed : SlV} {s : Int} {r : Int} {w : World} {R : Value → World → Prop} (h : V_ref12_Even seed s r w R) : Ok Pr f_ref12_Even [.slice seed.a seed.n seed.c, .int .u8 s, .int .u8 r] w R :=
 evF_ok (m := ⟨true, true⟩) (J := [(6, [(8, .sl)])]) (L := []) good Tryz.func160 (by kernel_rfl) ((by kernel_rfl : evF Pr _ _ _ Tryz.f160 _ w R = V_ref12_Even seed s r w R).mpr h)

def V_sift_two (n : Int) (w : World) (R : Value → World → Prop) : Prop :=
 nw t_uint8 [.int .u8 (IntKind.wrap .u8 (n)), .int .u8 (IntKind.wrap .u8 (shr .i64 n 8))] w fun a b =>
 R (.tuple ⟨[.slice (some a) 2 2, .bool ((decide (0 ≤ n)) && (decide (n < 65536)))]⟩) b
theorem V_sift_two_of {n : Int} {w : World} {R : Value → World → Prop} (h : V_sift_two n w R) : Ok Pr f_sift_two [.int .i64 n] w R :=
 evF_ok (m := ⟨true, true⟩) (J := []) (L := []) good Tryz.func174 (by kernel_rfl) ((by kernel_rfl : evF Pr _ _ _ Tryz.f174 _ w R = V_sift_two n w R).mpr h)

def V_sift_small (eta : Int) (x : Int) (w : World) (R : Value → World → Prop) : Prop :=
 iteP (decide (eta = 2))
 ((0 ≤ x ∧
 (I64 (2 - (x % 5)) ∧
 R (.tuple ⟨[.int .i64 (2 - (x % 5)), .bool (decide (x < 15))]⟩) w)))
 ((I64 (4 - x) ∧
 R (.tuple ⟨[.int .i64 (4 - x), .bool (decide (x < 9))]⟩) w))
theorem V_sift_small_of {eta : Int} {x : Int} {w : World} {R : Value → World → Prop} (h : V_sift_small eta x w R) : Ok Pr f_sift_small [.int .i64 eta, .int .i64 x] w R :=
 evF_ok (m := ⟨true, true⟩) (J := []) (L := []) good Tryz.func175 (by kernel_rfl) ((by kernel_rfl : evF Pr _ _ _ Tryz.f175 _ w R = V_sift_small eta x w R).mpr h)

def V_sift_filled (xs : SlV) (w : World) (R : Value → World → Prop) : Prop :=
 (I64 (256 - (xs.n:Int)) ∧
 appK Pr [t_s_int, t_int] t_s_int [.slice xs.a xs.n xs.c, .int .i64 (256 - (xs.n:Int))] w fun a b =>
 R (.slice a.a a.n a.c) b)
theorem V_sift_filled_of {xs : SlV} {w : World} {R : Value → World → Prop} (h : V_sift_filled xs w R) : Ok Pr f_sift_filled [.slice xs.a xs.n xs.c] w R :=
 evF_ok (m := ⟨true, true⟩) (J := []) (L := []) good Tryz.func176 (by kernel_rfl) ((by kernel_rfl : evF Pr _ _ _ Tryz.f176 _ w R = V_sift_filled xs w R).mpr h)

def V_ref12_with (seed : SlV) (more : SlV) (w : World) (R : Value → World → Prop) : Prop :=
 appK Pr [t_s_uint8, t_s_uint8] t_s_uint8 [.slice none 0 0, .slice seed.a seed.n seed.c] w fun a b =>
 appK Pr [t_s_uint8, t_s_uint8] t_s_uint8 [.slice a.a a.n a.c, .slice more.a more.n more.c] b fun c d =>
 R (.slice c.a c.n c.c) d
theorem V_ref12_with_of {seed : SlV} {more : SlV} {w : World} {R : Value → World → Prop} (h : V_ref12_with seed more w R) : Ok Pr f_ref12_with [.slice seed.a seed.n seed.c, .slice more.a more.n more.c] w R :=
 evF_ok (m := ⟨true, true⟩) (J := []) (L := []) good Tryz.func186 (by kernel_rfl) ((by kernel_rfl : evF Pr _ _ _ Tryz.f186 _ w R = V_ref12_with seed more w R).mpr h)

def V_ref12_even (b : SlV) (w : World) (R : Value → World → Prop) : Prop :=
 loop2 (fun (a : SlV) (c : Int) => [(3, some (.slice a.a a.n a.c)), (4, some (.int .i64 c))])
 (fun d a c e => (I64 (c + 2) ∧
 iteP ((decide (c + 2 < (b.n:Int))) && (decide ((a.n:Int) < 256)))
 (idxS b.a c b.n
 (ldI .u8 (Addr.add (base b.a) (Int.toNat c * 1)) (World.drew e) fun f =>
 (I64 (f) ∧
 (I64 (c + 1) ∧
 idxS b.a (c + 1) b.n
 (ldI .u8 (Addr.add (base b.a) (Int.toNat (c + 1) * 1)) (World.drew e) fun g =>
 (I64 (g) ∧
 (I64 (256 * g) ∧
 (I64 (f + (256 * g)) ∧
 (I64 (c + 2) ∧
 idxS b.a (c + 2) b.n
 (ldI .u8 (Addr.add (base b.a) (Int.toNat (c + 2) * 1)) (World.drew e) fun i =>
 (I64 (i) ∧
 (0 ≤ i ∧
 (I64 (65536 * (i % 128)) ∧
 (I64 ((f + (256 * g)) + (65536 * (i % 128))) ∧
 lt (A := Int) ((f + (256 * g)) + (65536 * (i % 128))) fun j =>
 iteP (decide (j < 8380417))
 (nw t_int [.int .i64 j] (World.drew e) fun k l =>
 appK Pr [t_s_int, t_s_int] t_s_int [.slice a.a a.n a.c, .slice (some k) 1 1] l fun m n =>
 (I64 (c + 3) ∧
 d m (c + 3) n))
 ((I64 (c + 3) ∧
 d a (c + 3) (World.drew e)))))))))))))))))
 (R (.slice a.a a.n a.c) e)))
 ⟨none, 0, 0⟩ 0 w
theorem V_ref12_even_of {b : SlV} {w : World} {R : Value → World → Prop} (h : V_ref12_even b w R) : Ok Pr f_ref12_even [.slice b.a b.n b.c] w R :=
 evF_ok (m := ⟨true, true⟩) (J := []) (L := [(3, [(3, .sl), (4, .int .i64)])]) good Tryz.func205 (by kernel_rfl) ((by kernel_rfl : evF Pr _ _ _ Tryz.f205 _ w R = V_ref12_even b w R).mpr h)

def V_ref12_full (f : SlV) (w : World) (R : Value → World → Prop) : Prop :=
 loop1 (fun (a : SlV) => [(0, some (.slice a.a a.n a.c))])
 (fun b a c => iteP (decide ((a.n:Int) < 256))
 (nw t_int [.int .i64 0] c fun d e =>
 appK Pr [t_s_int, t_s_int] t_s_int [.slice a.a a.n a.c, .slice (some d) 1 1] e fun g i =>
 b g i)
 (R (.slice a.a a.n a.c) c))
 f w
theorem V_ref12_full_of {f : SlV} {w : World} {R : Value → World → Prop} (h : V_ref12_full f w R) : Ok Pr f_ref12_full [.slice f.a f.n f.c] w R :=
 evF_ok (m := ⟨true, true⟩) (J := []) (L := [(1, [(0, .sl)])]) good Tryz.func207 (by kernel_rfl) ((by kernel_rfl : evF Pr _ _ _ Tryz.f207 _ w R = V_ref12_full f w R).mpr h)
end Go.Proofs.YtdnhoebcomffoaaGreatDoor
end
