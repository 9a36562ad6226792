/- Texts of this claim, packed: what the last one leans on. -/
import Derived.KernelRfl
import Derived.Test.YtdnhoebcomffoaaGreatDoorRows
import Derived.Test.YtdnhoebcomffoaaGreatDoorCards
import Derived.Test.YtdnhoebcomffoaaGreatDoorTie
import Derived.LaidLaws
import Derived.LaidHandle
import Derived.JoinedCond
import Derived.ChangeSlices
import Derived.Deep.Matrix
import Derived.Deep.Slices
import Derived.Deep.Fields
import Derived.Laws.IdiomStrings
import Derived.Laws.BytesString
import Derived.Test.YtdnhoebcomffoaaGreatDoorQ1
import Derived.Test.YtdnhoebcomffoaaGreatDoorAErrCode
section
set_option linter.unusedVariables false
set_option linter.unusedSimpArgs false
/- WHAT THE CODE OF EACH FUNCTION ASKS FOR, by a program of this claim's author (vc.py); each is held against the code by the kernel. -/
namespace Go.Proofs.YtdnhoebcomffoaaGreatDoor
open Go Go.Ev
set_option maxRecDepth 100000
set_option linter.unusedVariables false
theorem good_names : (Pr.funcs.all fun fn => fn.name != "runtime.NumGoroutine") = true := by kernel_rfl
theorem good_mixed : Pr.follows .mixedOrders = true := by kernel_rfl
theorem good : Go.Ev.Good Pr where
  names := fun f fn h e => by
    have := Array.all_eq_true_iff_forall_mem.1 good_names fn (Array.mem_of_getElem? h)
    simp [e] at this
  mixed := good_mixed
abbrev S_sign : ByteArray := ⟨#[115, 105, 103, 110]⟩
abbrev S_empty : ByteArray := ⟨#[]⟩
abbrev S_ask : ByteArray := ⟨#[97, 115, 107]⟩
abbrev S_lay : ByteArray := ⟨#[108, 97, 121]⟩
abbrev S_sift : ByteArray := ⟨#[115, 105, 102, 116]⟩
abbrev S_code : ByteArray := ⟨#[99, 111, 100, 101]⟩
abbrev S_empty_14a5d8 : ByteArray := ⟨#[0, 1, 2, 2, 3, 3, 3, 3, 4, 4, 4, 4, 4, 4, 4, 4, 5, 5, 5, 5, 5, 5, 5, 5, 5, 5, 5, 5, 5, 5, 5, 5, 6, 6, 6, 6, 6, 6, 6, 6, 6, 6, 6, 6, 6, 6, 6, 6, 6, 6, 6, 6, 6, 6, 6, 6, 6, 6, 6, 6, 6, 6, 6, 6, 7, 7, 7, 7, 7, 7, 7, 7, 7, 7, 7, 7, 7, 7, 7, 7, 7, 7, 7, 7, 7, 7, 7, 7, 7, 7, 7, 7, 7, 7, 7, 7, 7, 7, 7, 7, 7, 7, 7, 7, 7, 7, 7, 7, 7, 7, 7, 7, 7, 7, 7, 7, 7, 7, 7, 7, 7, 7, 7, 7, 7, 7, 7, 7, 8, 8, 8, 8, 8, 8, 8, 8, 8, 8, 8, 8, 8, 8, 8, 8, 8, 8, 8, 8, 8, 8, 8, 8, 8, 8, 8, 8, 8, 8, 8, 8, 8, 8, 8, 8, 8, 8, 8, 8, 8, 8, 8, 8, 8, 8, 8, 8, 8, 8, 8, 8, 8, 8, 8, 8, 8, 8, 8, 8, 8, 8, 8, 8, 8, 8, 8, 8, 8, 8, 8, 8, 8, 8, 8, 8, 8, 8, 8, 8, 8, 8, 8, 8, 8, 8, 8, 8, 8, 8, 8, 8, 8, 8, 8, 8, 8, 8, 8, 8, 8, 8, 8, 8, 8, 8, 8, 8, 8, 8, 8, 8, 8, 8, 8, 8, 8, 8, 8, 8, 8, 8, 8, 8, 8, 8, 8, 8]⟩
def ld_api_Ask (a : Addr) (w : World) (K : Int → Int → Int → Int → Int → Int → Int → Int → Int → Int → Int → ByteArray → SlV → SlV → Prop) : Prop :=
 ldI .i64 (Addr.add a 0) w fun c0 =>
 ldI .i64 (Addr.add a 1) w fun c1 =>
 ldI .i64 (Addr.add a 2) w fun c2 =>
 ldI .i64 (Addr.add a 3) w fun c3 =>
 ldI .i64 (Addr.add a 4) w fun c4 =>
 ldI .i64 (Addr.add a 5) w fun c5 =>
 ldI .i64 (Addr.add a 6) w fun c6 =>
 ldI .i64 (Addr.add a 7) w fun c7 =>
 ldI .i64 (Addr.add a 8) w fun c8 =>
 ldI .i64 (Addr.add a 9) w fun c9 =>
 ldI .i64 (Addr.add a 10) w fun c10 =>
 ldS (Addr.add a 11) w fun c11 =>
 ldL (Addr.add a 12) w fun c12 =>
 ldL (Addr.add a 13) w fun c13 =>
 K c0 c1 c2 c3 c4 c5 c6 c7 c8 c9 c10 c11 c12 c13
def sT_api_Ask (a : Addr) (c0 : Int) (c1 : Int) (c2 : Int) (c3 : Int) (c4 : Int) (c5 : Int) (c6 : Int) (c7 : Int) (c8 : Int) (c9 : Int) (c10 : Int) (c11 : ByteArray) (c12 : SlV) (c13 : SlV) (w : World) (K : World → Prop) : Prop :=
 st (Addr.add a 0) (.int .i64 c0) w fun w =>
 st (Addr.add a 1) (.int .i64 c1) w fun w =>
 st (Addr.add a 2) (.int .i64 c2) w fun w =>
 st (Addr.add a 3) (.int .i64 c3) w fun w =>
 st (Addr.add a 4) (.int .i64 c4) w fun w =>
 st (Addr.add a 5) (.int .i64 c5) w fun w =>
 st (Addr.add a 6) (.int .i64 c6) w fun w =>
 st (Addr.add a 7) (.int .i64 c7) w fun w =>
 st (Addr.add a 8) (.int .i64 c8) w fun w =>
 st (Addr.add a 9) (.int .i64 c9) w fun w =>
 st (Addr.add a 10) (.int .i64 c10) w fun w =>
 st (Addr.add a 11) (.string c11) w fun w =>
 st (Addr.add a 12) (.slice c12.a c12.n c12.c) w fun w =>
 st (Addr.add a 13) (.slice c13.a c13.n c13.c) w fun w =>
 K w
def as_api_Ask (v : Value) (K : Int → Int → Int → Int → Int → Int → Int → Int → Int → Int → Int → ByteArray → SlV → SlV → Prop) : Prop :=
 asArr v fun r =>
 uncons r fun v0 r =>
 asI .i64 v0 fun c0 =>
 uncons r fun v1 r =>
 asI .i64 v1 fun c1 =>
 uncons r fun v2 r =>
 asI .i64 v2 fun c2 =>
 uncons r fun v3 r =>
 asI .i64 v3 fun c3 =>
 uncons r fun v4 r =>
 asI .i64 v4 fun c4 =>
 uncons r fun v5 r =>
 asI .i64 v5 fun c5 =>
 uncons r fun v6 r =>
 asI .i64 v6 fun c6 =>
 uncons r fun v7 r =>
 asI .i64 v7 fun c7 =>
 uncons r fun v8 r =>
 asI .i64 v8 fun c8 =>
 uncons r fun v9 r =>
 asI .i64 v9 fun c9 =>
 uncons r fun v10 r =>
 asI .i64 v10 fun c10 =>
 uncons r fun v11 r =>
 asStr v11 fun c11 =>
 uncons r fun v12 r =>
 asSl v12 fun c12 =>
 uncons r fun v13 r =>
 asSl v13 fun c13 =>
 (r = [] ∧ K c0 c1 c2 c3 c4 c5 c6 c7 c8 c9 c10 c11 c12 c13)
def ld_lay_Set (a : Addr) (w : World) (K : Int → Int → Int → Int → Int → Int → Int → Int → Int → Prop) : Prop :=
 ldI .i64 (Addr.add a 0) w fun c0 =>
 ldI .i64 (Addr.add a 1) w fun c1 =>
 ldI .i64 (Addr.add a 2) w fun c2 =>
 ldI .i64 (Addr.add a 3) w fun c3 =>
 ldI .i64 (Addr.add a 4) w fun c4 =>
 ldI .i64 (Addr.add a 5) w fun c5 =>
 ldI .i64 (Addr.add a 6) w fun c6 =>
 ldI .i64 (Addr.add a 7) w fun c7 =>
 ldI .i64 (Addr.add a 8) w fun c8 =>
 K c0 c1 c2 c3 c4 c5 c6 c7 c8
def sT_lay_Set (a : Addr) (c0 : Int) (c1 : Int) (c2 : Int) (c3 : Int) (c4 : Int) (c5 : Int) (c6 : Int) (c7 : Int) (c8 : Int) (w : World) (K : World → Prop) : Prop :=
 st (Addr.add a 0) (.int .i64 c0) w fun w =>
 st (Addr.add a 1) (.int .i64 c1) w fun w =>
 st (Addr.add a 2) (.int .i64 c2) w fun w =>
 st (Addr.add a 3) (.int .i64 c3) w fun w =>
 st (Addr.add a 4) (.int .i64 c4) w fun w =>
 st (Addr.add a 5) (.int .i64 c5) w fun w =>
 st (Addr.add a 6) (.int .i64 c6) w fun w =>
 st (Addr.add a 7) (.int .i64 c7) w fun w =>
 st (Addr.add a 8) (.int .i64 c8) w fun w =>
 K w
def as_lay_Set (v : Value) (K : Int → Int → Int → Int → Int → Int → Int → Int → Int → Prop) : Prop :=
 asArr v fun r =>
 uncons r fun v0 r =>
 asI .i64 v0 fun c0 =>
 uncons r fun v1 r =>
 asI .i64 v1 fun c1 =>
 uncons r fun v2 r =>
 asI .i64 v2 fun c2 =>
 uncons r fun v3 r =>
 asI .i64 v3 fun c3 =>
 uncons r fun v4 r =>
 asI .i64 v4 fun c4 =>
 uncons r fun v5 r =>
 asI .i64 v5 fun c5 =>
 uncons r fun v6 r =>
 asI .i64 v6 fun c6 =>
 uncons r fun v7 r =>
 asI .i64 v7 fun c7 =>
 uncons r fun v8 r =>
 asI .i64 v8 fun c8 =>
 (r = [] ∧ K c0 c1 c2 c3 c4 c5 c6 c7 c8)
def ld_sign_secret (a : Addr) (w : World) (K : SlV → SlV → SlV → SlV → SlV → SlV → Prop) : Prop :=
 ldL (Addr.add a 0) w fun c0 =>
 ldL (Addr.add a 1) w fun c1 =>
 ldL (Addr.add a 2) w fun c2 =>
 ldL (Addr.add a 3) w fun c3 =>
 ldL (Addr.add a 4) w fun c4 =>
 ldL (Addr.add a 5) w fun c5 =>
 K c0 c1 c2 c3 c4 c5
def sT_sign_secret (a : Addr) (c0 : SlV) (c1 : SlV) (c2 : SlV) (c3 : SlV) (c4 : SlV) (c5 : SlV) (w : World) (K : World → Prop) : Prop :=
 st (Addr.add a 0) (.slice c0.a c0.n c0.c) w fun w =>
 st (Addr.add a 1) (.slice c1.a c1.n c1.c) w fun w =>
 st (Addr.add a 2) (.slice c2.a c2.n c2.c) w fun w =>
 st (Addr.add a 3) (.slice c3.a c3.n c3.c) w fun w =>
 st (Addr.add a 4) (.slice c4.a c4.n c4.c) w fun w =>
 st (Addr.add a 5) (.slice c5.a c5.n c5.c) w fun w =>
 K w
def as_sign_secret (v : Value) (K : SlV → SlV → SlV → SlV → SlV → SlV → Prop) : Prop :=
 asArr v fun r =>
 uncons r fun v0 r =>
 asSl v0 fun c0 =>
 uncons r fun v1 r =>
 asSl v1 fun c1 =>
 uncons r fun v2 r =>
 asSl v2 fun c2 =>
 uncons r fun v3 r =>
 asSl v3 fun c3 =>
 uncons r fun v4 r =>
 asSl v4 fun c4 =>
 uncons r fun v5 r =>
 asSl v5 fun c5 =>
 (r = [] ∧ K c0 c1 c2 c3 c4 c5)
def V_law0_SameBytes (a : SlV) (b : SlV) (w : World) (R : Value → World → Prop) : Prop :=
 iteP (!decide ((a.n:Int) = (b.n:Int)))
 (R (.bool false) w)
 (loop1 (fun (c : Int) => [(5, some (.int .i64 c))])
 (fun d c e => iteP (decide (c < (a.n:Int)))
 (idxS a.a c a.n
 (ldI .u8 (Addr.add (base a.a) (Int.toNat c * 1)) (World.drew e) fun f =>
 idxS b.a c b.n
 (ldI .u8 (Addr.add (base b.a) (Int.toNat c * 1)) (World.drew e) fun g =>
 iteP (!decide (f = g))
 (R (.bool false) (World.drew e))
 ((I64 (c + 1) ∧
 d (c + 1) (World.drew e))))))
 (R (.bool true) e))
 0 w)
theorem V_law0_SameBytes_of {a : SlV} {b : SlV} {w : World} {R : Value → World → Prop} (h : V_law0_SameBytes a b w R) : Ok Pr f_law0_SameBytes [.slice a.a a.n a.c, .slice b.a b.n b.c] w R :=
 evF_ok (m := ⟨true, true⟩) (J := []) (L := [(4, [(5, .int .i64)])]) good Tryz.func13 (by kernel_rfl) ((by kernel_rfl : evF Pr _ _ _ Tryz.f13 _ w R = V_law0_SameBytes a b w R).mpr h)

def V_law0_Num (e : Value) (w : World) (R : Value → World → Prop) : Prop :=
 ifaceNil e fun a =>
 iteP a
 (R (.int .i64 0) w)
 (nw t_p_api_Fault (zc Pr t_p_api_Fault) w fun b c =>
 join0 []
 (fun d => ldP b d fun f =>
 nilchk f fun g =>
 ldI .i64 (Addr.add g 0) d fun i =>
 R (.int .i64 i) d)
 (fun j =>
 callK Pr f_errors_As [e, .iface t_p_p_api_Fault (.pointer (some b))] (World.drew c) fun k l =>
 asB k fun m =>
 ldP b l fun n =>
 ldP b l fun o =>
 iteP ((!m) || (Option.isNone (α := Addr) n))
 (ldP b l fun p =>
 ldP b l fun q =>
 (kept b 1 l l ∧
 R (.int .i64 (-1:Int)) l))
 (nilchk o fun s =>
 ldI .i64 (Addr.add s 0) l fun t =>
 ldP b l fun u =>
 iteP (decide (t = 0))
 (ldP b l fun v =>
 (kept b 1 l l ∧
 R (.int .i64 (-1:Int)) l))
 (nilchk u fun x =>
 ldI .i64 (Addr.add x 0) l fun y =>
 callK Pr f_errors_Is [e, .iface t_api_Errno (.int .i64 y)] l fun z A =>
 asB z fun B =>
 ldP b A fun C =>
 iteP (!B)
 ((kept b 1 A A ∧
 R (.int .i64 (-1:Int)) A))
 (nilchk C fun D =>
 ldI .i64 (Addr.add D 0) A fun E =>
 callK Pr f_api_Code [e] A fun F G =>
 asI .i64 F fun I =>
 (kept (Addr.add D 0) 1 A G ∧
 (kept b 1 A G ∧
 iteP (!decide (I = E))
 (R (.int .i64 (-1:Int)) G)
 (j G))))))))
theorem V_law0_Num_of {e : Value} {w : World} {R : Value → World → Prop} (h : V_law0_Num e w R) : Ok Pr f_law0_Num [e] w R :=
 evF_ok (m := ⟨true, true⟩) (J := [(6, [])]) (L := []) good Tryz.func14 (by kernel_rfl) ((by kernel_rfl : evF Pr _ _ _ Tryz.f14 _ w R = V_law0_Num e w R).mpr h)

def V_sponge_Shake256 (n : Int) (parts : SlV) (w : World) (R : Value → World → Prop) : Prop :=
 callK Pr f_sponge_of [.int .i64 136, .int .u8 31, .int .i64 n, .slice parts.a parts.n parts.c] w fun a b =>
 asSl a fun c =>
 R (.slice c.a c.n c.c) b
theorem V_sponge_Shake256_of {n : Int} {parts : SlV} {w : World} {R : Value → World → Prop} (h : V_sponge_Shake256 n parts w R) : Ok Pr f_sponge_Shake256 [.int .i64 n, .slice parts.a parts.n parts.c] w R :=
 evF_ok (m := ⟨true, true⟩) (J := []) (L := []) good Tryz.func30 (by kernel_rfl) ((by kernel_rfl : evF Pr _ _ _ Tryz.f30 _ w R = V_sponge_Shake256 n parts w R).mpr h)

def V_slices_Concat_byte_byte (slices : SlV) (w : World) (R : Value → World → Prop) : Prop :=
 loop2 (fun (a : Int) (b : Int) => [(3, some (.int .i64 a)), (11, some (.int .i64 b))])
 (fun c a b d => iteP (decide (b < (slices.n:Int)))
 (idxS slices.a b slices.n
 (ldL (Addr.add (base slices.a) (Int.toNat b * 1)) d fun e =>
 (I64 (a + (e.n:Int)) ∧
 iteP (decide (a + (e.n:Int) < 0))
 (False)
 ((I64 (b + 1) ∧
 c (a + (e.n:Int)) (b + 1) d)))))
 (callK Pr f_slices_Grow_byte_byte [.slice none 0 0, .int .i64 a] d fun f g =>
 asSl f fun i =>
 loop2 (fun (j : SlV) (k : Int) => [(6, some (.slice j.a j.n j.c)), (27, some (.int .i64 k))])
 (fun l j k m => iteP (decide (k < (slices.n:Int)))
 (idxS slices.a k slices.n
 (ldL (Addr.add (base slices.a) (Int.toNat k * 1)) m fun n =>
 appK Pr [t_s_uint8, t_s_uint8] t_s_uint8 [.slice j.a j.n j.c, .slice n.a n.n n.c] m fun o p =>
 (I64 (k + 1) ∧
 l o (k + 1) p)))
 (R (.slice j.a j.n j.c) m))
 i 0 g))
 0 0 w
theorem V_slices_Concat_byte_byte_of {slices : SlV} {w : World} {R : Value → World → Prop} (h : V_slices_Concat_byte_byte slices w R) : Ok Pr f_slices_Concat_byte_byte [.slice slices.a slices.n slices.c] w R :=
 evF_ok (m := ⟨true, true⟩) (J := []) (L := [(3, [(3, .int .i64), (11, .int .i64)]), (11, [(6, .sl), (27, .int .i64)])]) good Tryz.func37 (by kernel_rfl) ((by kernel_rfl : evF Pr _ _ _ Tryz.f37 _ w R = V_slices_Concat_byte_byte slices w R).mpr h)

def V_slices_Concat_int_int (slices : SlV) (w : World) (R : Value → World → Prop) : Prop :=
 loop2 (fun (a : Int) (b : Int) => [(3, some (.int .i64 a)), (11, some (.int .i64 b))])
 (fun c a b d => iteP (decide (b < (slices.n:Int)))
 (idxS slices.a b slices.n
 (ldL (Addr.add (base slices.a) (Int.toNat b * 1)) d fun e =>
 (I64 (a + (e.n:Int)) ∧
 iteP (decide (a + (e.n:Int) < 0))
 (False)
 ((I64 (b + 1) ∧
 c (a + (e.n:Int)) (b + 1) d)))))
 (callK Pr f_slices_Grow_int_int [.slice none 0 0, .int .i64 a] d fun f g =>
 asSl f fun i =>
 loop2 (fun (j : SlV) (k : Int) => [(6, some (.slice j.a j.n j.c)), (27, some (.int .i64 k))])
 (fun l j k m => iteP (decide (k < (slices.n:Int)))
 (idxS slices.a k slices.n
 (ldL (Addr.add (base slices.a) (Int.toNat k * 1)) m fun n =>
 appK Pr [t_s_s_int, t_s_s_int] t_s_s_int [.slice j.a j.n j.c, .slice n.a n.n n.c] m fun o p =>
 (I64 (k + 1) ∧
 l o (k + 1) p)))
 (R (.slice j.a j.n j.c) m))
 i 0 g))
 0 0 w
theorem V_slices_Concat_int_int_of {slices : SlV} {w : World} {R : Value → World → Prop} (h : V_slices_Concat_int_int slices w R) : Ok Pr f_slices_Concat_int_int [.slice slices.a slices.n slices.c] w R :=
 evF_ok (m := ⟨true, true⟩) (J := []) (L := [(3, [(3, .int .i64), (11, .int .i64)]), (11, [(6, .sl), (27, .int .i64)])]) good Tryz.func38 (by kernel_rfl) ((by kernel_rfl : evF Pr _ _ _ Tryz.f38 _ w R = V_slices_Concat_int_int slices w R).mpr h)

def V_api_Code (e : Value) (w : World) (R : Value → World → Prop) : Prop :=
 nw t_api_Errno (zc Pr t_api_Errno) w fun a b =>
 ifaceNil e fun c =>
 iteP c
 (R (.int .i64 0) b)
 (callK Pr f_errors_As [e, .iface t_p_api_Errno (.pointer (some a))] b fun d f =>
 asB d fun g =>
 iteP g
 (ldI .i64 a f fun i =>
 R (.int .i64 i) f)
 (R (.int .i64 2) f))
theorem V_api_Code_of {e : Value} {w : World} {R : Value → World → Prop} (h : V_api_Code e w R) : Ok Pr f_api_Code [e] w R :=
 evF_ok (m := ⟨true, true⟩) (J := []) (L := []) good Tryz.func51 (by kernel_rfl) ((by kernel_rfl : evF Pr _ _ _ Tryz.f51 _ w R = V_api_Code e w R).mpr h)

def V_slices_Chunk_byte_byte (s : SlV) (n : Int) (w : World) (R : Value → World → Prop) : Prop :=
 nw t_s_uint8 [.slice s.a s.n s.c] w fun a b =>
 nw t_int [.int .i64 n] b fun c d =>
 ldI .i64 c d fun e =>
 iteP (decide (e < 1))
 (False)
 (R (.func (.func f_slices_Chunk_byte_byte_1) ⟨[]⟩ ⟨[.pointer (some a), .pointer (some c)]⟩) d)
theorem V_slices_Chunk_byte_byte_of {s : SlV} {n : Int} {w : World} {R : Value → World → Prop} (h : V_slices_Chunk_byte_byte s n w R) : Ok Pr f_slices_Chunk_byte_byte [.slice s.a s.n s.c, .int .i64 n] w R :=
 evF_ok (m := ⟨true, true⟩) (J := []) (L := []) good Tryz.func58 (by kernel_rfl) ((by kernel_rfl : evF Pr _ _ _ Tryz.f58 _ w R = V_slices_Chunk_byte_byte s n w R).mpr h)

def V_bits_Unpack (d : Int) (b : SlV) (w : World) (R : Value → World → Prop) : Prop :=
 iteP ((decide (d < 1)) || (decide (24 < d)))
 (R (.slice none 0 0) w)
 (loop4 (fun (a : SlV) (c : Int) (e : Int) (f : Int) => [(5, some (.slice a.a a.n a.c)), (6, some (.int .i64 c)), (7, some (.int .i64 e)), (18, some (.int .i64 f))])
 (fun g a c e f i => iteP (decide (f < (b.n:Int)))
 (idxS b.a f b.n
 (ldI .u8 (Addr.add (base b.a) (Int.toNat f * 1)) i fun j =>
 (I64 (j) ∧
 cnt e (lt (A := Int) (orI .i64 c (shl .i64 j e)) fun k =>
 (I64 (e + 8) ∧
 loop3 (fun (l : SlV) (m : Int) (n : Int) => [(5, some (.slice l.a l.n l.c)), (6, some (.int .i64 m)), (7, some (.int .i64 n))])
 (fun o l m n p => iteP (decide (d ≤ n))
 (callK Pr f_bits_Low [.int .i64 d, .int .i64 m] p fun q s =>
 asI .i64 q fun t =>
 nw t_int [.int .i64 t] s fun u v =>
 appK Pr [t_s_int, t_s_int] t_s_int [.slice l.a l.n l.c, .slice (some u) 1 1] v fun x y =>
 cnt d ((I64 (n - d) ∧
 o x (shr .i64 m d) (n - d) y)))
 ((I64 (f + 1) ∧
 g l m n (f + 1) p)))
 a k (e + 8) i)))))
 (R (.slice a.a a.n a.c) i))
 ⟨none, 0, 0⟩ 0 0 0 w)
theorem V_bits_Unpack_of {d : Int} {b : SlV} {w : World} {R : Value → World → Prop} (h : V_bits_Unpack d b w R) : Ok Pr f_bits_Unpack [.int .i64 d, .slice b.a b.n b.c] w R :=
 evF_ok (m := ⟨true, true⟩) (J := []) (L := [(6, [(5, .sl), (6, .int .i64), (7, .int .i64), (18, .int .i64)]), (10, [(5, .sl), (6, .int .i64), (7, .int .i64)])]) good Tryz.func59 (by kernel_rfl) ((by kernel_rfl : evF Pr _ _ _ Tryz.f59 _ w R = V_bits_Unpack d b w R).mpr h)

def V_bytes_Equal (a : SlV) (b : SlV) (w : World) (R : Value → World → Prop) : Prop :=
 b2sK Pr a w fun c d =>
 b2sK Pr b d fun e f =>
 R (.bool (decide (c = e))) f
theorem V_bytes_Equal_of {a : SlV} {b : SlV} {w : World} {R : Value → World → Prop} (h : V_bytes_Equal a b w R) : Ok Pr f_bytes_Equal [.slice a.a a.n a.c, .slice b.a b.n b.c] w R :=
 evF_ok (m := ⟨true, true⟩) (J := []) (L := []) good Tryz.func66 (by kernel_rfl) ((by kernel_rfl : evF Pr _ _ _ Tryz.f66 _ w R = V_bytes_Equal a b w R).mpr h)

def V_slices_ContainsFunc_int_int (s : SlV) (f : Value) (w : World) (R : Value → World → Prop) : Prop :=
 callK Pr f_slices_IndexFunc_int_int [.slice s.a s.n s.c, f] w fun a b =>
 asI .i64 a fun c =>
 R (.bool (decide (0 ≤ c))) b
theorem V_slices_ContainsFunc_int_int_of {s : SlV} {f : Value} {w : World} {R : Value → World → Prop} (h : V_slices_ContainsFunc_int_int s f w R) : Ok Pr f_slices_ContainsFunc_int_int [.slice s.a s.n s.c, f] w R :=
 evF_ok (m := ⟨true, true⟩) (J := []) (L := []) good Tryz.func86 (by kernel_rfl) ((by kernel_rfl : evF Pr _ _ _ Tryz.f86 _ w R = V_slices_ContainsFunc_int_int s f w R).mpr h)

def V_slices_Clone_byte_byte (s : SlV) (w : World) (R : Value → World → Prop) : Prop :=
 iteP (Option.isNone (α := Addr) s.a)
 (R (.slice none 0 0) w)
 (nw t_uint8 [] w fun a b =>
 appK Pr [t_s_uint8, t_s_uint8] t_s_uint8 [.slice (some a) 0 0, .slice s.a s.n s.c] b fun c d =>
 R (.slice c.a c.n c.c) d)
theorem V_slices_Clone_byte_byte_of {s : SlV} {w : World} {R : Value → World → Prop} (h : V_slices_Clone_byte_byte s w R) : Ok Pr f_slices_Clone_byte_byte [.slice s.a s.n s.c] w R :=
 evF_ok (m := ⟨true, true⟩) (J := []) (L := []) good Tryz.func89 (by kernel_rfl) ((by kernel_rfl : evF Pr _ _ _ Tryz.f89 _ w R = V_slices_Clone_byte_byte s w R).mpr h)

def V_sponge_of (rate : Int) (suffix : Int) (n : Int) (parts : SlV) (w : World) (R : Value → World → Prop) : Prop :=
 callK Pr f_sponge_New [.int .i64 rate, .int .u8 suffix] w fun a b =>
 asP a fun c =>
 callK Pr f_sponge_Sponge_Write [.pointer c, .slice parts.a parts.n parts.c] b fun d e =>
 callK Pr f_sponge_Sponge_Read [.pointer c, .int .i64 n] e fun f g =>
 asSl f fun i =>
 R (.slice i.a i.n i.c) g
theorem V_sponge_of_of {rate : Int} {suffix : Int} {n : Int} {parts : SlV} {w : World} {R : Value → World → Prop} (h : V_sponge_of rate suffix n parts w R) : Ok Pr f_sponge_of [.int .i64 rate, .int .u8 suffix, .int .i64 n, .slice parts.a parts.n parts.c] w R :=
 evF_ok (m := ⟨true, true⟩) (J := []) (L := []) good Tryz.func94 (by kernel_rfl) ((by kernel_rfl : evF Pr _ _ _ Tryz.f94 _ w R = V_sponge_of rate suffix n parts w R).mpr h)

def V_bits_Pack (d : Int) (xs : SlV) (w : World) (R : Value → World → Prop) : Prop :=
 iteP ((decide (d < 1)) || (decide (24 < d)))
 (R (.slice none 0 0) w)
 (loop4 (fun (a : SlV) (b : Int) (c : Int) (e : Int) => [(5, some (.slice a.a a.n a.c)), (6, some (.int .i64 b)), (7, some (.int .i64 c)), (18, some (.int .i64 e))])
 (fun f a b c e g => iteP (decide (e < (xs.n:Int)))
 (idxS xs.a e xs.n
 (ldI .i64 (Addr.add (base xs.a) (Int.toNat e * 1)) g fun i =>
 join0 []
 (fun j => cnt c (lt (A := Int) (orI .i64 b (shl .i64 i c)) fun k =>
 (I64 (c + d) ∧
 loop3 (fun (l : SlV) (m : Int) (n : Int) => [(5, some (.slice l.a l.n l.c)), (6, some (.int .i64 m)), (7, some (.int .i64 n))])
 (fun o l m n p => iteP (decide (8 ≤ n))
 (nw t_uint8 [.int .u8 (IntKind.wrap .u8 (m))] p fun q s =>
 appK Pr [t_s_uint8, t_s_uint8] t_s_uint8 [.slice l.a l.n l.c, .slice (some q) 1 1] s fun t u =>
 (I64 (n - 8) ∧
 o t (shr .i64 m 8) (n - 8) u))
 ((I64 (e + 1) ∧
 f l m n (e + 1) p)))
 a k (c + d) j)))
 (fun v =>
 iteP (decide (i < 0))
 (R (.slice none 0 0) g)
 (cnt d (iteP (!decide (shr .i64 i d = 0))
 (R (.slice none 0 0) g)
 (v g))))))
 (iteP (decide (0 < c))
 (nw t_uint8 [.int .u8 (IntKind.wrap .u8 (b))] g fun x y =>
 appK Pr [t_s_uint8, t_s_uint8] t_s_uint8 [.slice a.a a.n a.c, .slice (some x) 1 1] y fun z B =>
 R (.slice z.a z.n z.c) B)
 (R (.slice a.a a.n a.c) g)))
 ⟨none, 0, 0⟩ 0 0 0 w)
theorem V_bits_Pack_of {d : Int} {xs : SlV} {w : World} {R : Value → World → Prop} (h : V_bits_Pack d xs w R) : Ok Pr f_bits_Pack [.int .i64 d, .slice xs.a xs.n xs.c] w R :=
 evF_ok (m := ⟨true, true⟩) (J := [(10, [])]) (L := [(6, [(5, .sl), (6, .int .i64), (7, .int .i64), (18, .int .i64)]), (12, [(5, .sl), (6, .int .i64), (7, .int .i64)])]) good Tryz.func107 (by kernel_rfl) ((by kernel_rfl : evF Pr _ _ _ Tryz.f107 _ w R = V_bits_Pack d xs w R).mpr h)

def V_slices_Grow_byte_byte (s : SlV) (n : Int) (w : World) (R : Value → World → Prop) : Prop :=
 join0 []
 (fun a => (I64 (((s.c : Nat) : Int) - (s.n:Int)) ∧
 (I64 (n - (((s.c : Nat) : Int) - (s.n:Int))) ∧
 lt (A := Int) (n - (((s.c : Nat) : Int) - (s.n:Int))) fun b =>
 iteP (decide (0 < b))
 (slH s ((s.c : Nat) : Int) fun c =>
 appK Pr [t_s_uint8, t_int] t_s_uint8 [.slice c.a c.n c.c, .int .i64 b] a fun d e =>
 slH d (s.n:Int) fun f =>
 R (.slice f.a f.n f.c) e)
 (R (.slice s.a s.n s.c) a))))
 (fun g =>
 iteP (decide (n < 0))
 (False)
 (g w))
theorem V_slices_Grow_byte_byte_of {s : SlV} {n : Int} {w : World} {R : Value → World → Prop} (h : V_slices_Grow_byte_byte s n w R) : Ok Pr f_slices_Grow_byte_byte [.slice s.a s.n s.c, .int .i64 n] w R :=
 evF_ok (m := ⟨true, true⟩) (J := [(3, [])]) (L := []) good Tryz.func108 (by kernel_rfl) ((by kernel_rfl : evF Pr _ _ _ Tryz.f108 _ w R = V_slices_Grow_byte_byte s n w R).mpr h)

def V_slices_Grow_int_int (s : SlV) (n : Int) (w : World) (R : Value → World → Prop) : Prop :=
 join0 []
 (fun a => (I64 (((s.c : Nat) : Int) - (s.n:Int)) ∧
 (I64 (n - (((s.c : Nat) : Int) - (s.n:Int))) ∧
 lt (A := Int) (n - (((s.c : Nat) : Int) - (s.n:Int))) fun b =>
 iteP (decide (0 < b))
 (slH s ((s.c : Nat) : Int) fun c =>
 appK Pr [t_s_s_int, t_int] t_s_s_int [.slice c.a c.n c.c, .int .i64 b] a fun d e =>
 slH d (s.n:Int) fun f =>
 R (.slice f.a f.n f.c) e)
 (R (.slice s.a s.n s.c) a))))
 (fun g =>
 iteP (decide (n < 0))
 (False)
 (g w))
theorem V_slices_Grow_int_int_of {s : SlV} {n : Int} {w : World} {R : Value → World → Prop} (h : V_slices_Grow_int_int s n w R) : Ok Pr f_slices_Grow_int_int [.slice s.a s.n s.c, .int .i64 n] w R :=
 evF_ok (m := ⟨true, true⟩) (J := [(3, [])]) (L := []) good Tryz.func109 (by kernel_rfl) ((by kernel_rfl : evF Pr _ _ _ Tryz.f109 _ w R = V_slices_Grow_int_int s n w R).mpr h)

def V_slices_ContainsFunc_byte_byte (s : SlV) (f : Value) (w : World) (R : Value → World → Prop) : Prop :=
 callK Pr f_slices_IndexFunc_byte_byte [.slice s.a s.n s.c, f] w fun a b =>
 asI .i64 a fun c =>
 R (.bool (decide (0 ≤ c))) b
theorem V_slices_ContainsFunc_byte_byte_of {s : SlV} {f : Value} {w : World} {R : Value → World → Prop} (h : V_slices_ContainsFunc_byte_byte s f w R) : Ok Pr f_slices_ContainsFunc_byte_byte [.slice s.a s.n s.c, f] w R :=
 evF_ok (m := ⟨true, true⟩) (J := []) (L := []) good Tryz.func135 (by kernel_rfl) ((by kernel_rfl : evF Pr _ _ _ Tryz.f135 _ w R = V_slices_ContainsFunc_byte_byte s f w R).mpr h)

def V_sponge_New (rate : Int) (suffix : Int) (w : World) (R : Value → World → Prop) : Prop :=
 iteP (((((decide (rate < 8)) || (decide (192 < rate))) || (!decide (Int.tmod rate 8 = 0))) || (decide (suffix < 1))) || (decide (127 < suffix)))
 (R (.pointer none) w)
 (nw t_sponge_Sponge [.int .u64 0, .int .u64 0, .int .u64 0, .int .u64 0, .int .u64 0, .int .u64 0, .int .u64 0, .int .u64 0, .int .u64 0, .int .u64 0, .int .u64 0, .int .u64 0, .int .u64 0, .int .u64 0, .int .u64 0, .int .u64 0, .int .u64 0, .int .u64 0, .int .u64 0, .int .u64 0, .int .u64 0, .int .u64 0, .int .u64 0, .int .u64 0, .int .u64 0, .int .i64 rate, .int .u8 suffix, .int .i64 0, .bool false] w fun a b =>
 R (.pointer (some a)) b)
theorem V_sponge_New_of {rate : Int} {suffix : Int} {w : World} {R : Value → World → Prop} (h : V_sponge_New rate suffix w R) : Ok Pr f_sponge_New [.int .i64 rate, .int .u8 suffix] w R :=
 evF_ok (m := ⟨true, true⟩) (J := []) (L := []) good Tryz.func139 (by kernel_rfl) ((by kernel_rfl : evF Pr _ _ _ Tryz.f139 _ w R = V_sponge_New rate suffix w R).mpr h)

def V_sponge_Sponge_Write (s : Option Addr) (parts : SlV) (w : World) (R : Value → World → Prop) : Prop :=
 iteP (Option.isNone (α := Addr) s)
 (callK Pr f_sponge_fault [.int .i64 1] w fun a b =>
 R a b)
 (nilchk s fun c =>
 ldB (Addr.add c 28) w fun d =>
 iteP d
 (callK Pr f_sponge_fault [.int .i64 5] w fun e f =>
 R e f)
 (loop1 (fun (g : Int) => [(21, some (.int .i64 g))])
 (fun i g j => iteP (decide (g < (parts.n:Int)))
 (idxS parts.a g parts.n
 (ldL (Addr.add (base parts.a) (Int.toNat g * 1)) j fun k =>
 loop1 (fun (l : Int) => [(27, some (.int .i64 l))])
 (fun m l n => iteP (decide (l < (k.n:Int)))
 (idxS k.a l k.n
 (ldI .u8 (Addr.add (base k.a) (Int.toNat l * 1)) n fun o =>
 nilchk s fun p =>
 ldI .i64 (Addr.add p 27) n fun q =>
 callK Pr f_sponge_Sponge_flip [.pointer s, .int .i64 q, .int .u8 o] n fun t u =>
 nilchk s fun v =>
 ldI .i64 (Addr.add v 27) u fun x =>
 (I64 (x + 1) ∧
 nilchk s fun y =>
 st (Addr.add y 27) (.int .i64 (x + 1)) u fun z =>
 callK Pr f_sponge_Sponge_turn [.pointer s] z fun A B =>
 (I64 (l + 1) ∧
 m (l + 1) B))))
 ((I64 (g + 1) ∧
 i (g + 1) n)))
 0 j))
 (R (.nilIface) j))
 0 w))
theorem V_sponge_Sponge_Write_of {s : Option Addr} {parts : SlV} {w : World} {R : Value → World → Prop} (h : V_sponge_Sponge_Write s parts w R) : Ok Pr f_sponge_Sponge_Write [.pointer s, .slice parts.a parts.n parts.c] w R :=
 evF_ok (m := ⟨true, true⟩) (J := []) (L := [(6, [(21, .int .i64)]), (9, [(27, .int .i64)])]) good Tryz.func140 (by kernel_rfl) ((by kernel_rfl : evF Pr _ _ _ Tryz.f140 _ w R = V_sponge_Sponge_Write s parts w R).mpr h)

def V_sponge_Sponge_Read (s : Option Addr) (n : Int) (w : World) (R : Value → World → Prop) : Prop :=
 iteP (((Option.isNone (α := Addr) s) || (decide (n < 1))) || (decide (1048576 < n)))
 (R (.slice none 0 0) w)
 (join0 []
 (fun a => mkSl Pr t_uint8 0 n a fun b c =>
 loop2 (fun (d : SlV) (e : Int) => [(5, some (.slice d.a d.n d.c)), (51, some (.int .i64 e))])
 (fun f d e g => iteP (decide (e < n))
 (callK Pr f_sponge_Sponge_turn [.pointer s] g fun i j =>
 nilchk s fun k =>
 ldI .i64 (Addr.add k 27) (World.drew j) fun l =>
 ((0 ≤ l ∧ l ≤ IntKind.max .i64) ∧
 nilchk s fun m =>
 idx (l / 8) 25
 (ldI .u64 (Addr.add (Addr.add m 0) (Int.toNat (l / 8) * 1)) (World.drew j) fun o =>
 nilchk s fun p =>
 ldI .i64 (Addr.add p 27) (World.drew j) fun q =>
 (0 ≤ q ∧
 (I64 (8 * (q % 8)) ∧
 cnt (8 * (q % 8)) (nw t_uint8 [.int .u8 (IntKind.wrap .u8 (shr .u64 o (8 * (q % 8))))] (World.drew j) fun t u =>
 appK Pr [t_s_uint8, t_s_uint8] t_s_uint8 [.slice d.a d.n d.c, .slice (some t) 1 1] u fun v x =>
 nilchk s fun y =>
 ldI .i64 (Addr.add y 27) x fun z =>
 (I64 (z + 1) ∧
 nilchk s fun A =>
 st (Addr.add A 27) (.int .i64 (z + 1)) x fun B =>
 (I64 (e + 1) ∧
 f v (e + 1) B))))))))
 (R (.slice d.a d.n d.c) g))
 b 0 c)
 (fun C =>
 nilchk s fun D =>
 ldB (Addr.add D 28) w fun E =>
 iteP (!E)
 (nilchk s fun F =>
 ldI .i64 (Addr.add F 27) (World.drew w) fun G =>
 nilchk s fun I =>
 ldI .u8 (Addr.add I 26) (World.drew w) fun J =>
 callK Pr f_sponge_Sponge_flip [.pointer s, .int .i64 G, .int .u8 J] (World.drew w) fun L M =>
 nilchk s fun N =>
 ldI .i64 (Addr.add N 25) M fun O =>
 (I64 (O - 1) ∧
 callK Pr f_sponge_Sponge_flip [.pointer s, .int .i64 (O - 1), .int .u8 128] M fun Q S =>
 nilchk s fun T =>
 ldI .i64 (Addr.add T 25) S fun U =>
 nilchk s fun V =>
 st (Addr.add V 28) (.bool true) S fun X =>
 nilchk s fun Y =>
 st (Addr.add Y 27) (.int .i64 U) X fun Z =>
 C Z))
 (C w)))
theorem V_sponge_Sponge_Read_of {s : Option Addr} {n : Int} {w : World} {R : Value → World → Prop} (h : V_sponge_Sponge_Read s n w R) : Ok Pr f_sponge_Sponge_Read [.pointer s, .int .i64 n] w R :=
 evF_ok (m := ⟨true, true⟩) (J := [(7, [])]) (L := [(9, [(5, .sl), (51, .int .i64)])]) good Tryz.func141 (by kernel_rfl) ((by kernel_rfl : evF Pr _ _ _ Tryz.f141 _ w R = V_sponge_Sponge_Read s n w R).mpr h)

def V_bits_Low (d : Int) (x : Int) (w : World) (R : Value → World → Prop) : Prop :=
 iteP ((decide (d < 0)) || (decide (62 < d)))
 (R (.int .i64 0) w)
 (cnt d ((I64 ((shl .i64 1 d) - 1) ∧
 R (.int .i64 (andI .i64 x ((shl .i64 1 d) - 1))) w)))
theorem V_bits_Low_of {d : Int} {x : Int} {w : World} {R : Value → World → Prop} (h : V_bits_Low d x w R) : Ok Pr f_bits_Low [.int .i64 d, .int .i64 x] w R :=
 evF_ok (m := ⟨true, true⟩) (J := []) (L := []) good Tryz.func143 (by kernel_rfl) ((by kernel_rfl : evF Pr _ _ _ Tryz.f143 _ w R = V_bits_Low d x w R).mpr h)

def V_slices_Equal_int_int (s1 : SlV) (s2 : SlV) (w : World) (R : Value → World → Prop) : Prop :=
 iteP (!decide ((s1.n:Int) = (s2.n:Int)))
 (R (.bool false) w)
 (loop1 (fun (a : Int) => [(13, some (.int .i64 a))])
 (fun b a c => iteP (decide (a < (s1.n:Int)))
 (idxS s1.a a s1.n
 (ldI .i64 (Addr.add (base s1.a) (Int.toNat a * 1)) (World.drew c) fun d =>
 idxS s2.a a s2.n
 (ldI .i64 (Addr.add (base s2.a) (Int.toNat a * 1)) (World.drew c) fun e =>
 iteP (!decide (d = e))
 (R (.bool false) (World.drew c))
 ((I64 (a + 1) ∧
 b (a + 1) (World.drew c))))))
 (R (.bool true) c))
 0 w)
theorem V_slices_Equal_int_int_of {s1 : SlV} {s2 : SlV} {w : World} {R : Value → World → Prop} (h : V_slices_Equal_int_int s1 s2 w R) : Ok Pr f_slices_Equal_int_int [.slice s1.a s1.n s1.c, .slice s2.a s2.n s2.c] w R :=
 evF_ok (m := ⟨true, true⟩) (J := []) (L := [(4, [(13, .int .i64)])]) good Tryz.func166 (by kernel_rfl) ((by kernel_rfl : evF Pr _ _ _ Tryz.f166 _ w R = V_slices_Equal_int_int s1 s2 w R).mpr h)

def V_slices_IndexFunc_int_int (s : SlV) (f : Value) (w : World) (R : Value → World → Prop) : Prop :=
 loop1 (fun (a : Int) => [(8, some (.int .i64 a))])
 (fun b a c => iteP (decide (a < (s.n:Int)))
 (idxS s.a a s.n
 (ldI .i64 (Addr.add (base s.a) (Int.toNat a * 1)) c fun d =>
 callV Pr f [.int .i64 d] c fun e g =>
 asB e fun i =>
 iteP i
 (R (.int .i64 a) g)
 ((I64 (a + 1) ∧
 b (a + 1) g))))
 (R (.int .i64 (-1:Int)) c))
 0 w
theorem V_slices_IndexFunc_int_int_of {s : SlV} {f : Value} {w : World} {R : Value → World → Prop} (h : V_slices_IndexFunc_int_int s f w R) : Ok Pr f_slices_IndexFunc_int_int [.slice s.a s.n s.c, f] w R :=
 evF_ok (m := ⟨true, true⟩) (J := []) (L := [(2, [(8, .int .i64)])]) good Tryz.func167 (by kernel_rfl) ((by kernel_rfl : evF Pr _ _ _ Tryz.f167 _ w R = V_slices_IndexFunc_int_int s f w R).mpr h)

def V_slices_Clone_int_int (s : SlV) (w : World) (R : Value → World → Prop) : Prop :=
 iteP (Option.isNone (α := Addr) s.a)
 (R (.slice none 0 0) w)
 (nw t_int [] w fun a b =>
 appK Pr [t_s_int, t_s_int] t_s_int [.slice (some a) 0 0, .slice s.a s.n s.c] b fun c d =>
 R (.slice c.a c.n c.c) d)
theorem V_slices_Clone_int_int_of {s : SlV} {w : World} {R : Value → World → Prop} (h : V_slices_Clone_int_int s w R) : Ok Pr f_slices_Clone_int_int [.slice s.a s.n s.c] w R :=
 evF_ok (m := ⟨true, true⟩) (J := []) (L := []) good Tryz.func182 (by kernel_rfl) ((by kernel_rfl : evF Pr _ _ _ Tryz.f182 _ w R = V_slices_Clone_int_int s w R).mpr h)

def V_math_bits_Len (x : Int) (w : World) (R : Value → World → Prop) : Prop :=
 callK Pr f_math_bits_Len64 [.int .u64 x] w fun a b =>
 asI .i64 a fun c =>
 R (.int .i64 c) b
theorem V_math_bits_Len_of {x : Int} {w : World} {R : Value → World → Prop} (h : V_math_bits_Len x w R) : Ok Pr f_math_bits_Len [.int .u64 x] w R :=
 evF_ok (m := ⟨true, true⟩) (J := []) (L := []) good Tryz.func185 (by kernel_rfl) ((by kernel_rfl : evF Pr _ _ _ Tryz.f185 _ w R = V_math_bits_Len x w R).mpr h)

def V_slices_IndexFunc_byte_byte (s : SlV) (f : Value) (w : World) (R : Value → World → Prop) : Prop :=
 loop1 (fun (a : Int) => [(8, some (.int .i64 a))])
 (fun b a c => iteP (decide (a < (s.n:Int)))
 (idxS s.a a s.n
 (ldI .u8 (Addr.add (base s.a) (Int.toNat a * 1)) c fun d =>
 callV Pr f [.int .u8 d] c fun e g =>
 asB e fun i =>
 iteP i
 (R (.int .i64 a) g)
 ((I64 (a + 1) ∧
 b (a + 1) g))))
 (R (.int .i64 (-1:Int)) c))
 0 w
theorem V_slices_IndexFunc_byte_byte_of {s : SlV} {f : Value} {w : World} {R : Value → World → Prop} (h : V_slices_IndexFunc_byte_byte s f w R) : Ok Pr f_slices_IndexFunc_byte_byte [.slice s.a s.n s.c, f] w R :=
 evF_ok (m := ⟨true, true⟩) (J := []) (L := [(2, [(8, .int .i64)])]) good Tryz.func194 (by kernel_rfl) ((by kernel_rfl : evF Pr _ _ _ Tryz.f194 _ w R = V_slices_IndexFunc_byte_byte s f w R).mpr h)

def V_sponge_Sponge_flip (s : Option Addr) (i : Int) (b : Int) (w : World) (R : Value → World → Prop) : Prop :=
 ((0 ≤ i ∧ i ≤ IntKind.max .i64) ∧
 nilchk s fun a =>
 idx (i / 8) 25
 (ldI .u64 (Addr.add (Addr.add a 0) (Int.toNat (i / 8) * 1)) (World.drew w) fun c =>
 (0 ≤ i ∧
 (I64 (8 * (i % 8)) ∧
 cnt (8 * (i % 8)) (nilchk s fun d =>
 idx (i / 8) 25
 (st (Addr.add (Addr.add d 0) (Int.toNat (i / 8) * 1)) (.int .u64 (xorI .u64 c (shl .u64 (IntKind.wrap .u64 (b)) (8 * (i % 8))))) (World.drew w) fun e =>
 R (.tuple ⟨[]⟩) e))))))
theorem V_sponge_Sponge_flip_of {s : Option Addr} {i : Int} {b : Int} {w : World} {R : Value → World → Prop} (h : V_sponge_Sponge_flip s i b w R) : Ok Pr f_sponge_Sponge_flip [.pointer s, .int .i64 i, .int .u8 b] w R :=
 evF_ok (m := ⟨true, true⟩) (J := []) (L := []) good Tryz.func196 (by kernel_rfl) ((by kernel_rfl : evF Pr _ _ _ Tryz.f196 _ w R = V_sponge_Sponge_flip s i b w R).mpr h)

def V_sponge_Sponge_turn (s : Option Addr) (w : World) (R : Value → World → Prop) : Prop :=
 nilchk s fun a =>
 ldI .i64 (Addr.add a 27) (World.drew w) fun b =>
 nilchk s fun c =>
 ldI .i64 (Addr.add c 25) (World.drew w) fun d =>
 iteP (decide (b = d))
 (nilchk s fun e =>
 ldA 25 (Addr.add e 0) (World.drew w) fun f =>
 callK Pr f_keccak_Permute [.agg ⟨f⟩] (World.drew w) fun g i =>
 asArr g fun j =>
 nilchk s fun k =>
 stA 25 (Addr.add k 0) j i fun l =>
 nilchk s fun m =>
 st (Addr.add m 27) (.int .i64 0) l fun n =>
 R (.tuple ⟨[]⟩) n)
 (R (.tuple ⟨[]⟩) (World.drew w))
theorem V_sponge_Sponge_turn_of {s : Option Addr} {w : World} {R : Value → World → Prop} (h : V_sponge_Sponge_turn s w R) : Ok Pr f_sponge_Sponge_turn [.pointer s] w R :=
 evF_ok (m := ⟨true, true⟩) (J := []) (L := []) good Tryz.func197 (by kernel_rfl) ((by kernel_rfl : evF Pr _ _ _ Tryz.f197 _ w R = V_sponge_Sponge_turn s w R).mpr h)

def V_slices_ContainsFunc_int_int_873da6 (s : SlV) (f : Value) (w : World) (R : Value → World → Prop) : Prop :=
 callK Pr f_slices_IndexFunc_int_int_3f3901 [.slice s.a s.n s.c, f] w fun a b =>
 asI .i64 a fun c =>
 R (.bool (decide (0 ≤ c))) b
theorem V_slices_ContainsFunc_int_int_873da6_of {s : SlV} {f : Value} {w : World} {R : Value → World → Prop} (h : V_slices_ContainsFunc_int_int_873da6 s f w R) : Ok Pr f_slices_ContainsFunc_int_int_873da6 [.slice s.a s.n s.c, f] w R :=
 evF_ok (m := ⟨true, true⟩) (J := []) (L := []) good Tryz.func201 (by kernel_rfl) ((by kernel_rfl : evF Pr _ _ _ Tryz.f201 _ w R = V_slices_ContainsFunc_int_int_873da6 s f w R).mpr h)

def V_bits_Turn (d : Int) (x : Int) (w : World) (R : Value → World → Prop) : Prop :=
 callK Pr f_bits_Low [.int .i64 d, .int .i64 x] w fun a b =>
 asI .i64 a fun c =>
 loop2 (fun (e : Int) (f : Int) => [(5, some (.int .i64 e)), (6, some (.int .i64 f))])
 (fun g e f i => iteP ((decide (f < d)) && (decide (d ≤ 62)))
 ((I64 (2 * e) ∧
 cnt f ((I64 ((2 * e) + (andI .i64 (shr .i64 c f) 1)) ∧
 lt (A := Int) ((2 * e) + (andI .i64 (shr .i64 c f) 1)) fun j =>
 (I64 (f + 1) ∧
 g j (f + 1) i)))))
 (R (.int .i64 e) i))
 0 0 b
theorem V_bits_Turn_of {d : Int} {x : Int} {w : World} {R : Value → World → Prop} (h : V_bits_Turn d x w R) : Ok Pr f_bits_Turn [.int .i64 d, .int .i64 x] w R :=
 evF_ok (m := ⟨true, true⟩) (J := []) (L := [(4, [(5, .int .i64), (6, .int .i64)])]) good Tryz.func210 (by kernel_rfl) ((by kernel_rfl : evF Pr _ _ _ Tryz.f210 _ w R = V_bits_Turn d x w R).mpr h)

def V_math_bits_Len64 (x : Int) (w : World) (R : Value → World → Prop) : Prop :=
 join2 (fun (a : Int) (b : Int) => [(0, some (.int .u64 a)), (2, some (.int .i64 b))])
 (fun a b c => join2 (fun (d : Int) (e : Int) => [(0, some (.int .u64 d)), (2, some (.int .i64 e))])
 (fun d e f => join2 (fun (g : Int) (i : Int) => [(0, some (.int .u64 g)), (2, some (.int .i64 i))])
 (fun g i j => idx (IntKind.wrap .u8 (g)) (ByteArray.size S_empty_14a5d8)
 ((I64 (chr S_empty_14a5d8 (IntKind.wrap .u8 (g))) ∧
 (I64 (i + (chr S_empty_14a5d8 (IntKind.wrap .u8 (g)))) ∧
 lt (A := Int) (i + (chr S_empty_14a5d8 (IntKind.wrap .u8 (g)))) fun k =>
 R (.int .i64 k) j))))
 (fun l =>
 iteP (decide (256 ≤ d))
 ((I64 (e + 8) ∧
 l (shr .u64 d 8) (e + 8) f))
 (l d e f)))
 (fun m =>
 iteP (decide (65536 ≤ a))
 ((I64 (b + 16) ∧
 m (shr .u64 a 16) (b + 16) c))
 (m a b c)))
 (fun n =>
 iteP (decide (4294967296 ≤ x))
 (n (shr .u64 x 32) 32 w)
 (n x 0 w))
theorem V_math_bits_Len64_of {x : Int} {w : World} {R : Value → World → Prop} (h : V_math_bits_Len64 x w R) : Ok Pr f_math_bits_Len64 [.int .u64 x] w R :=
 evF_ok (m := ⟨true, true⟩) (J := [(4, [(0, .int .u64), (2, .int .i64)]), (7, [(0, .int .u64), (2, .int .i64)]), (10, [(0, .int .u64), (2, .int .i64)])]) (L := []) good Tryz.func212 (by kernel_rfl) ((by kernel_rfl : evF Pr _ _ _ Tryz.f212 _ w R = V_math_bits_Len64 x w R).mpr h)

def V_keccak_Permute (a : List Value) (w : World) (R : Value → World → Prop) : Prop :=
 nw t_25_uint64 a w fun b c =>
 nw t_25_uint64 (zc Pr t_25_uint64) c fun d e =>
 loop1 (fun (f : Int) => [(4, some (.int .i64 f))])
 (fun g f i => iteP (decide (f < 24))
 (ldA 25 b i fun j =>
 callK Pr f_keccak_Round [.agg ⟨j⟩, .int .i64 f] i fun k l =>
 asArr k fun m =>
 stA 25 b m l fun n =>
 (I64 (f + 1) ∧
 g (f + 1) n))
 (ldA 25 b i fun o =>
 stA 25 d o i fun p =>
 ldA 25 d p fun q =>
 R (.agg ⟨q⟩) p))
 0 e
theorem V_keccak_Permute_of {a : List Value} {w : World} {R : Value → World → Prop} (h : V_keccak_Permute a w R) : Ok Pr f_keccak_Permute [.agg ⟨a⟩] w R :=
 evF_ok (m := ⟨true, true⟩) (J := []) (L := [(2, [(4, .int .i64)])]) good Tryz.func218 (by kernel_rfl) ((by kernel_rfl : evF Pr _ _ _ Tryz.f218 _ w R = V_keccak_Permute a w R).mpr h)

def V_slices_IndexFunc_int_int_3f3901 (s : SlV) (f : Value) (w : World) (R : Value → World → Prop) : Prop :=
 loop1 (fun (a : Int) => [(8, some (.int .i64 a))])
 (fun b a c => iteP (decide (a < (s.n:Int)))
 (idxS s.a a s.n
 (ldL (Addr.add (base s.a) (Int.toNat a * 1)) c fun d =>
 callV Pr f [.slice d.a d.n d.c] c fun e g =>
 asB e fun i =>
 iteP i
 (R (.int .i64 a) g)
 ((I64 (a + 1) ∧
 b (a + 1) g))))
 (R (.int .i64 (-1:Int)) c))
 0 w
theorem V_slices_IndexFunc_int_int_3f3901_of {s : SlV} {f : Value} {w : World} {R : Value → World → Prop} (h : V_slices_IndexFunc_int_int_3f3901 s f w R) : Ok Pr f_slices_IndexFunc_int_int_3f3901 [.slice s.a s.n s.c, f] w R :=
 evF_ok (m := ⟨true, true⟩) (J := []) (L := [(2, [(8, .int .i64)])]) good Tryz.func219 (by kernel_rfl) ((by kernel_rfl : evF Pr _ _ _ Tryz.f219 _ w R = V_slices_IndexFunc_int_int_3f3901 s f w R).mpr h)

def V_math_bits_RotateLeft64 (x : Int) (kv : Int) (w : World) (R : Value → World → Prop) : Prop :=
 lt (A := Int) (andI .u64 (IntKind.wrap .u64 (kv)) 63) fun a =>
 cnt a (cnt (IntKind.wrap .u64 (64 - a)) (R (.int .u64 (orI .u64 (shl .u64 x a) (shr .u64 x (IntKind.wrap .u64 (64 - a))))) w))
theorem V_math_bits_RotateLeft64_of {x : Int} {kv : Int} {w : World} {R : Value → World → Prop} (h : V_math_bits_RotateLeft64 x kv w R) : Ok Pr f_math_bits_RotateLeft64 [.int .u64 x, .int .i64 kv] w R :=
 evF_ok (m := ⟨true, true⟩) (J := []) (L := []) good Tryz.func221 (by kernel_rfl) ((by kernel_rfl : evF Pr _ _ _ Tryz.f221 _ w R = V_math_bits_RotateLeft64 x kv w R).mpr h)

def V_keccak_Round (a : List Value) (round : Int) (w : World) (R : Value → World → Prop) : Prop :=
 nw t_25_uint64 a w fun b c =>
 nw t_25_uint64 (zc Pr t_25_uint64) c fun d e =>
 ldA 25 b e fun f =>
 callK Pr f_keccak_Theta [.agg ⟨f⟩] e fun g i =>
 asArr g fun j =>
 callK Pr f_keccak_Rho [.agg ⟨j⟩] i fun k l =>
 asArr k fun m =>
 callK Pr f_keccak_Pi [.agg ⟨m⟩] l fun n o =>
 asArr n fun p =>
 callK Pr f_keccak_Chi [.agg ⟨p⟩] o fun q s =>
 asArr q fun t =>
 callK Pr f_keccak_Iota [.agg ⟨t⟩, .int .i64 round] s fun u v =>
 asArr u fun x =>
 stA 25 d x v fun y =>
 ldA 25 d y fun z =>
 R (.agg ⟨z⟩) y
theorem V_keccak_Round_of {a : List Value} {round : Int} {w : World} {R : Value → World → Prop} (h : V_keccak_Round a round w R) : Ok Pr f_keccak_Round [.agg ⟨a⟩, .int .i64 round] w R :=
 evF_ok (m := ⟨true, true⟩) (J := []) (L := []) good Tryz.func222 (by kernel_rfl) ((by kernel_rfl : evF Pr _ _ _ Tryz.f222 _ w R = V_keccak_Round a round w R).mpr h)

def V_keccak_Iota (a : List Value) (round : Int) (w : World) (R : Value → World → Prop) : Prop :=
 nw t_25_uint64 a w fun b c =>
 nw t_25_uint64 (zc Pr t_25_uint64) c fun d e =>
 iteP ((decide (round < 0)) || (decide (23 < round)))
 (ldA 25 b e fun f =>
 stA 25 d f e fun g =>
 ldA 25 d g fun i =>
 R (.agg ⟨i⟩) g)
 (nw t_24_uint64 (zc Pr t_24_uint64) e fun j k =>
 stA 24 j ([.int .u64 1, .int .u64 32898, .int .u64 9223372036854808714, .int .u64 9223372039002292224, .int .u64 32907, .int .u64 2147483649, .int .u64 9223372039002292353, .int .u64 9223372036854808585, .int .u64 138, .int .u64 136, .int .u64 2147516425, .int .u64 2147483658, .int .u64 2147516555, .int .u64 9223372036854775947, .int .u64 9223372036854808713, .int .u64 9223372036854808579, .int .u64 9223372036854808578, .int .u64 9223372036854775936, .int .u64 32778, .int .u64 9223372039002259466, .int .u64 9223372039002292353, .int .u64 9223372036854808704, .int .u64 2147483649, .int .u64 9223372039002292232]) k fun l =>
 idx 0 25
 (ldI .u64 (Addr.add b (Int.toNat 0 * 1)) (World.drew l) fun m =>
 idx round 24
 (ldI .u64 (Addr.add j (Int.toNat round * 1)) (World.drew l) fun n =>
 idx 0 25
 (st (Addr.add b (Int.toNat 0 * 1)) (.int .u64 (xorI .u64 m n)) (World.drew l) fun o =>
 ldA 25 b o fun p =>
 stA 25 d p o fun q =>
 ldA 25 d q fun s =>
 R (.agg ⟨s⟩) q))))
theorem V_keccak_Iota_of {a : List Value} {round : Int} {w : World} {R : Value → World → Prop} (h : V_keccak_Iota a round w R) : Ok Pr f_keccak_Iota [.agg ⟨a⟩, .int .i64 round] w R :=
 evF_ok (m := ⟨true, true⟩) (J := []) (L := []) good Tryz.func223 (by kernel_rfl) ((by kernel_rfl : evF Pr _ _ _ Tryz.f223 _ w R = V_keccak_Iota a round w R).mpr h)

def V_keccak_Chi (a : List Value) (w : World) (R : Value → World → Prop) : Prop :=
 nw t_25_uint64 a w fun b c =>
 nw t_25_uint64 (zc Pr t_25_uint64) c fun d e =>
 ldA 25 b e fun f =>
 nw t_25_uint64 (zc Pr t_25_uint64) e fun g i =>
 stA 25 g f i fun j =>
 loop1 (fun (k : Int) => [(7, some (.int .i64 k))])
 (fun l k m => iteP (decide (k < 5))
 (loop1 (fun (n : Int) => [(10, some (.int .i64 n))])
 (fun o n p => iteP (decide (n < 5))
 ((I64 (n + 1) ∧
 (I64 (n + 2) ∧
 callK Pr f_keccak_at [.int .i64 n, .int .i64 k] (World.drew p) fun q s =>
 asI .i64 q fun t =>
 idx t 25
 (ldI .u64 (Addr.add g (Int.toNat t * 1)) s fun u =>
 callK Pr f_keccak_at [.int .i64 (n + 1), .int .i64 k] s fun v x =>
 asI .i64 v fun y =>
 (kept (Addr.add g (Int.toNat t * 1)) 1 s x ∧
 idx y 25
 (ldI .u64 (Addr.add b (Int.toNat y * 1)) x fun z =>
 callK Pr f_keccak_at [.int .i64 (n + 2), .int .i64 k] x fun A B =>
 asI .i64 A fun C =>
 (kept (Addr.add b (Int.toNat y * 1)) 1 x B ∧
 (kept (Addr.add g (Int.toNat t * 1)) 1 x B ∧
 idx C 25
 (ldI .u64 (Addr.add b (Int.toNat C * 1)) B fun D =>
 idx t 25
 (st (Addr.add g (Int.toNat t * 1)) (.int .u64 (xorI .u64 u (andI .u64 (notI .u64 z) D))) B fun E =>
 (I64 (n + 1) ∧
 o (n + 1) E)))))))))))
 ((I64 (k + 1) ∧
 l (k + 1) p)))
 0 m)
 (ldA 25 g m fun F =>
 stA 25 d F m fun G =>
 ldA 25 d G fun I =>
 R (.agg ⟨I⟩) G))
 0 j
theorem V_keccak_Chi_of {a : List Value} {w : World} {R : Value → World → Prop} (h : V_keccak_Chi a w R) : Ok Pr f_keccak_Chi [.agg ⟨a⟩] w R :=
 evF_ok (m := ⟨true, true⟩) (J := []) (L := [(3, [(7, .int .i64)]), (6, [(10, .int .i64)])]) good Tryz.func224 (by kernel_rfl) ((by kernel_rfl : evF Pr _ _ _ Tryz.f224 _ w R = V_keccak_Chi a w R).mpr h)

def V_keccak_Pi (a : List Value) (w : World) (R : Value → World → Prop) : Prop :=
 nw t_25_uint64 a w fun b c =>
 nw t_25_uint64 (zc Pr t_25_uint64) c fun d e =>
 nw t_25_uint64 (zc Pr t_25_uint64) e fun f g =>
 loop1 (fun (i : Int) => [(6, some (.int .i64 i))])
 (fun j i k => iteP (decide (i < 5))
 (loop1 (fun (l : Int) => [(9, some (.int .i64 l))])
 (fun m l n => iteP (decide (l < 5))
 (callK Pr f_keccak_at [.int .i64 l, .int .i64 i] n fun o p =>
 asI .i64 o fun q =>
 (I64 (3 * i) ∧
 (I64 (l + (3 * i)) ∧
 callK Pr f_keccak_at [.int .i64 (l + (3 * i)), .int .i64 l] p fun s t =>
 asI .i64 s fun u =>
 idx u 25
 (ldI .u64 (Addr.add b (Int.toNat u * 1)) t fun v =>
 idx q 25
 (st (Addr.add f (Int.toNat q * 1)) (.int .u64 v) t fun x =>
 (I64 (l + 1) ∧
 m (l + 1) x))))))
 ((I64 (i + 1) ∧
 j (i + 1) n)))
 0 k)
 (ldA 25 f k fun y =>
 stA 25 d y k fun z =>
 ldA 25 d z fun A =>
 R (.agg ⟨A⟩) z))
 0 g
theorem V_keccak_Pi_of {a : List Value} {w : World} {R : Value → World → Prop} (h : V_keccak_Pi a w R) : Ok Pr f_keccak_Pi [.agg ⟨a⟩] w R :=
 evF_ok (m := ⟨true, true⟩) (J := []) (L := [(3, [(6, .int .i64)]), (6, [(9, .int .i64)])]) good Tryz.func225 (by kernel_rfl) ((by kernel_rfl : evF Pr _ _ _ Tryz.f225 _ w R = V_keccak_Pi a w R).mpr h)

def V_keccak_Rho (a : List Value) (w : World) (R : Value → World → Prop) : Prop :=
 nw t_25_uint64 a w fun b c =>
 nw t_25_uint64 (zc Pr t_25_uint64) c fun d e =>
 loop3 (fun (f : Int) (g : Int) (i : Int) => [(3, some (.int .i64 f)), (4, some (.int .i64 g)), (5, some (.int .i64 i))])
 (fun j f g i k => iteP (decide (i ≤ 24))
 (callK Pr f_keccak_at [.int .i64 f, .int .i64 g] k fun l m =>
 asI .i64 l fun n =>
 idx n 25
 (ldI .u64 (Addr.add b (Int.toNat n * 1)) m fun o =>
 (I64 (i + 1) ∧
 (I64 (i * (i + 1)) ∧
 ((0 ≤ i * (i + 1) ∧ i * (i + 1) ≤ IntKind.max .i64) ∧
 (0 ≤ (i * (i + 1)) / 2 ∧
 callK Pr f_math_bits_RotateLeft64 [.int .u64 o, .int .i64 (((i * (i + 1)) / 2) % 64)] m fun p q =>
 asI .u64 p fun s =>
 idx n 25
 (st (Addr.add b (Int.toNat n * 1)) (.int .u64 s) q fun t =>
 (I64 (2 * f) ∧
 (I64 (3 * g) ∧
 (I64 ((2 * f) + (3 * g)) ∧
 (0 ≤ (2 * f) + (3 * g) ∧
 lt (A := Int) (((2 * f) + (3 * g)) % 5) fun u =>
 (I64 (i + 1) ∧
 j g u (i + 1) t))))))))))))
 (ldA 25 b k fun v =>
 stA 25 d v k fun x =>
 ldA 25 d x fun y =>
 R (.agg ⟨y⟩) x))
 1 0 1 e
theorem V_keccak_Rho_of {a : List Value} {w : World} {R : Value → World → Prop} (h : V_keccak_Rho a w R) : Ok Pr f_keccak_Rho [.agg ⟨a⟩] w R :=
 evF_ok (m := ⟨true, true⟩) (J := []) (L := [(3, [(3, .int .i64), (4, .int .i64), (5, .int .i64)])]) good Tryz.func226 (by kernel_rfl) ((by kernel_rfl : evF Pr _ _ _ Tryz.f226 _ w R = V_keccak_Rho a w R).mpr h)

def V_keccak_Theta (a : List Value) (w : World) (R : Value → World → Prop) : Prop :=
 nw t_25_uint64 a w fun b c =>
 nw t_25_uint64 (zc Pr t_25_uint64) c fun d e =>
 nw t_5_uint64 (zc Pr t_5_uint64) e fun f g =>
 ldA 25 b g fun i =>
 loop1 (fun (j : Int) => [(9, some (.int .i64 j))])
 (fun k j l => iteP (decide (j < 25))
 (atI .u64 i j 25 fun m =>
 (0 ≤ j ∧
 idx (j % 5) 5
 (ldI .u64 (Addr.add f (Int.toNat (j % 5) * 1)) l fun n =>
 idx (j % 5) 5
 (st (Addr.add f (Int.toNat (j % 5) * 1)) (.int .u64 (xorI .u64 n m)) l fun o =>
 (I64 (j + 1) ∧
 k (j + 1) o)))))
 (loop1 (fun (p : Int) => [(21, some (.int .i64 p))])
 (fun q p s => iteP (decide (p < 25))
 ((0 ≤ p ∧
 idx p 25
 (ldI .u64 (Addr.add b (Int.toNat p * 1)) (World.drew s) fun t =>
 (I64 ((p % 5) + 4) ∧
 (0 ≤ (p % 5) + 4 ∧
 idx (((p % 5) + 4) % 5) 5
 (ldI .u64 (Addr.add f (Int.toNat (((p % 5) + 4) % 5) * 1)) (World.drew s) fun u =>
 (I64 ((p % 5) + 1) ∧
 (0 ≤ (p % 5) + 1 ∧
 idx (((p % 5) + 1) % 5) 5
 (ldI .u64 (Addr.add f (Int.toNat (((p % 5) + 1) % 5) * 1)) (World.drew s) fun v =>
 callK Pr f_math_bits_RotateLeft64 [.int .u64 v, .int .i64 1] (World.drew s) fun x y =>
 asI .u64 x fun z =>
 (kept (Addr.add f (Int.toNat (((p % 5) + 4) % 5) * 1)) 1 (World.drew s) y ∧
 (kept (Addr.add b (Int.toNat p * 1)) 1 (World.drew s) y ∧
 idx p 25
 (st (Addr.add b (Int.toNat p * 1)) (.int .u64 (xorI .u64 t (xorI .u64 u z))) y fun A =>
 (I64 (p + 1) ∧
 q (p + 1) A)))))))))))))
 (ldA 25 b s fun B =>
 stA 25 d B s fun C =>
 ldA 25 d C fun D =>
 R (.agg ⟨D⟩) C))
 0 l))
 0 g
theorem V_keccak_Theta_of {a : List Value} {w : World} {R : Value → World → Prop} (h : V_keccak_Theta a w R) : Ok Pr f_keccak_Theta [.agg ⟨a⟩] w R :=
 evF_ok (m := ⟨true, true⟩) (J := []) (L := [(3, [(9, .int .i64)]), (8, [(21, .int .i64)])]) good Tryz.func227 (by kernel_rfl) ((by kernel_rfl : evF Pr _ _ _ Tryz.f227 _ w R = V_keccak_Theta a w R).mpr h)

def V_keccak_at (x : Int) (y : Int) (w : World) (R : Value → World → Prop) : Prop :=
 (0 ≤ x ∧
 (0 ≤ y ∧
 (I64 (5 * (y % 5)) ∧
 (I64 ((x % 5) + (5 * (y % 5))) ∧
 R (.int .i64 ((x % 5) + (5 * (y % 5)))) w))))
theorem V_keccak_at_of {x : Int} {y : Int} {w : World} {R : Value → World → Prop} (h : V_keccak_at x y w R) : Ok Pr f_keccak_at [.int .i64 x, .int .i64 y] w R :=
 evF_ok (m := ⟨true, true⟩) (J := []) (L := []) good Tryz.func228 (by kernel_rfl) ((by kernel_rfl : evF Pr _ _ _ Tryz.f228 _ w R = V_keccak_at x y w R).mpr h)

end Go.Proofs.YtdnhoebcomffoaaGreatDoor
end
section
set_option linter.unusedVariables false
set_option linter.unusedSimpArgs false
/- A CALL'S OWN MEMORY, part by part; loops and joins as they are met: words of this claim's author. -/
namespace Go.Ev
open Go Go.RowKit

variable {P : Program}
/-! ### parts of memory -/
/-- a part: the blocks that it takes, what holds of it -/
structure Res where
  fp : List Nat
  ok : World → Prop
  stab : ∀ w w' : World, (∀ b ∈ fp, w'.heap[b]? = w.heap[b]?) → ok w → ok w'
  lt : ∀ w, ok w → ∀ b ∈ fp, b < w.heap.size
/-- a block as a whole -/
def Res.blk (b : Nat) (cs : List Value) (t : TypeId) : Res where
  fp := [b]
  ok w := Blk w b cs t
  stab w w' h k := (h b (by simp)).trans k
  lt w h c hc := by simp only [List.mem_singleton] at hc; subst hc; exact Blk.lt h
/-- a slice's row, the call's own -/
def Res.row (e : TypeId) (sz : Nat) (s : SlV) (vs : List Value) : Res where
  fp := s.row
  ok w := Own w 0 e sz s vs
  stab w w' h k := by
    obtain ⟨a, n, c⟩ := s
    obtain ⟨hl, h1 | ⟨g, cap, cur, h1, h2, h3, h4⟩⟩ := k
    · exact ⟨hl, .inl h1⟩
    · refine ⟨hl, .inr ⟨g, cap, cur, h1, h2, ?_, h4⟩⟩
      simp only [SlV.v, Value.slice.injEq] at h1
      rw [h g (by simp [SlV.row, h1.1])]
      exact h3
  lt w h b hb := (Own.row_ge h b hb).2
/-- what the call owns now: parts L, each apart from the others; of the blocks that were there at w0 only those of S -/
structure Mine (w0 : World) (S : List Nat) (w : World) (L : List Res) : Prop where
  mod : Mod S w0 w
  ok : ∀ (k : Nat) (r : Res), L[k]? = some r → r.ok w
  own : ∀ (k : Nat) (r : Res), L[k]? = some r → ∀ b ∈ r.fp, b ∈ S ∨ w0.heap.size ≤ b
  apart : ∀ (j k : Nat) (r s : Res), j ≠ k → L[j]? = some r → L[k]? = some s → ∀ b ∈ r.fp, b ∉ s.fp
section
variable {w0 w w' : World} {S : List Nat} {L : List Res} {r r' : Res} {k : Nat}
theorem Mine.start (w : World) : Mine w [] w [] := ⟨Mod.refl _ _, fun k r h => by simp at h, fun k r h => by simp at h, fun j k r s _ h => by simp at h⟩
theorem Mine.start1 {r : Res} {w : World} (h : r.ok w) : Mine w r.fp w [r] := by
  have e : ∀ {k : Nat} {s : Res}, [r][k]? = some s → k = 0 ∧ s = r := fun {k s} h => by
    cases k with
    | zero => simp at h; exact ⟨rfl, h.symm⟩
    | succ k => simp at h
  refine ⟨Mod.refl _ _, fun k s hs => ?_, fun k s hs b hb => ?_, fun j k s t hjk hs ht => ?_⟩
  · rw [(e hs).2]; exact h
  · rw [(e hs).2] at hb; exact .inl hb
  · exact absurd ((e hs).1.trans (e ht).1.symm) hjk
theorem Mine.get (H : Mine w0 S w L) (k : Nat) {r : Res} (hk : L[k]? = some r) : r.ok w := H.ok k r hk
/-- the world goes on, and no part is touched -/
theorem Mine.frame (H : Mine w0 S w L) (m : Mod [] w w') : Mine w0 S w' L :=
  ⟨H.mod.then m, fun k r hk => r.stab w w' (fun b hb => m.block b (r.lt w (H.ok k r hk) b hb) (by simp)) (H.ok k r hk), H.own, H.apart⟩
/-- a new part -/
theorem Mine.push (H : Mine w0 S w L) (m : Mod [] w w') (hr : r.ok w') (hf : ∀ b ∈ r.fp, w.heap.size ≤ b) : Mine w0 S w' (L ++ [r]) := by
  have H' := H.frame m
  have e : ∀ {k : Nat} {s : Res}, (L ++ [r])[k]? = some s → (L[k]? = some s ∧ k < L.length) ∨ (s = r ∧ k = L.length) := fun {k s} h => by
    rcases Nat.lt_or_ge k L.length with hk | hk
    · rw [List.getElem?_append_left hk] at h; exact .inl ⟨h, hk⟩
    · rw [List.getElem?_append_right hk] at h
      rcases Nat.eq_zero_or_pos (k - L.length) with e | e
      · rw [e] at h; simp at h; exact .inr ⟨h.symm, by omega⟩
      · rw [List.getElem?_eq_none (by simp; omega)] at h; cases h
  refine ⟨H'.mod, fun k s hs => ?_, fun k s hs b hb => ?_, fun j k s t hjk hs ht b hb hb' => ?_⟩
  · rcases e hs with ⟨h, _⟩ | ⟨rfl, _⟩
    · exact H'.ok k s h
    · exact hr
  · rcases e hs with ⟨h, _⟩ | ⟨rfl, _⟩
    · exact H.own k s h b hb
    · exact .inr (Nat.le_trans H.mod.size (hf b hb))
  · rcases e hs with ⟨h, hj⟩ | ⟨rfl, hj⟩
    · rcases e ht with ⟨h', _⟩ | ⟨rfl, _⟩
      · exact H.apart j k s t hjk h h' b hb hb'
      · have := s.lt w (H.ok j s h) b hb
        have := hf b hb'
        omega
    · rcases e ht with ⟨h', _⟩ | ⟨rfl, hk⟩
      · have := t.lt w (H.ok k t h') b hb'
        have := hf b hb
        omega
      · omega
/-- a part turns -/
theorem Mine.upd {T : List Nat} (H : Mine w0 S w L) (k : Nat) {r r' : Res} (hk : L[k]? = some r) (m : Mod T w w') (hT : ∀ b ∈ T, b ∈ r.fp ∨ w.heap.size ≤ b) (hr : r'.ok w') (hf : ∀ b ∈ r'.fp, b ∈ r.fp ∨ w.heap.size ≤ b) :
    Mine w0 S w' (L.set k r') := by
  have hkl : k < L.length := (List.getElem?_eq_some_iff.1 hk).1
  have e : ∀ {j : Nat} {s : Res}, (L.set k r')[j]? = some s → (L[j]? = some s ∧ j ≠ k) ∨ (s = r' ∧ j = k) := fun {j s} h => by
    rw [List.getElem?_set] at h
    split at h
    · rename_i e
      subst e
      exact .inr ⟨(Option.some.inj h).symm, rfl⟩
    · rename_i hn; exact .inl ⟨h, fun e => hn e.symm⟩
  refine ⟨H.mod.trans' m fun b hb => ?_, fun j s hs => ?_, fun j s hs b hb => ?_, fun i j s t hij hs ht b hb hb' => ?_⟩
  · rcases hT b hb with h | h
    · exact H.own k r hk b h
    · exact .inr (Nat.le_trans H.mod.size h)
  · rcases e hs with ⟨h, hj⟩ | ⟨rfl, _⟩
    · refine s.stab w w' (fun b hb => m.block b (s.lt w (H.ok j s h) b hb) fun hbT => ?_) (H.ok j s h)
      rcases hT b hbT with h1 | h1
      · exact H.apart j k s r hj h hk b hb h1
      · have := s.lt w (H.ok j s h) b hb; omega
    · exact hr
  · rcases e hs with ⟨h, _⟩ | ⟨rfl, _⟩
    · exact H.own j s h b hb
    · rcases hf b hb with h1 | h1
      · exact H.own k r hk b h1
      · exact .inr (Nat.le_trans H.mod.size h1)
  · have old : ∀ {j : Nat} {s : Res} {b : Nat}, L[j]? = some s → j ≠ k → b ∈ s.fp → b ∉ r'.fp := fun {j s b} h hj hb hb' => by
      rcases hf b hb' with h1 | h1
      · exact H.apart j k s r hj h hk b hb h1
      · have := s.lt w (H.ok j s h) b hb; omega
    rcases e hs with ⟨h, hi⟩ | ⟨rfl, hi⟩
    · rcases e ht with ⟨h', _⟩ | ⟨rfl, _⟩
      · exact H.apart i j s t hij h h' b hb hb'
      · exact old h hi hb hb'
    · rcases e ht with ⟨h', hj⟩ | ⟨rfl, hj⟩
      · exact old h' hj hb' hb
      · omega
/-- the last parts are let go -/
theorem Mine.take (H : Mine w0 S w L) (n : Nat) : Mine w0 S w (L.take n) := by
  have e : ∀ {k : Nat} {s : Res}, (L.take n)[k]? = some s → L[k]? = some s := fun {k s} h => by
    rw [List.getElem?_take] at h
    split at h
    · exact h
    · cases h
  exact ⟨H.mod, fun k s hs => H.ok k s (e hs), fun k s hs => H.own k s (e hs), fun j k s t hjk hs ht => H.apart j k s t hjk (e hs) (e ht)⟩
theorem Mine.drew (H : Mine w0 S w L) : Mine w0 S w.drew L := H.frame (Mod.drew _ _)
end

/-! ### whole blocks -/
section
variable {w0 w : World} {S : List Nat} {L : List Res}
theorem Mine.nw (H : Mine w0 S w L) {t : TypeId} {cs : List Value} {K : Addr → World → Prop} (h : ∀ b w', Mine w0 S w' (L ++ [.blk b cs t]) → w0.heap.size ≤ b → K ⟨b, 0, none⟩ w') : nw t cs w K :=
  nw_blk fun b w' hb h1 h2 _ => h b w' (H.push h2 h1 (by simp [Res.blk, hb])) (hb ▸ H.mod.size)
theorem Mine.blk (H : Mine w0 S w L) (k : Nat) {b : Nat} {cs : List Value} {t : TypeId} (hk : L[k]? = some (.blk b cs t)) : Blk w b cs t := H.ok k _ hk
theorem Mine.st (H : Mine w0 S w L) (k : Nat) {b i : Nat} {a : Addr} {v : Value} {cs : List Value} {t : TypeId} {K : World → Prop} (hk : L[k]? = some (.blk b cs t)) (ha : a = ⟨b, i, none⟩) (hi : i < cs.length) (h1 : isOne v = true)
    (h : ∀ w', Mine w0 S w' (L.set k (.blk b (cs.set i v) t)) → K w') : st a v w K := by
  subst ha
  exact st_blk (H.blk k hk) hi h1 fun w' h2 h3 _ => h w' (H.upd k hk h3 (fun c hc => .inl hc) h2 (fun c hc => .inl hc))
theorem Mine.stA (H : Mine w0 S w L) (k : Nat) {b n : Nat} {l cs : List Value} {t : TypeId} {K : World → Prop} (hk : L[k]? = some (.blk b cs t)) (hl : l.length = n) (hn : n = cs.length) (h1 : ∀ v ∈ l, isOne v = true)
    (h : ∀ w', Mine w0 S w' (L.set k (.blk b l t)) → K w') : stA n ⟨b, 0, none⟩ l w K :=
  stA_blk (H.blk k hk) hl (Nat.le_of_eq hn) h1 fun w' h2 h3 _ => by
    rw [hn, List.drop_length, List.append_nil] at h2
    exact h w' (H.upd k hk h3 (fun c hc => .inl hc) h2 (fun c hc => .inl hc))
theorem Mine.ldA (H : Mine w0 S w L) (k : Nat) {b n : Nat} {cs : List Value} {t : TypeId} {K : List Value → Prop} (hk : L[k]? = some (.blk b cs t)) (hn : n = cs.length) (h : K cs) : ldA n ⟨b, 0, none⟩ w K :=
  ldA_blk (H.blk k hk) (Nat.le_of_eq hn) (by rw [hn, List.take_length]; exact h)
theorem Mine.cell (H : Mine w0 S w L) (k : Nat) {b i : Nat} {a : Addr} {v : Value} {cs : List Value} {t : TypeId} (hk : L[k]? = some (.blk b cs t)) (ha : a = ⟨b, i, none⟩) (hv : cs[i]? = some v) : w.cell? a = some v := by
  subst ha; exact ((H.blk k hk).cell i).trans hv
theorem Mine.ldI (H : Mine w0 S w L) (k : Nat) {b i : Nat} {a : Addr} {q : IntKind} {n : Int} {cs : List Value} {t : TypeId} {K : Int → Prop} (hk : L[k]? = some (.blk b cs t)) (ha : a = ⟨b, i, none⟩) (hv : cs[i]? = some (.int q n)) (h : K n) : ldI q a w K :=
  ⟨n, H.cell k hk ha hv, h⟩
theorem Mine.ldB (H : Mine w0 S w L) (k : Nat) {b i : Nat} {a : Addr} {n : Bool} {cs : List Value} {t : TypeId} {K : Bool → Prop} (hk : L[k]? = some (.blk b cs t)) (ha : a = ⟨b, i, none⟩) (hv : cs[i]? = some (.bool n)) (h : K n) : ldB a w K :=
  ⟨n, H.cell k hk ha hv, h⟩
theorem Mine.ldP (H : Mine w0 S w L) (k : Nat) {b i : Nat} {a : Addr} {n : Option Addr} {cs : List Value} {t : TypeId} {K : Option Addr → Prop} (hk : L[k]? = some (.blk b cs t)) (ha : a = ⟨b, i, none⟩) (hv : cs[i]? = some (.pointer n)) (h : K n) : ldP a w K :=
  ⟨n, H.cell k hk ha hv, h⟩
theorem Mine.ldL (H : Mine w0 S w L) (k : Nat) {b i : Nat} {a : Addr} {n : SlV} {cs : List Value} {t : TypeId} {K : SlV → Prop} (hk : L[k]? = some (.blk b cs t)) (ha : a = ⟨b, i, none⟩) (hv : cs[i]? = some (.slice n.a n.n n.c)) (h : K n) : ldL a w K :=
  ⟨n, H.cell k hk ha hv, h⟩
theorem Mine.kept (H : Mine w0 S w L) {w' : World} (m : Mod [] w w') (k : Nat) {b i : Nat} {a : Addr} {cs : List Value} {t : TypeId} (hk : L[k]? = some (.blk b cs t)) (ha : a = ⟨b, i, none⟩) (n : Nat) : kept a n w w' := by
  subst ha
  exact kept_of m (H.blk k hk).lt (by simp)
end
theorem ad (b i : Nat) : Addr.add ⟨b, 0, none⟩ (i * 1) = ⟨b, i, none⟩ := by rw [add_mk, Nat.zero_add, Nat.mul_one]
theorem ad1 (b i : Nat) : Addr.add ⟨b, 0, none⟩ i = ⟨b, i, none⟩ := by rw [add_mk, Nat.zero_add]

/-! ### own rows -/
section
variable {w0 w : World} {S : List Nat} {L : List Res}
theorem Own.lo {w : World} {lo : Nat} {e : TypeId} {sz : Nat} {s : SlV} {vs : List Value} (h : Own w lo e sz s vs) : Own w 0 e sz s vs := by
  obtain ⟨hl, h1 | ⟨g, cap, cur, h1, h2, h3⟩⟩ := h
  · exact ⟨hl, .inl h1⟩
  · exact ⟨hl, .inr ⟨g, cap, cur, h1, Nat.zero_le _, h3⟩⟩
theorem Mine.own' (H : Mine w0 S w L) (k : Nat) {e : TypeId} {sz : Nat} {s : SlV} {vs : List Value} (hk : L[k]? = some (.row e sz s vs)) : Own w 0 e sz s vs := H.ok k _ hk
theorem Mine.nilrow (H : Mine w0 S w L) (e : TypeId) (sz : Nat) : Mine w0 S w (L ++ [.row e sz ⟨none, 0, 0⟩ []]) :=
  H.push (Mod.refl _ _) (Own.nil w 0 e sz) (by simp [Res.row, SlV.row])
theorem Mine.app (H : Mine w0 S w L) (k : Nat) {t ty e : TypeId} {sz bytes : Nat} {s x : SlV} {vs us : List Value} {K : SlV → World → Prop} (hel : Elt P t e sz bytes) (hk : L[k]? = some (.row e sz s vs)) (hx : Sl w x sz us)
    (h1 : ∀ u ∈ us, isOne u = true) (hb : (s.n + x.n) * bytes ≤ 140737488355328) (hm : s.n + x.n ≤ 9223372036854775807)
    (h : ∀ s' w', Mine w0 S w' (L.set k (.row e sz s' (vs ++ us))) → s'.n = s.n + x.n → K s' w') : appK P [t, t] ty [.slice s.a s.n s.c, .slice x.a x.n x.c] w K :=
  app_own hel (H.own' k hk) hx h1 hb hm (Nat.zero_le _) fun s' w' h2 h3 h4 h5 => h s' w' (H.upd k hk h3 (fun b hb => .inl hb) h2 h5) h4
end

/-! ### loops and joins -/
theorem loop1_of {A1 : Type} {mk : A1 → Fr} {body : (A1 → World → Prop) → A1 → World → Prop} {y1 : A1} {v : World} (I : A1 → World → Prop) (μ : A1 → World → Nat) (hi : I y1 v)
    (hb : ∀ (again : A1 → World → Prop) x1 w, I x1 w → (∀ x1' w', I x1' w' → μ x1' w' < μ x1 w → again x1' w') → body again x1 w) : loop1 mk body y1 v := by
  intro X hX
  suffices ∀ n x1 w, μ x1 w < n → I x1 w → X (mk x1) w from this _ y1 v (Nat.lt_succ_self _) hi
  intro n
  induction n with
  | zero => intro x1 w h; omega
  | succ n ih => intro x1 w hn hI; exact hX x1 w (hb _ x1 w hI fun x1' w' h1 h2 => ih x1' w' (by omega) h1)
theorem loop2_of {A1 A2 : Type} {mk : A1 → A2 → Fr} {body : (A1 → A2 → World → Prop) → A1 → A2 → World → Prop} {y1 : A1} {y2 : A2} {v : World} (I : A1 → A2 → World → Prop) (μ : A1 → A2 → World → Nat) (hi : I y1 y2 v)
    (hb : ∀ (again : A1 → A2 → World → Prop) x1 x2 w, I x1 x2 w → (∀ x1' x2' w', I x1' x2' w' → μ x1' x2' w' < μ x1 x2 w → again x1' x2' w') → body again x1 x2 w) : loop2 mk body y1 y2 v := by
  intro X hX
  suffices ∀ n x1 x2 w, μ x1 x2 w < n → I x1 x2 w → X (mk x1 x2) w from this _ y1 y2 v (Nat.lt_succ_self _) hi
  intro n
  induction n with
  | zero => intro x1 x2 w h; omega
  | succ n ih => intro x1 x2 w hn hI; exact hX x1 x2 w (hb _ x1 x2 w hI fun x1' x2' w' h1 h2 => ih x1' x2' w' (by omega) h1)
theorem loop3_of {A1 A2 A3 : Type} {mk : A1 → A2 → A3 → Fr} {body : (A1 → A2 → A3 → World → Prop) → A1 → A2 → A3 → World → Prop} {y1 : A1} {y2 : A2} {y3 : A3} {v : World} (I : A1 → A2 → A3 → World → Prop) (μ : A1 → A2 → A3 → World → Nat)
    (hi : I y1 y2 y3 v)
    (hb : ∀ (again : A1 → A2 → A3 → World → Prop) x1 x2 x3 w, I x1 x2 x3 w → (∀ x1' x2' x3' w', I x1' x2' x3' w' → μ x1' x2' x3' w' < μ x1 x2 x3 w → again x1' x2' x3' w') → body again x1 x2 x3 w) : loop3 mk body y1 y2 y3 v := by
  intro X hX
  suffices ∀ n x1 x2 x3 w, μ x1 x2 x3 w < n → I x1 x2 x3 w → X (mk x1 x2 x3) w from this _ y1 y2 y3 v (Nat.lt_succ_self _) hi
  intro n
  induction n with
  | zero => intro x1 x2 x3 w h; omega
  | succ n ih => intro x1 x2 x3 w hn hI; exact hX x1 x2 x3 w (hb _ x1 x2 x3 w hI fun x1' x2' x3' w' h1 h2 => ih x1' x2' x3' w' (by omega) h1)
/-- a loop that counts: from lo up to hi -/
theorem loop1_up {mk : Int → Fr} {body : (Int → World → Prop) → Int → World → Prop} {v : World} {y : Int} (lo hi : Nat) (I : Nat → World → Prop) (hy : y = (lo : Int)) (hle : lo ≤ hi) (h0 : I lo v)
    (step : ∀ (again : Int → World → Prop) (i : Nat) w, lo ≤ i → i < hi → I i w → (∀ w', I (i + 1) w' → again ((i : Int) + 1) w') → body again (i : Int) w)
    (done : ∀ (again : Int → World → Prop) w, I hi w → body again (hi : Int) w) : loop1 mk body y v := by
  subst hy
  refine loop1_of (fun x w => ∃ i : Nat, x = (i : Int) ∧ lo ≤ i ∧ i ≤ hi ∧ I i w) (fun x _ => hi - x.toNat) ⟨lo, rfl, Nat.le_refl _, hle, h0⟩ ?_
  rintro again x w ⟨i, rfl, h1, h2, h3⟩ hag
  rcases Nat.lt_or_ge i hi with h | h
  · exact step again i w h1 h h3 fun w' h4 => hag _ w' ⟨i + 1, by simp, by omega, by omega, h4⟩ (by omega)
  · have : i = hi := by omega
    subst this
    exact done again w h3
theorem loop2_up {A : Type} {mk : A → Int → Fr} {body : (A → Int → World → Prop) → A → Int → World → Prop} {v : World} {x : A} {y : Int} (lo hi : Nat) (I : Nat → A → World → Prop) (hy : y = (lo : Int)) (hle : lo ≤ hi) (h0 : I lo x v)
    (step : ∀ (again : A → Int → World → Prop) (i : Nat) a w, lo ≤ i → i < hi → I i a w → (∀ a' w', I (i + 1) a' w' → again a' ((i : Int) + 1) w') → body again a (i : Int) w)
    (done : ∀ (again : A → Int → World → Prop) a w, I hi a w → body again a (hi : Int) w) : loop2 mk body x y v := by
  subst hy
  refine loop2_of (fun a x w => ∃ i : Nat, x = (i : Int) ∧ lo ≤ i ∧ i ≤ hi ∧ I i a w) (fun _ x _ => hi - x.toNat) ⟨lo, rfl, Nat.le_refl _, hle, h0⟩ ?_
  rintro again a x w ⟨i, rfl, h1, h2, h3⟩ hag
  rcases Nat.lt_or_ge i hi with h | h
  · exact step again i a w h1 h h3 fun a' w' h4 => hag a' _ w' ⟨i + 1, by simp, by omega, by omega, h4⟩ (by omega)
  · have : i = hi := by omega
    subst this
    exact done again a w h3
theorem loop3_up {A B : Type} {mk : A → B → Int → Fr} {body : (A → B → Int → World → Prop) → A → B → Int → World → Prop} {v : World} {x : A} {z : B} {y : Int} (lo hi : Nat) (I : Nat → A → B → World → Prop) (hy : y = (lo : Int)) (hle : lo ≤ hi) (h0 : I lo x z v)
    (step : ∀ (again : A → B → Int → World → Prop) (i : Nat) a b w, lo ≤ i → i < hi → I i a b w → (∀ a' b' w', I (i + 1) a' b' w' → again a' b' ((i : Int) + 1) w') → body again a b (i : Int) w)
    (done : ∀ (again : A → B → Int → World → Prop) a b w, I hi a b w → body again a b (hi : Int) w) : loop3 mk body x z y v := by
  subst hy
  refine loop3_of (fun a b x w => ∃ i : Nat, x = (i : Int) ∧ lo ≤ i ∧ i ≤ hi ∧ I i a b w) (fun _ _ x _ => hi - x.toNat) ⟨lo, rfl, Nat.le_refl _, hle, h0⟩ ?_
  rintro again a b x w ⟨i, rfl, h1, h2, h3⟩ hag
  rcases Nat.lt_or_ge i hi with h | h
  · exact step again i a b w h1 h h3 fun a' b' w' h4 => hag a' b' _ w' ⟨i + 1, by simp, by omega, by omega, h4⟩ (by omega)
  · have : i = hi := by omega
    subst this
    exact done again a b w h3
theorem join0_of {mk : Fr} {rest : World → Prop} {first : (World → Prop) → Prop} (h : ∀ go : World → Prop, (∀ w, rest w → go w) → first go) : join0 mk rest first :=
  fun K hK => h _ fun w hw => hK w hw
theorem join1_of {A1 : Type} {mk : A1 → Fr} {rest : A1 → World → Prop} {first : (A1 → World → Prop) → Prop} (h : ∀ go : A1 → World → Prop, (∀ x w, rest x w → go x w) → first go) : join1 mk rest first :=
  fun K hK => h _ fun x w hw => hK x w hw
theorem join2_of {A1 A2 : Type} {mk : A1 → A2 → Fr} {rest : A1 → A2 → World → Prop} {first : (A1 → A2 → World → Prop) → Prop} (h : ∀ go : A1 → A2 → World → Prop, (∀ x y w, rest x y w → go x y w) → first go) : join2 mk rest first :=
  fun K hK => h _ fun x y w hw => hK x y w hw
/-- folds over 0 .. n-1 -/
def up {A : Type} (f : A → Nat → A) (s : A) (n : Nat) : A := (List.range n).foldl f s
theorem up_zero {A : Type} (f : A → Nat → A) (s : A) : up f s 0 = s := rfl
theorem up_succ {A : Type} (f : A → Nat → A) (s : A) (n : Nat) : up f s (n + 1) = f (up f s n) n := by simp [up, List.range_succ]
theorem asI_i {k : IntKind} {n : Int} {K : Int → Prop} (h : K n) : asI k (.int k n) K := ⟨n, rfl, h⟩
theorem asB_b {b : Bool} {K : Bool → Prop} (h : K b) : asB (.bool b) K := ⟨b, rfl, h⟩
theorem asP_p {p : Option Addr} {K : Option Addr → Prop} (h : K p) : asP (.pointer p) K := ⟨p, rfl, h⟩
theorem asSl_s {s : SlV} {K : SlV → Prop} (h : K s) : asSl (.slice s.a s.n s.c) K := ⟨s, rfl, h⟩
end Go.Ev
end
section
set_option linter.unusedVariables false
set_option linter.unusedSimpArgs false
/- WORDS OF BITS behind the numbers: words of this claim's author. -/
namespace Go.Ev
open Go Go.RowKit

abbrev B8 := BitVec 8
abbrev B64 := BitVec 64
def u8 (b : B8) : Value := .int .u8 (b.toNat : Int)
def u64 (x : B64) : Value := .int .u64 (x.toNat : Int)
def u8s (l : List B8) : List Value := l.map u8
def u64s (l : List B64) : List Value := l.map u64
theorem ones_u8s (l : List B8) : ∀ v ∈ u8s l, isOne v = true := by
  intro v hv
  obtain ⟨b, -, rfl⟩ := List.mem_map.1 hv
  rfl
theorem ones_u64s (l : List B64) : ∀ v ∈ u64s l, isOne v = true := by
  intro v hv
  obtain ⟨b, -, rfl⟩ := List.mem_map.1 hv
  rfl
@[simp] theorem length_u8s (l : List B8) : (u8s l).length = l.length := by simp [u8s]
@[simp] theorem length_u64s (l : List B64) : (u64s l).length = l.length := by simp [u64s]
theorem u64s_set (l : List B64) (i : Nat) (x : B64) : (u64s l).set i (u64 x) = u64s (l.set i x) := by simp [u64s, List.map_set]
theorem u64s_get (l : List B64) (i : Nat) (h : i < l.length) : (u64s l)[i]? = some (.int .u64 ((l.getD i 0).toNat : Int)) := by
  simp [u64s, u64, h]
theorem u8s_get (l : List B8) (i : Nat) (h : i < l.length) : (u8s l)[i]? = some (.int .u8 ((l.getD i 0).toNat : Int)) := by
  simp [u8s, u8, h]
theorem u8s_append (a b : List B8) : u8s (a ++ b) = u8s a ++ u8s b := by simp [u8s]
theorem wrap_u64 (n : Int) : IntKind.wrap .u64 n = n % 18446744073709551616 := by simp [IntKind.wrap, IntKind.signed, IntKind.bits]
theorem wrap_u8 (n : Int) : IntKind.wrap .u8 n = n % 256 := by simp [IntKind.wrap, IntKind.signed, IntKind.bits]
theorem wrap_u64_of (x : B64) : IntKind.wrap .u64 (x.toNat : Int) = x.toNat := by
  rw [wrap_u64]; have := x.isLt; omega
theorem ofInt_toNat {n : Nat} (x : BitVec n) : BitVec.ofInt n (x.toNat : Int) = x := by simp
theorem xor64 (x y : B64) : xorI .u64 (x.toNat : Int) (y.toNat : Int) = ((x ^^^ y).toNat : Int) := by
  unfold xorI
  rw [show IntKind.bits .u64 = 64 from rfl, ofInt_toNat, ofInt_toNat, wrap_u64_of]
theorem and64 (x y : B64) : andI .u64 (x.toNat : Int) (y.toNat : Int) = ((x &&& y).toNat : Int) := by
  unfold andI
  rw [show IntKind.bits .u64 = 64 from rfl, ofInt_toNat, ofInt_toNat, wrap_u64_of]
theorem or64 (x y : B64) : orI .u64 (x.toNat : Int) (y.toNat : Int) = ((x ||| y).toNat : Int) := by
  unfold orI
  rw [show IntKind.bits .u64 = 64 from rfl, ofInt_toNat, ofInt_toNat, wrap_u64_of]
theorem not64 (x : B64) : notI .u64 (x.toNat : Int) = ((~~~ x).toNat : Int) := by
  unfold notI
  rw [show (if IntKind.signed .u64 = true then (-1 : Int) else IntKind.max .u64) = (((BitVec.allOnes 64).toNat : Nat) : Int) from rfl, xor64, BitVec.allOnes_xor]
theorem shl64 (x : B64) (k : Nat) : shl .u64 (x.toNat : Int) (k : Int) = ((x <<< k).toNat : Int) := by
  unfold shl
  rw [wrap_u64, show IntKind.bits .u64 = 64 from rfl, Int.toNat_natCast, BitVec.toNat_shiftLeft, Nat.shiftLeft_eq]
  have e : (((x.toNat * 2 ^ k % 2 ^ 64 : Nat)) : Int) = ((x.toNat * 2 ^ (min k 64) % 2 ^ 64 : Nat) : Int) := by
    rcases Nat.le_total k 64 with h | h
    · rw [Nat.min_eq_left h]
    · rw [Nat.min_eq_right h]
      obtain ⟨j, rfl⟩ := Nat.exists_eq_add_of_le h
      rw [Nat.pow_add, Nat.mul_left_comm, Nat.mul_mod_right, Nat.mul_mod_left]
  rw [e, Int.natCast_emod, Int.natCast_mul, Int.natCast_pow]
  have h64 : ((2 ^ 64 : Nat) : Int) = 18446744073709551616 := by decide
  rw [h64]
  rfl
theorem shr64 (x : B64) (k : Nat) : shr .u64 (x.toNat : Int) (k : Int) = ((x >>> k).toNat : Int) := by
  unfold shr
  rw [show IntKind.bits .u64 = 64 from rfl, Int.toNat_natCast, BitVec.toNat_ushiftRight, Nat.shiftRight_eq_div_pow, Int.fdiv_eq_ediv_of_nonneg _ (by exact Int.le_of_lt (Int.pow_pos (by decide)))]
  have e : x.toNat / 2 ^ k = x.toNat / 2 ^ (min k 64) := by
    rcases Nat.le_total k 64 with h | h
    · rw [Nat.min_eq_left h]
    · rw [Nat.min_eq_right h, Nat.div_eq_of_lt x.isLt, Nat.div_eq_of_lt (Nat.lt_of_lt_of_le x.isLt (Nat.pow_le_pow_right (by decide) h))]
  rw [e, Int.natCast_ediv, Int.natCast_pow]
  rfl
/-- a byte as a word -/
theorem up64 (b : B8) : IntKind.wrap .u64 (b.toNat : Int) = ((b.setWidth 64).toNat : Int) := by
  rw [wrap_u64]; have := b.isLt; rw [BitVec.toNat_setWidth]; omega
/-- a word's low byte -/
theorem low8 (x : B64) : IntKind.wrap .u8 (x.toNat : Int) = ((x.setWidth 8).toNat : Int) := by
  rw [wrap_u8]; simp
theorem toNat_eq {n : Nat} {x y : BitVec n} : ((x.toNat : Int) = (y.toNat : Int)) ↔ x = y := by
  constructor
  · intro h; exact BitVec.eq_of_toNat_eq (by omega)
  · intro h; rw [h]
def rotl (x : B64) (k : Nat) : B64 := (x <<< (k % 64)) ||| (x >>> (64 - k % 64))
/-- bytes in a slice -/
def Bytes (w : World) (s : SlV) (l : List B8) : Prop := Sl w s 1 (u8s l)
theorem Bytes.len {w : World} {s : SlV} {l : List B8} (h : Bytes w s l) : l.length = s.n := by simpa using Sl.len h
theorem Bytes.ld {w : World} {s : SlV} {l : List B8} (h : Bytes w s l) {i : Nat} (hi : i < l.length) {K : Int → Prop} (hk : K ((l.getD i 0).toNat : Int)) :
    idxS s.a (i : Int) s.n (ldI .u8 (Addr.add (base s.a) (Int.toNat (i : Int) * 1)) w K) := by
  have hl := h.len
  refine ⟨⟨h.pre (by omega), by omega, by omega⟩, _, ?_, hk⟩
  rw [Int.toNat_natCast, Nat.mul_one]
  exact h.cell i _ (u8s_get l i hi)
section
variable {w0 w : World} {S : List Nat} {L : List Res}
theorem Mine.ld64 (H : Mine w0 S w L) (k : Nat) {b i : Nat} {a : Addr} {cs : List B64} {t : TypeId} {K : Int → Prop} (hk : L[k]? = some (.blk b (u64s cs) t)) (ha : a = ⟨b, i, none⟩) (hi : i < cs.length) (h : K ((cs.getD i 0).toNat : Int)) : Ev.ldI .u64 a w K :=
  H.ldI k hk ha (u64s_get cs i hi) h
theorem Mine.st64 (H : Mine w0 S w L) (k : Nat) {b i : Nat} {a : Addr} {n : Int} {cs : List B64} {t : TypeId} {K : World → Prop} (x : B64) (hk : L[k]? = some (.blk b (u64s cs) t)) (ha : a = ⟨b, i, none⟩) (hi : i < cs.length) (hn : n = (x.toNat : Int))
    (h : ∀ w', Mine w0 S w' (L.set k (.blk b (u64s (cs.set i x)) t)) → K w') : Ev.st a (.int .u64 n) w K := by
  subst hn
  refine H.st k hk ha (by simpa using hi) rfl fun w' H' => h w' ?_
  rw [← u64s_set]; exact H'
theorem Mine.ldA64 (H : Mine w0 S w L) (k : Nat) {b n : Nat} {cs : List B64} {t : TypeId} {K : List Value → Prop} (hk : L[k]? = some (.blk b (u64s cs) t)) (hn : cs.length = n) (h : K (u64s cs)) : Ev.ldA n ⟨b, 0, none⟩ w K :=
  H.ldA k hk (by simp [hn]) h
theorem Mine.stA64 (H : Mine w0 S w L) (k : Nat) {b n : Nat} {l cs : List B64} {t : TypeId} {K : World → Prop} (hk : L[k]? = some (.blk b (u64s cs) t)) (hl : l.length = n) (hn : cs.length = n)
    (h : ∀ w', Mine w0 S w' (L.set k (.blk b (u64s l) t)) → K w') : Ev.stA n ⟨b, 0, none⟩ (u64s l) w K :=
  H.stA k hk (by simp [hl]) (by simp [hn]) (ones_u64s l) h
end
theorem asArr_u64s {l : List B64} {K : List Value → Prop} (h : K (u64s l)) : asArr (.agg ⟨u64s l⟩) K := ⟨_, rfl, h⟩
end Go.Ev
end
section
set_option linter.unusedVariables false
set_option linter.unusedSimpArgs false
/- THE PERMUTATION OF 25 WORDS, as the program and as the document make it: what each function computes. -/
namespace Go.Proofs.YtdnhoebcomffoaaGreatDoor
open Go Go.Ev
abbrev g (a : List B64) (i : Nat) : B64 := a.getD i 0
def z25 : List B64 := List.replicate 25 0
def z24 : List B64 := List.replicate 24 0
def z5 : List B64 := List.replicate 5 0
theorem zc25 : zc Pr t_25_uint64 = u64s z25 := by kernel_rfl
theorem zc24 : zc Pr t_24_uint64 = u64s z24 := by kernel_rfl
theorem zc5 : zc Pr t_5_uint64 = u64s z5 := by kernel_rfl

/-! ### the small ones -/
theorem RotateLeft64_ok (x : B64) (k : Nat) (w : World) : Ok Pr f_math_bits_RotateLeft64 [.int .u64 (x.toNat : Int), .int .i64 (k : Int)] w fun v w' => v = .int .u64 ((rotl x k).toNat : Int) ∧ w' = w := by
  refine V_math_bits_RotateLeft64_of ?_
  unfold V_math_bits_RotateLeft64
  have e1 : andI .u64 (IntKind.wrap .u64 (k : Int)) (63 : Int) = ((k % 64 : Nat) : Int) := by
    rw [wrap_u64, show ((k : Int) % 18446744073709551616) = ((BitVec.ofNat 64 k).toNat : Int) by rw [BitVec.toNat_ofNat]; omega, show (63 : Int) = ((63#64).toNat : Int) from rfl, and64, BitVec.toNat_and,
      show (63#64).toNat = 2 ^ 6 - 1 from rfl, Nat.and_two_pow_sub_one_eq_mod, BitVec.toNat_ofNat]
    omega
  have e2 : IntKind.wrap .u64 ((64 : Int) - ((k % 64 : Nat) : Int)) = ((64 - k % 64 : Nat) : Int) := by
    rw [wrap_u64]; omega
  rw [e1, Go.Ev.lt, e2]
  refine ⟨?_, rfl⟩
  rw [shl64, shr64, or64]
  rfl
theorem keccak_at_ok (x y : Nat) (hx : x < 1000) (hy : y < 1000) (w : World) : Ok Pr f_keccak_at [.int .i64 (x : Int), .int .i64 (y : Int)] w fun v w' => v = .int .i64 ((x % 5 + 5 * (y % 5) : Nat) : Int) ∧ w' = w := by
  refine V_keccak_at_of ?_
  unfold V_keccak_at I64
  refine ⟨by omega, by omega, ⟨by omega, by omega⟩, ⟨by omega, by omega⟩, ?_, rfl⟩
  rfl
/-! ### the program's five -/
def colStep (a c : List B64) (i : Nat) : List B64 := c.set (i % 5) (g c (i % 5) ^^^ g a i)
def cols (a : List B64) (n : Nat) : List B64 := up (colStep a) z5 n
def thetaStep (c b : List B64) (i : Nat) : List B64 := b.set i (g b i ^^^ (g c ((i % 5 + 4) % 5) ^^^ rotl (g c ((i % 5 + 1) % 5)) 1))
def theta (a : List B64) (n : Nat) : List B64 := up (thetaStep (cols a 25)) a n
theorem length_up {A : Type} (f : List A → Nat → List A) (hf : ∀ l i, (f l i).length = l.length) (s : List A) (n : Nat) : (up f s n).length = s.length := by
  induction n with
  | zero => rfl
  | succ n ih => rw [up_succ, hf, ih]
theorem length_cols (a : List B64) (n : Nat) : (cols a n).length = 5 := length_up _ (fun _ _ => List.length_set) _ _
theorem length_theta (a : List B64) (n : Nat) : (theta a n).length = a.length := length_up _ (fun _ _ => List.length_set) _ _
theorem cols_succ (a : List B64) (n : Nat) : cols a (n + 1) = colStep a (cols a n) n := up_succ _ _ _
theorem theta_succ (a : List B64) (n : Nat) : theta a (n + 1) = thetaStep (cols a 25) (theta a n) n := up_succ _ _ _
theorem keccak_Theta_ok (a : List B64) (ha : a.length = 25) (w : World) : Ok Pr f_keccak_Theta [.agg ⟨u64s a⟩] w fun v w' => v = .agg ⟨u64s (theta a 25)⟩ ∧ Mod [] w w' := by
  refine V_keccak_Theta_of ?_
  unfold V_keccak_Theta
  rw [zc25, zc5]
  refine (Mine.start w).nw fun b0 w1 H _ => H.nw fun b1 w2 H _ => H.nw fun b2 w3 H _ => H.ldA64 0 rfl ha ?_
  refine loop1_up 0 25 (fun i w' => Mine w [] w' [.blk b0 (u64s a) t_25_uint64, .blk b1 (u64s z25) t_25_uint64, .blk b2 (u64s (cols a i)) t_5_uint64]) rfl (by omega) H ?_ ?_
  · intro again i w4 _ hi H hag
    refine ite_true (by simp; omega) ⟨⟨by omega, by omega⟩, _, u64s_get a i (by omega), by omega, ⟨by omega, by omega⟩, ?_⟩
    refine H.ld64 2 (i := i % 5) rfl (ad b2 (i % 5)) (by rw [length_cols]; omega) ⟨⟨by omega, by omega⟩, ?_⟩
    refine H.st64 2 (i := i % 5) (g (cols a i) (i % 5) ^^^ g a i) rfl (ad b2 (i % 5)) (by rw [length_cols]; omega) (xor64 _ _) fun w5 H => ⟨⟨by omega, by omega⟩, ?_⟩
    exact hag w5 (by rw [cols_succ]; exact H)
  · intro again w4 H
    refine ite_false (by simp) ?_
    refine loop1_up 0 25 (fun i w' => Mine w [] w' [.blk b0 (u64s (theta a i)) t_25_uint64, .blk b1 (u64s z25) t_25_uint64, .blk b2 (u64s (cols a 25)) t_5_uint64]) rfl (by omega) H ?_ ?_
    · intro again i w5 _ hi H hag
      have h5 : ∀ j, j % 5 < (cols a 25).length := fun j => by rw [length_cols]; omega
      have ht : i < (theta a i).length := by rw [length_theta]; omega
      refine ite_true (by simp; omega) ⟨by omega, ⟨by omega, by omega⟩, ?_⟩
      refine H.drew.ld64 0 (i := i) rfl (ad b0 i) ht ⟨⟨by omega, by omega⟩, by omega, ⟨by omega, by omega⟩, ?_⟩
      refine H.drew.ld64 2 (i := (i % 5 + 4) % 5) rfl (ad b2 _) (h5 _) ⟨⟨by omega, by omega⟩, by omega, ⟨by omega, by omega⟩, ?_⟩
      refine H.drew.ld64 2 (i := (i % 5 + 1) % 5) rfl (ad b2 _) (h5 _) ?_
      refine call_of (RotateLeft64_ok _ 1 _) ?_
      rintro _ _ ⟨rfl, rfl⟩
      refine asI_i ⟨H.drew.kept (Mod.refl _ _) 2 rfl (ad b2 ((i % 5 + 4) % 5)) 1, H.drew.kept (Mod.refl _ _) 0 rfl (ad b0 i) 1, ⟨by omega, by omega⟩, ?_⟩
      refine H.drew.st64 0 (i := i) (g (theta a i) i ^^^ (g (cols a 25) ((i % 5 + 4) % 5) ^^^ rotl (g (cols a 25) ((i % 5 + 1) % 5)) 1)) rfl (ad b0 i) ht (by rw [xor64, xor64]) fun w6 H => ⟨⟨by omega, by omega⟩, ?_⟩
      exact hag w6 (by rw [theta_succ]; exact H)
    · intro again w5 H
      refine ite_false (by simp) ?_
      refine H.ldA64 0 rfl (by rw [length_theta, ha]) (H.stA64 1 rfl (by rw [length_theta, ha]) rfl fun w6 H => H.ldA64 1 rfl (by rw [length_theta, ha]) ⟨rfl, H.mod⟩)

def pl (x y : Nat) : Nat := x % 5 + 5 * (y % 5)
theorem pl_lt (x y : Nat) : pl x y < 25 := by unfold pl; omega
/-- 24 lanes are turned on the way -/
def rhoStep (s : List B64 × Nat × Nat) (t : Nat) : List B64 × Nat × Nat := (s.1.set (pl s.2.1 s.2.2) (rotl (g s.1 (pl s.2.1 s.2.2)) ((t + 1) * (t + 2) / 2 % 64)), s.2.2, (2 * s.2.1 + 3 * s.2.2) % 5)
def rhos (a : List B64) (n : Nat) : List B64 × Nat × Nat := up rhoStep (a, 1, 0) n
theorem rhos_succ (a : List B64) (n : Nat) : rhos a (n + 1) = rhoStep (rhos a n) n := up_succ _ _ _
theorem rhos_lt (a : List B64) (n : Nat) : (rhos a n).1.length = a.length ∧ (rhos a n).2.1 < 5 ∧ (rhos a n).2.2 < 5 := by
  induction n with
  | zero => exact ⟨rfl, (by show 1 < 5; omega), (by show 0 < 5; omega)⟩
  | succ n ih =>
    rw [rhos_succ]
    obtain ⟨h1, h2, h3⟩ := ih
    exact ⟨by simp only [rhoStep, List.length_set, h1], h3, by simp only [rhoStep]; omega⟩
def rho (a : List B64) : List B64 := (rhos a 24).1
theorem length_rho (a : List B64) : (rho a).length = a.length := (rhos_lt a 24).1
theorem keccak_Rho_ok (a : List B64) (ha : a.length = 25) (w : World) : Ok Pr f_keccak_Rho [.agg ⟨u64s a⟩] w fun v w' => v = .agg ⟨u64s (rho a)⟩ ∧ Mod [] w w' := by
  refine V_keccak_Rho_of ?_
  unfold V_keccak_Rho
  rw [zc25]
  refine (Mine.start w).nw fun b0 w1 H _ => H.nw fun b1 w2 H _ => ?_
  refine loop3_up 1 25 (fun t x y w' => x = ((rhos a (t - 1)).2.1 : Int) ∧ y = ((rhos a (t - 1)).2.2 : Int) ∧ Mine w [] w' [.blk b0 (u64s (rhos a (t - 1)).1) t_25_uint64, .blk b1 (u64s z25) t_25_uint64]) rfl (by omega) ⟨rfl, rfl, H⟩ ?_ ?_
  · rintro again t _ _ w3 h1 hi ⟨rfl, rfl, H⟩ hag
    obtain ⟨t, rfl⟩ : ∃ k, t = k + 1 := ⟨t - 1, by omega⟩
    rw [Nat.add_sub_cancel] at H ⊢
    obtain ⟨h2, h3, h4⟩ := rhos_lt a t
    rcases hs : rhos a t with ⟨b, x, y⟩
    rw [hs] at H h2 h3 h4
    dsimp only at H h2 h3 h4 ⊢
    have hp := pl_lt x y
    refine ite_true (by simp; omega) ?_
    refine call_of (keccak_at_ok x y (by omega) (by omega) _) ?_
    rintro _ _ ⟨rfl, rfl⟩
    refine asI_i ⟨⟨by omega, by unfold pl at hp; omega⟩, ?_⟩
    refine H.ld64 0 (i := pl x y) rfl (ad b0 (pl x y)) (by omega) ?_
    have hm : ((t : Int) + 1) * ((t : Int) + 1 + 1) = (((t + 1) * (t + 2) : Nat) : Int) := by push_cast; rfl
    have hm2 : (t + 1) * (t + 2) ≤ 25 * 26 := Nat.mul_le_mul (by omega) (by omega)
    have e2 : (((t + 1 : Nat) : Int)) * (((t + 1 : Nat) : Int) + 1) = (((t + 1) * (t + 2) : Nat) : Int) := by push_cast; rfl
    rw [e2]
    refine ⟨⟨by omega, by omega⟩, ⟨by omega, by omega⟩, ⟨by omega, by simp only [IntKind.max, IntKind.signed, IntKind.bits]; omega⟩, by omega, ?_⟩
    refine call_of (RotateLeft64_ok _ ((t + 1) * (t + 2) / 2 % 64) _) ?_
    rintro _ _ ⟨rfl, rfl⟩
    refine asI_i ⟨⟨by omega, by unfold pl at hp; omega⟩, ?_⟩
    refine H.st64 0 (i := pl x y) (rotl (g b (pl x y)) ((t + 1) * (t + 2) / 2 % 64)) rfl (ad b0 (pl x y)) (by omega) rfl fun w6 H => ?_
    refine ⟨⟨by omega, by omega⟩, ⟨by omega, by omega⟩, ⟨by omega, by omega⟩, by omega, ⟨by omega, by omega⟩, ?_⟩
    exact hag _ _ w6 (by rw [Nat.add_sub_cancel, rhos_succ, hs]; exact ⟨rfl, by simp only [rhoStep]; push_cast; rfl, H⟩)
  · rintro again _ _ w3 ⟨rfl, rfl, H⟩
    have hl := length_rho a
    refine ite_false (by simp) ?_
    exact H.ldA64 0 rfl (hl.trans ha) (H.stA64 1 rfl (hl.trans ha) rfl fun w6 H => H.ldA64 1 rfl (hl.trans ha) ⟨rfl, H.mod⟩)

/-- lanes move -/
def piStep (a b : List B64) (x y : Nat) : List B64 := b.set (pl x y) (g a (pl (x + 3 * y) x))
def piRow (a : List B64) (y : Nat) (b : List B64) (n : Nat) : List B64 := up (fun b x => piStep a b x y) b n
def pi (a : List B64) (n : Nat) : List B64 := up (fun b y => piRow a y b 5) z25 n
theorem length_piRow (a : List B64) (y : Nat) (b : List B64) (n : Nat) : (piRow a y b n).length = b.length := length_up _ (fun _ _ => List.length_set) _ _
theorem length_pi (a : List B64) (n : Nat) : (pi a n).length = 25 := length_up _ (fun _ _ => length_piRow _ _ _ _) _ _
theorem keccak_Pi_ok (a : List B64) (ha : a.length = 25) (w : World) : Ok Pr f_keccak_Pi [.agg ⟨u64s a⟩] w fun v w' => v = .agg ⟨u64s (pi a 5)⟩ ∧ Mod [] w w' := by
  refine V_keccak_Pi_of ?_
  unfold V_keccak_Pi
  rw [zc25]
  refine (Mine.start w).nw fun b0 w1 H _ => H.nw fun b1 w2 H _ => H.nw fun b2 w3 H _ => ?_
  refine loop1_up 0 5 (fun y w' => Mine w [] w' [.blk b0 (u64s a) t_25_uint64, .blk b1 (u64s z25) t_25_uint64, .blk b2 (u64s (pi a y)) t_25_uint64]) rfl (by omega) H ?_ ?_
  · intro again y w4 _ hy H hag
    refine ite_true (by simp; omega) ?_
    refine loop1_up 0 5 (fun x w' => Mine w [] w' [.blk b0 (u64s a) t_25_uint64, .blk b1 (u64s z25) t_25_uint64, .blk b2 (u64s (piRow a y (pi a y) x)) t_25_uint64]) rfl (by omega) H ?_ ?_
    · intro again x w5 _ hx H hag
      have hp := pl_lt x y
      have hq := pl_lt (x + 3 * y) x
      refine ite_true (by simp; omega) ?_
      refine call_of (keccak_at_ok x y (by omega) (by omega) _) ?_
      rintro _ _ ⟨rfl, rfl⟩
      refine asI_i ⟨⟨by omega, by omega⟩, ⟨by omega, by omega⟩, ?_⟩
      refine call_of (keccak_at_ok (x + 3 * y) x (by omega) (by omega) _) ?_
      rintro _ _ ⟨rfl, rfl⟩
      refine asI_i ⟨⟨by omega, by unfold pl at hq; omega⟩, ?_⟩
      refine H.ld64 0 (i := pl (x + 3 * y) x) rfl (ad b0 _) (by omega) ⟨⟨by omega, by unfold pl at hp; omega⟩, ?_⟩
      refine H.st64 2 (i := pl x y) (g a (pl (x + 3 * y) x)) rfl (ad b2 _) (by rw [length_piRow, length_pi]; omega) rfl fun w6 H => ⟨⟨by omega, by omega⟩, ?_⟩
      exact hag w6 (by rw [show piRow a y (pi a y) (x + 1) = piStep a (piRow a y (pi a y) x) x y from up_succ _ _ _]; exact H)
    · intro again w5 H
      refine ite_false (by simp) ⟨⟨by omega, by omega⟩, ?_⟩
      exact hag w5 (by rw [show pi a (y + 1) = piRow a y (pi a y) 5 from up_succ _ _ _]; exact H)
  · intro again w4 H
    refine ite_false (by simp) ?_
    exact H.ldA64 2 rfl (length_pi _ _) (H.stA64 1 rfl (length_pi _ _) rfl fun w6 H => H.ldA64 1 rfl (length_pi _ _) ⟨rfl, H.mod⟩)

/-- rows are mixed -/
def chiStep (a b : List B64) (x y : Nat) : List B64 := b.set (pl x y) (g b (pl x y) ^^^ (~~~ g a (pl (x + 1) y) &&& g a (pl (x + 2) y)))
def chiRow (a : List B64) (y : Nat) (b : List B64) (n : Nat) : List B64 := up (fun b x => chiStep a b x y) b n
def chi (a : List B64) (n : Nat) : List B64 := up (fun b y => chiRow a y b 5) a n
theorem length_chiRow (a : List B64) (y : Nat) (b : List B64) (n : Nat) : (chiRow a y b n).length = b.length := length_up _ (fun _ _ => List.length_set) _ _
theorem length_chi (a : List B64) (n : Nat) : (chi a n).length = a.length := length_up _ (fun _ _ => length_chiRow _ _ _ _) _ _
theorem keccak_Chi_ok (a : List B64) (ha : a.length = 25) (w : World) : Ok Pr f_keccak_Chi [.agg ⟨u64s a⟩] w fun v w' => v = .agg ⟨u64s (chi a 5)⟩ ∧ Mod [] w w' := by
  refine V_keccak_Chi_of ?_
  unfold V_keccak_Chi
  rw [zc25]
  have hc : ∀ n, (chi a n).length = 25 := fun n => (length_chi a n).trans ha
  refine (Mine.start w).nw fun b0 w1 H _ => H.nw fun b1 w2 H _ => H.ldA64 0 rfl ha (H.nw fun b2 w3 H _ => H.stA64 2 rfl ha rfl fun w4 H => ?_)
  refine loop1_up 0 5 (fun y w' => Mine w [] w' [.blk b0 (u64s a) t_25_uint64, .blk b1 (u64s z25) t_25_uint64, .blk b2 (u64s (chi a y)) t_25_uint64]) rfl (by omega) H ?_ ?_
  · intro again y w4 _ hy H hag
    refine ite_true (by simp; omega) ?_
    refine loop1_up 0 5 (fun x w' => Mine w [] w' [.blk b0 (u64s a) t_25_uint64, .blk b1 (u64s z25) t_25_uint64, .blk b2 (u64s (chiRow a y (chi a y) x)) t_25_uint64]) rfl (by omega) H ?_ ?_
    · intro again x w5 _ hx H hag
      have hp := pl_lt x y
      have hq := pl_lt (x + 1) y
      have hr := pl_lt (x + 2) y
      have hl : (chiRow a y (chi a y) x).length = 25 := by rw [length_chiRow, hc]
      refine ite_true (by simp; omega) ⟨⟨by omega, by omega⟩, ⟨by omega, by omega⟩, ?_⟩
      refine call_of (keccak_at_ok x y (by omega) (by omega) _) ?_
      rintro _ _ ⟨rfl, rfl⟩
      have H := H.drew
      refine asI_i ⟨⟨by omega, by unfold pl at hp; omega⟩, H.ld64 2 (i := pl x y) rfl (ad b2 _) (by omega) ?_⟩
      refine call_of (keccak_at_ok (x + 1) y (by omega) (by omega) _) ?_
      rintro _ _ ⟨rfl, rfl⟩
      refine asI_i ⟨H.kept (Mod.refl _ _) 2 rfl (ad b2 (pl x y)) 1, ⟨by omega, by unfold pl at hq; omega⟩, H.ld64 0 (i := pl (x + 1) y) rfl (ad b0 _) (by omega) ?_⟩
      refine call_of (keccak_at_ok (x + 2) y (by omega) (by omega) _) ?_
      rintro _ _ ⟨rfl, rfl⟩
      refine asI_i ⟨H.kept (Mod.refl _ _) 0 rfl (ad b0 (pl (x + 1) y)) 1, H.kept (Mod.refl _ _) 2 rfl (ad b2 (pl x y)) 1, ⟨by omega, by unfold pl at hr; omega⟩, H.ld64 0 (i := pl (x + 2) y) rfl (ad b0 _) (by omega) ⟨⟨by omega, by unfold pl at hp; omega⟩, ?_⟩⟩
      refine H.st64 2 (i := pl x y) (g (chiRow a y (chi a y) x) (pl x y) ^^^ (~~~ g a (pl (x + 1) y) &&& g a (pl (x + 2) y))) rfl (ad b2 _) (by omega) (by rw [not64, and64, xor64]) fun w6 H => ⟨⟨by omega, by omega⟩, ?_⟩
      exact hag w6 (by rw [show chiRow a y (chi a y) (x + 1) = chiStep a (chiRow a y (chi a y) x) x y from up_succ _ _ _]; exact H)
    · intro again w5 H
      refine ite_false (by simp) ⟨⟨by omega, by omega⟩, ?_⟩
      exact hag w5 (by rw [show chi a (y + 1) = chiRow a y (chi a y) 5 from up_succ _ _ _]; exact H)
  · intro again w4 H
    refine ite_false (by simp) ?_
    exact H.ldA64 2 rfl (hc _) (H.stA64 1 rfl (hc _) rfl fun w6 H => H.ldA64 1 rfl (hc _) ⟨rfl, H.mod⟩)
end Go.Proofs.YtdnhoebcomffoaaGreatDoor
end
section
set_option linter.unusedVariables false
set_option linter.unusedSimpArgs false
/- THE PERMUTATION, as a whole, and the document's parts. -/
namespace Go.Proofs.YtdnhoebcomffoaaGreatDoor
open Go Go.Ev
def words : List B64 := [0x0000000000000001, 0x0000000000008082, 0x800000000000808A, 0x8000000080008000, 0x000000000000808B, 0x0000000080000001,
  0x8000000080008081, 0x8000000000008009, 0x000000000000008A, 0x0000000000000088, 0x0000000080008009, 0x000000008000000A,
  0x000000008000808B, 0x800000000000008B, 0x8000000000008089, 0x8000000000008003, 0x8000000000008002, 0x8000000000000080,
  0x000000000000800A, 0x800000008000000A, 0x8000000080008081, 0x8000000000008080, 0x0000000080000001, 0x8000000080008008]
def iota (a : List B64) (r : Nat) : List B64 := a.set 0 (g a 0 ^^^ g words r)
def round (a : List B64) (r : Nat) : List B64 := iota (chi (pi (rho (theta a 25)) 5) 5) r
def perms (a : List B64) (n : Nat) : List B64 := up round a n
@[irreducible] def perm (a : List B64) : List B64 := perms a 24
theorem perm_eq (a : List B64) : perms a 24 = perm a := by unfold perm; rfl
theorem length_round (a : List B64) (r : Nat) (_h : a.length = 25) : (round a r).length = 25 := by
  unfold round iota
  rw [List.length_set, length_chi, length_pi]
theorem perms_succ (a : List B64) (n : Nat) : perms a (n + 1) = round (perms a n) n := up_succ _ _ _
theorem length_perms (a : List B64) (ha : a.length = 25) (n : Nat) : (perms a n).length = 25 := by
  induction n with
  | zero => exact ha
  | succ n ih => rw [perms_succ, length_round _ _ ih]
theorem length_perm (a : List B64) (ha : a.length = 25) : (perm a).length = 25 := perm_eq a ▸ length_perms a ha 24
theorem keccak_Iota_ok (a : List B64) (ha : a.length = 25) (r : Nat) (hr : r < 24) (w : World) : Ok Pr f_keccak_Iota [.agg ⟨u64s a⟩, .int .i64 (r : Int)] w fun v w' => v = .agg ⟨u64s (iota a r)⟩ ∧ Mod [] w w' := by
  refine V_keccak_Iota_of ?_
  unfold V_keccak_Iota
  rw [zc25, zc24]
  refine (Mine.start w).nw fun b0 w1 H _ => H.nw fun b1 w2 H _ => ite_false (by simp; omega) (H.nw fun b2 w3 H _ => ?_)
  refine H.stA64 2 (l := words) rfl rfl rfl fun w4 H => ?_
  refine ⟨⟨by omega, by omega⟩, H.drew.ld64 0 (i := 0) rfl (ad b0 _) (by omega) ⟨⟨by omega, by omega⟩, H.drew.ld64 2 (i := r) rfl (ad b2 _) (by show r < 24; omega) ⟨⟨by omega, by omega⟩, ?_⟩⟩⟩
  refine H.drew.st64 0 (i := 0) (g a 0 ^^^ g words r) rfl (ad b0 _) (by omega) (xor64 _ _) fun w5 H => ?_
  have hl : (iota a r).length = 25 := by simp [iota, ha]
  exact H.ldA64 0 rfl hl (H.stA64 1 rfl hl rfl fun w6 H => H.ldA64 1 rfl hl ⟨rfl, H.mod⟩)
theorem keccak_Round_ok (a : List B64) (ha : a.length = 25) (r : Nat) (hr : r < 24) (w : World) : Ok Pr f_keccak_Round [.agg ⟨u64s a⟩, .int .i64 (r : Int)] w fun v w' => v = .agg ⟨u64s (round a r)⟩ ∧ Mod [] w w' := by
  refine V_keccak_Round_of ?_
  unfold V_keccak_Round
  rw [zc25]
  have h1 : (theta a 25).length = 25 := (length_theta _ _).trans ha
  have h2 : (rho (theta a 25)).length = 25 := (length_rho _).trans h1
  have h3 : (pi (rho (theta a 25)) 5).length = 25 := length_pi _ _
  have h4 : (chi (pi (rho (theta a 25)) 5) 5).length = 25 := (length_chi _ _).trans h3
  have h5 := length_round a r ha
  refine (Mine.start w).nw fun b0 w1 H _ => H.nw fun b1 w2 H _ => H.ldA64 0 rfl ha ?_
  refine call_of (keccak_Theta_ok a ha _) ?_
  rintro _ w3 ⟨rfl, m⟩
  have H := H.frame m
  refine asArr_u64s (call_of (keccak_Rho_ok _ h1 _) ?_)
  rintro _ w4 ⟨rfl, m⟩
  have H := H.frame m
  refine asArr_u64s (call_of (keccak_Pi_ok _ h2 _) ?_)
  rintro _ w5 ⟨rfl, m⟩
  have H := H.frame m
  refine asArr_u64s (call_of (keccak_Chi_ok _ h3 _) ?_)
  rintro _ w6 ⟨rfl, m⟩
  have H := H.frame m
  refine asArr_u64s (call_of (keccak_Iota_ok _ h4 r hr _) ?_)
  rintro _ w7 ⟨rfl, m⟩
  have H := H.frame m
  exact asArr_u64s (H.stA64 1 (l := round a r) rfl h5 rfl fun w6 H => H.ldA64 1 rfl h5 ⟨rfl, H.mod⟩)
theorem keccak_Permute_ok (a : List B64) (ha : a.length = 25) (w : World) : Ok Pr f_keccak_Permute [.agg ⟨u64s a⟩] w fun v w' => v = .agg ⟨u64s (perm a)⟩ ∧ Mod [] w w' := by
  refine V_keccak_Permute_of ?_
  unfold V_keccak_Permute
  rw [zc25]
  have hl := length_perms a ha
  refine (Mine.start w).nw fun b0 w1 H _ => H.nw fun b1 w2 H _ => ?_
  refine loop1_up 0 24 (fun i w' => Mine w [] w' [.blk b0 (u64s (perms a i)) t_25_uint64, .blk b1 (u64s z25) t_25_uint64]) rfl (by omega) H ?_ ?_
  · intro again i w3 _ hi H hag
    refine ite_true (by simp; omega) (H.ldA64 0 rfl (hl i) (call_of (keccak_Round_ok _ (hl i) i hi _) ?_))
    rintro _ w4 ⟨rfl, m⟩
    have H := H.frame m
    refine asArr_u64s (H.stA64 0 rfl (length_round _ _ (hl i)) (hl i) fun w5 H => ⟨⟨by omega, by omega⟩, ?_⟩)
    exact hag w5 (by rw [perms_succ]; exact H)
  · intro again w3 H
    have hp := hl 24
    rw [perm_eq] at H hp
    refine ite_false (by simp) ?_
    refine H.ldA64 0 rfl hp ?_
    refine H.stA64 1 rfl hp rfl fun w6 H => ?_
    refine H.ldA64 1 rfl hp ?_
    refine ⟨rfl, H.mod⟩

/-! ### the document's -/
end Go.Proofs.YtdnhoebcomffoaaGreatDoor
end
section
set_option linter.unusedVariables false
set_option linter.unusedSimpArgs false
/- ROWS: made, lengthened, written, read: words of this claim's author. -/
namespace Go.Ev
open Go Go.RowKit

variable {P : Program}
theorem nc {a : Addr} {K : Addr → Prop} (h : K a) : nilchk (some a) K := h
theorem ifn_iface {t : TypeId} {v : Value} {K : Bool → Prop} (h : K false) : ifaceNil (.iface t v) K := h
theorem ifn_nil {K : Bool → Prop} (h : K true) : ifaceNil .nilIface K := h
theorem cnt_of {y : Int} {A : Prop} (h : 0 ≤ y) (hA : A) : cnt y A := by
  unfold cnt; split
  · exact hA
  · exact ⟨h, hA⟩
theorem pos_of {y : Int} {A : Prop} (h : 0 < y) (hA : A) : pos y A := by
  unfold pos; split
  · exact hA
  · exact ⟨h, hA⟩
/-- a part that is let go -/
def Res.no : Res where
  fp := []
  ok _ := True
  stab _ _ _ _ := trivial
  lt _ _ b hb := by cases hb
section
variable {w0 w : World} {S : List Nat} {L : List Res}
theorem Mine.let_go (H : Mine w0 S w L) (k : Nat) {r : Res} (hk : L[k]? = some r) : Mine w0 S w (L.set k .no) :=
  H.upd (T := []) k hk (Mod.refl _ _) (fun b hb => by cases hb) trivial fun b hb => by cases hb
/-- what is handed out was not there before -/
theorem Mine.fresh (H : Mine w0 S w L) (k : Nat) {e : TypeId} {sz : Nat} {s : SlV} {vs : List Value} (hk : L[k]? = some (.row e sz s vs)) (hS : ∀ b ∈ s.row, b ∉ S) : Own w w0.heap.size e sz s vs := by
  obtain ⟨hl, h1 | ⟨g, cap, cur, h1, h2, h3⟩⟩ := H.own' k hk
  · exact ⟨hl, .inl h1⟩
  · refine ⟨hl, .inr ⟨g, cap, cur, h1, ?_, h3⟩⟩
    have hg : g ∈ s.row := by
      obtain ⟨a, n, c⟩ := s
      simp only [SlV.v, Value.slice.injEq] at h1
      obtain ⟨rfl, -⟩ := h1
      simp [SlV.row]
    exact (H.own k _ hk g hg).resolve_left (hS g hg)
theorem Mine.fresh0 (H : Mine w0 [] w L) (k : Nat) {e : TypeId} {sz : Nat} {s : SlV} {vs : List Value} (hk : L[k]? = some (.row e sz s vs)) : Own w w0.heap.size e sz s vs := H.fresh k hk (fun b _ => by simp)
/-- what a call handed out -/
theorem Mine.got {w' : World} (H : Mine w0 S w L) (m : Mod [] w w') {e : TypeId} {sz : Nat} {s : SlV} {vs : List Value} (h : Own w' w.heap.size e sz s vs) : Mine w0 S w' (L ++ [.row e sz s vs]) :=
  H.push m h.lo fun b hb => (Own.row_ge h b hb).1
theorem Mine.gotblk {w' : World} (H : Mine w0 S w L) (m : Mod [] w w') {b : Nat} {cs : List Value} {t : TypeId} (h : Blk w' b cs t) (hb : w.heap.size ≤ b) : Mine w0 S w' (L ++ [.blk b cs t]) :=
  H.push m h (by simp [Res.blk, hb])
theorem Mine.rowSl (H : Mine w0 S w L) (k : Nat) {e : TypeId} {sz : Nat} {s : SlV} {vs : List Value} (hk : L[k]? = some (.row e sz s vs)) : Sl w s sz vs := (H.own' k hk).sl
theorem Blk.sl {b : Nat} {cs : List Value} {t : TypeId} (h : Blk w b cs t) (sz n c : Nat) (hn : n * sz ≤ cs.length) (hc : n ≤ c) : Sl w ⟨some ⟨b, 0, none⟩, n, c⟩ sz (cs.take (n * sz)) := by
  refine ⟨by simp only [List.length_take]; omega, hc, fun _ => rfl, fun i v hv => ?_⟩
  show w.cell? (Addr.add ⟨b, 0, none⟩ i) = some v
  rw [ad1, h.cell]
  rw [List.getElem?_take] at hv
  split at hv
  · exact hv
  · cases hv
theorem Blk.own {b : Nat} {cs : List Value} {t : TypeId} (h : Blk w b cs t) (sz n c : Nat) (hl : cs.length = c * sz) (hc : n ≤ c) (hm : c ≤ maxLen) : Own w 0 t sz ⟨some ⟨b, 0, none⟩, n, c⟩ (cs.take (n * sz)) := by
  have := Nat.mul_le_mul_right sz hc
  exact ⟨by simp only [List.length_take]; omega, .inr ⟨b, c, ⟨cs⟩, rfl, Nat.zero_le _, h, hc, hm, hl, rfl⟩⟩
/-- a block as a row -/
theorem Mine.asRow (H : Mine w0 S w L) (k : Nat) {b : Nat} {cs : List Value} {t : TypeId} (sz n c : Nat) (hk : L[k]? = some (.blk b cs t)) (hl : cs.length = c * sz) (hc : n ≤ c) (hm : c ≤ maxLen) :
    Mine w0 S w (L.set k (.row t sz ⟨some ⟨b, 0, none⟩, n, c⟩ (cs.take (n * sz)))) :=
  H.upd (T := []) k hk (Mod.refl _ _) (fun b hb => by cases hb) ((H.blk k hk).own sz n c hl hc hm) fun b hb => .inl hb
/-- an element is appended -/
theorem Mine.app1 (H : Mine w0 S w L) (k : Nat) {t ty e t1 : TypeId} {sz bytes : Nat} {s : SlV} {vs us : List Value} {K : SlV → World → Prop} (hel : Elt P t e sz bytes) (hk : L[k]? = some (.row e sz s vs)) (hl : us.length = sz)
    (h1 : ∀ u ∈ us, isOne u = true) (hb : (s.n + 1) * bytes ≤ 140737488355328) (hm : s.n + 1 ≤ 9223372036854775807)
    (h : ∀ s' w', Mine w0 S w' (L.set k (.row e sz s' (vs ++ us))) → s'.n = s.n + 1 → K s' w') : Ev.nw t1 us w fun p w5 => appK P [t, t] ty [.slice s.a s.n s.c, .slice (some p) 1 1] w5 K := by
  refine H.nw fun b w5 H5 _ => ?_
  have hkl : k < L.length := (List.getElem?_eq_some_iff.1 hk).1
  have hk5 : (L ++ [Res.blk b us t1])[k]? = some (.row e sz s vs) := by rw [List.getElem?_append_left hkl]; exact hk
  have hb5 := H5.blk (cs := us) (b := b) (t := t1) L.length (by simp)
  have hsl := hb5.sl sz 1 1 (by omega) (Nat.le_refl _)
  rw [Nat.one_mul, ← hl, List.take_length] at hsl
  subst hl
  refine H5.app (x := ⟨some ⟨b, 0, none⟩, 1, 1⟩) k hel hk5 hsl h1 hb hm fun s' w' H' hn => h s' w' ?_ hn
  have := H'.take L.length
  rw [List.set_append_left _ _ hkl, List.take_append_of_le_length (by simp), List.take_of_length_le (by simp)] at this
  exact this
theorem Mine.stRow (H : Mine w0 S w L) (k : Nat) {e : TypeId} {sz : Nat} {s : SlV} {vs : List Value} {i : Nat} {a : Addr} {v : Value} {K : World → Prop} (hk : L[k]? = some (.row e sz s vs)) (ha : a = Addr.add (base s.a) i) (hi : i < vs.length) (h1 : isOne v = true)
    (h : ∀ w', Mine w0 S w' (L.set k (.row e sz s (vs.set i v))) → K w') : Ev.st a v w K := by
  subst ha
  have ho := H.own' k hk
  obtain ⟨sa, sn, sc⟩ := s
  obtain ⟨hl, hv | ⟨g, cap, cur, hv, h2, hg, hnc, hcm, hcs, htake⟩⟩ := ho
  · rw [hv.2] at hl; omega
  · simp only [SlV.v, Value.slice.injEq] at hv
    obtain ⟨rfl, -, rfl⟩ := hv
    have hblk : Blk w g cur.toList e := hg
    have hic : i < cur.toList.length := by
      have : vs.length ≤ cur.toList.length := by rw [← htake, List.length_take]; exact Nat.min_le_right _ _
      omega
    show Ev.st (Addr.add ⟨g, 0, none⟩ i) v w K
    rw [ad1]
    refine st_blk hblk hic h1 fun w' h3 h4 _ => h w' (H.upd k hk h4 (fun b hb => .inl (by simpa [Res.row, SlV.row] using hb)) ?_ fun b hb => .inl hb)
    refine ⟨by simpa using hl, .inr ⟨g, sc, ⟨cur.toList.set i v⟩, rfl, h2, h3, hnc, hcm, by simpa using hcs, ?_⟩⟩
    show (cur.toList.set i v).take (sn * sz) = vs.set i v
    rw [← htake, List.take_set]
/-- the first cells of a block -/
theorem Mine.ldAp (H : Mine w0 S w L) (k : Nat) {b n : Nat} {a : Addr} {cs : List Value} {t : TypeId} {K : List Value → Prop} (hk : L[k]? = some (.blk b cs t)) (ha : a = ⟨b, 0, none⟩) (hn : n ≤ cs.length) (h : K (cs.take n)) : Ev.ldA n a w K := by
  subst ha; exact ldA_blk (H.blk k hk) hn h
theorem Mine.stAp (H : Mine w0 S w L) (k : Nat) {b n : Nat} {a : Addr} {l cs : List Value} {t : TypeId} {K : World → Prop} (hk : L[k]? = some (.blk b cs t)) (ha : a = ⟨b, 0, none⟩) (hl : l.length = n) (hn : n ≤ cs.length) (h1 : ∀ v ∈ l, isOne v = true)
    (h : ∀ w', Mine w0 S w' (L.set k (.blk b (l ++ cs.drop n) t)) → K w') : Ev.stA n a l w K := by
  subst ha
  exact stA_blk (H.blk k hk) hl hn h1 fun w' h2 h3 _ => h w' (H.upd k hk h3 (fun c hc => .inl hc) h2 (fun c hc => .inl hc))
/-- 'make' -/
theorem Mine.mkS (H : Mine w0 S w L) {t e : TypeId} {sz bytes : Nat} {l c : Nat} {x y : Int} {K : SlV → World → Prop} (hel : Elt P t e sz bytes) (hx : x = (l : Int)) (hy : y = (c : Int)) (hlc : l ≤ c) (hc : c ≤ 9223372036854775807) (hb : bytes * c ≤ 281474976710656)
    (h : ∀ b w', Mine w0 S w' (L ++ [.row e sz ⟨some ⟨b, 0, none⟩, l, c⟩ ((zeroRow c (zc P e)).take (l * sz))]) → w0.heap.size ≤ b → K ⟨some ⟨b, 0, none⟩, l, c⟩ w') : mkSl P e x y w K := by
  subst hx hy
  obtain ⟨i, z, hi, hz, hsz, hby, hzs⟩ := hel.info
  have hbytes : bytesOf P e = bytes := by unfold bytesOf; rw [hi]; exact hby
  have hzc : zc P e = z.cells.toList := by unfold zc; rw [hi]; simp only [hz]
  have hzl : (zc P e).length = sz := by rw [hzc]; simpa using hzs
  have hrow : (zeroRow c (zc P e)).length = c * sz := by
    unfold zeroRow
    rw [List.length_flatten, List.map_replicate, List.sum_replicate_nat, hzl]
  refine ⟨⟨by omega, by omega, by omega, ?_⟩, ?_⟩
  · rw [hbytes]
    have h1 : ((bytes : Int) * (c : Int)) = ((bytes * c : Nat) : Int) := by rw [Int.natCast_mul]
    have h2 : (2 ^ 48 : Int) = 281474976710656 := by decide
    rw [h1, h2]
    omega
  · simp only [Int.toNat_natCast]
    have hm : Mod [] w (w.alloc (.cells ⟨zeroRow c (zc P e)⟩ e)) := Mod.alloc _ _ _
    refine h w.heap.size _ (H.push hm ?_ (by simp [Res.row, SlV.row])) H.mod.size
    exact (Blk.new w (zeroRow c (zc P e)) e).own sz l c hrow hlc (by simp only [maxLen]; omega)
end

/-! ### what is read alone -/
theorem Bytes.mod {w w' : World} {s : SlV} {l : List B8} (h : Bytes w s l) {S : List Nat} (m : Mod S w w') (ho : off S s) : Bytes w' s l := Sl.mod h m ho
theorem Bytes.mod0 {w w' : World} {s : SlV} {l : List B8} (h : Bytes w s l) (m : Mod [] w w') : Bytes w' s l := Sl.mod0 h m
/-- lists of bytes in a slice -/
structure Parts (w : World) (S : List Nat) (s : SlV) (ls : List (List B8)) : Prop where
  ex : ∃ ss : List SlV, Sl w s 1 (ss.map SlV.v) ∧ off S s ∧ ss.length = ls.length ∧ ∀ (i : Nat) (x : SlV) (l : List B8), ss[i]? = some x → ls[i]? = some l → Bytes w x l ∧ off S x
theorem Parts.mod {w w' : World} {S : List Nat} {s : SlV} {ls : List (List B8)} (h : Parts w S s ls) (m : Mod S w w') : Parts w' S s ls := by
  obtain ⟨ss, h1, h2, h3, h4⟩ := h.ex
  exact ⟨ss, h1.mod m h2, h2, h3, fun i x l hx hl => ⟨(h4 i x l hx hl).1.mod m (h4 i x l hx hl).2, (h4 i x l hx hl).2⟩⟩
/-- new blocks lie apart -/
theorem Parts.new {w : World} {S T : List Nat} {s : SlV} {ls : List (List B8)} (h : Parts w S s ls) (hT : ∀ b ∈ T, b ∈ S ∨ w.heap.size ≤ b) : Parts w T s ls := by
  obtain ⟨ss, h1, h2, h3, h4⟩ := h.ex
  have key : ∀ {x : SlV} {vs : List Value}, Sl w x 1 vs → off S x → off T x := fun {x vs} k1 k2 h0 a ha hb => by
    rcases hT _ hb with h | h
    · exact k2 h0 a ha h
    · have := k1.block (by omega) h0 ha; omega
  exact ⟨ss, h1, key h1 h2, h3, fun i x l hx hl => ⟨(h4 i x l hx hl).1, key (h4 i x l hx hl).1 (h4 i x l hx hl).2⟩⟩
theorem Parts.len {w : World} {S : List Nat} {s : SlV} {ls : List (List B8)} (h : Parts w S s ls) : s.n = ls.length := by
  obtain ⟨ss, h1, h2, h3, h4⟩ := h.ex
  have := h1.len
  simp only [List.length_map] at this
  omega
/-- a part is read -/
theorem Parts.ld {w : World} {S : List Nat} {s : SlV} {ls : List (List B8)} (h : Parts w S s ls) {i : Nat} (hi : i < ls.length) {K : SlV → Prop} (hk : ∀ x, Bytes w x (ls.getD i []) → off S x → K x) :
    idxS s.a (i : Int) s.n (ldL (Addr.add (base s.a) (Int.toNat (i : Int) * 1)) w K) := by
  have hn := h.len
  obtain ⟨ss, h1, h2, h3, h4⟩ := h.ex
  refine ⟨⟨h1.pre (by omega), by omega, by omega⟩, ss[i]'(by omega), ?_, ?_⟩
  · rw [Int.toNat_natCast, Nat.mul_one]
    exact h1.cell i _ (by simp [show i < ss.length by omega, SlV.v])
  · have := h4 i (ss[i]'(by omega)) (ls.getD i []) (by simp [show i < ss.length by omega]) (by simp [hi])
    exact hk _ this.1 this.2
/-- a slice of one, or two, slices that was made for a call -/
theorem Parts.of1 {w : World} {S : List Nat} {b : Nat} {x : SlV} {l : List B8} {t : TypeId} (h : Blk w b [x.v] t) (hb : b ∉ S) (hx : Bytes w x l) (ho : off S x) : Parts w S ⟨some ⟨b, 0, none⟩, 1, 1⟩ [l] :=
  ⟨[x], by simpa using h.sl 1 1 1 (by simp) (by omega), fun _ a ha => by simp only [Option.some.injEq] at ha; subst ha; exact hb, rfl, fun i y m hy hm => by
    cases i with
    | zero =>
      simp only [List.getElem?_cons_zero, Option.some.injEq] at hy hm
      subst hy hm; exact ⟨hx, ho⟩
    | succ i => simp at hy⟩
theorem Bytes.nil (w : World) : Bytes w ⟨none, 0, 0⟩ [] := Sl.nil w 1
theorem Own.bytes {w : World} {lo : Nat} {e : TypeId} {s : SlV} {l : List B8} (h : Own w lo e 1 s (u8s l)) : Bytes w s l := h.sl
/-! ### slices of slices -/
/-- x lies within s -/
def Within (x s : SlV) : Prop := x.n ≤ s.n ∧ ∀ a, x.a = some a → ∃ a0, s.a = some a0 ∧ a.block = a0.block
theorem Sl.part {w : World} {s : SlV} {sz : Nat} {vs : List Value} (h : Sl w s sz vs) (hsz : 0 < sz) (l k : Nat) (hlk : l ≤ k) (hk : k ≤ s.n) : Sl w ⟨sub s.a l s.c sz, k - l, s.c - l⟩ sz ((vs.drop (l * sz)).take ((k - l) * sz)) := by
  have hl := h.len
  have hc := h.cap
  have e1 : k * sz ≤ s.n * sz := Nat.mul_le_mul_right _ hk
  have e2 : (k - l) * sz = k * sz - l * sz := Nat.sub_mul _ _ _
  have e3 : l * sz ≤ k * sz := Nat.mul_le_mul_right _ hlk
  refine ⟨by simp only [List.length_take, List.length_drop]; omega, by show k - l ≤ s.c - l; omega, fun h0 => ?_, fun i v hv => ?_⟩
  · have h0 : 0 < k - l := h0
    have := h.pre (by omega)
    unfold sub; split
    · exact this
    · simpa using this
  · rw [List.getElem?_take] at hv
    split at hv
    · rename_i hi
      rw [List.getElem?_drop] at hv
      have h1 := h.cell _ v hv
      have hkl : l < k := by
        rcases Nat.lt_or_ge l k with h | h
        · exact h
        · rw [show k - l = 0 by omega, Nat.zero_mul] at hi; omega
      obtain ⟨a, ha⟩ := Option.isSome_iff_exists.1 (h.pre (by omega))
      have hne : ¬ s.c = l := by omega
      have hb : base s.a = a := by rw [ha]; rfl
      unfold sub
      rw [if_neg hne, ha]
      show w.cell? ((a.add (l * sz)).add i) = some v
      rw [add_add, ← hb]
      exact h1
    · cases hv
theorem Within.part (s : SlV) (l m sz n c : Nat) (hn : n ≤ s.n) : Within ⟨sub s.a l m sz, n, c⟩ s := by
  refine ⟨hn, fun a ha => ?_⟩
  unfold sub at ha
  simp only at ha
  split at ha
  · exact ⟨a, ha, rfl⟩
  · cases hs : s.a with
    | none => rw [hs] at ha; cases ha
    | some a0 =>
      rw [hs] at ha
      simp only [Option.map_some, Option.some.injEq] at ha
      subst ha
      exact ⟨a0, rfl, add_block _ _⟩
theorem Sl.l {w : World} {s : SlV} {sz : Nat} {vs : List Value} {K : SlV → Prop} (h : Sl w s sz vs) (hsz : 0 < sz) (l : Nat) {x : Int} (hx : x = (l : Int)) (hl : l ≤ s.n)
    (hK : ∀ z : SlV, z.n = s.n - l → Sl w z sz (vs.drop (l * sz)) → Within z s → K z) : slL sz s x K := by
  subst hx
  refine ⟨⟨by omega, by omega⟩, ?_⟩
  simp only [Int.toNat_natCast]
  have := h.part hsz l s.n hl (Nat.le_refl _)
  rw [List.take_of_length_le (by rw [List.length_drop, h.len, Nat.sub_mul]; exact Nat.le_refl _)] at this
  exact hK _ rfl this (Within.part _ _ _ _ _ _ (by omega))
theorem Sl.h {w : World} {s : SlV} {sz : Nat} {vs : List Value} {K : SlV → Prop} (h : Sl w s sz vs) (k : Nat) {y : Int} (hy : y = (k : Int)) (hk : k ≤ s.n)
    (hK : ∀ z : SlV, z.n = k → Sl w z sz (vs.take (k * sz)) → Within z s → K z) : slH s y K := by
  subst hy
  have hc := h.cap
  refine ⟨⟨by omega, by omega⟩, ?_⟩
  simp only [Int.toNat_natCast]
  have e1 : k * sz ≤ s.n * sz := Nat.mul_le_mul_right _ hk
  refine hK ⟨s.a, k, s.c⟩ rfl ⟨by rw [List.length_take, h.len]; show min (k * sz) (s.n * sz) = k * sz; omega, by show k ≤ s.c; omega, fun h0 => h.pre (Nat.lt_of_lt_of_le h0 hk), fun i v hv => ?_⟩ ⟨hk, fun a ha => ⟨a, ha, rfl⟩⟩
  rw [List.getElem?_take] at hv
  split at hv
  · exact h.cell i v hv
  · cases hv
theorem u8s_take (l : List B8) (n : Nat) : (u8s l).take n = u8s (l.take n) := by simp [u8s, List.map_take]
theorem u8s_drop (l : List B8) (n : Nat) : (u8s l).drop n = u8s (l.drop n) := by simp [u8s, List.map_drop]
theorem u8s_set (l : List B8) (i : Nat) (b : B8) : (u8s l).set i (.int .u8 (b.toNat : Int)) = u8s (l.set i b) := by simp [u8s, u8, List.map_set]
theorem Bytes.l {w : World} {s : SlV} {bs : List B8} {K : SlV → Prop} (h : Bytes w s bs) (l : Nat) {x : Int} (hx : x = (l : Int)) (hl : l ≤ s.n)
    (hK : ∀ z : SlV, z.n = s.n - l → Bytes w z (bs.drop l) → Within z s → K z) : slL 1 s x K :=
  Sl.l h (by omega) l hx hl fun z h1 h2 h3 => hK z h1 (by simp only [Nat.mul_one, u8s_drop] at h2; exact h2) h3
theorem Bytes.h {w : World} {s : SlV} {bs : List B8} {K : SlV → Prop} (h : Bytes w s bs) (k : Nat) {y : Int} (hy : y = (k : Int)) (hk : k ≤ s.n)
    (hK : ∀ z : SlV, z.n = k → Bytes w z (bs.take k) → Within z s → K z) : slH s y K :=
  Sl.h h k hy hk fun z h1 h2 h3 => hK z h1 (by simp only [Nat.mul_one, u8s_take] at h2; exact h2) h3
/-- an own row of bytes -/
theorem Mine.st8 {w0 w : World} {S : List Nat} {L : List Res} (H : Mine w0 S w L) (k : Nat) {e : TypeId} {s : SlV} {bs : List B8} {i : Nat} {a : Addr} {n : Int} {K : World → Prop} (x : B8) (hk : L[k]? = some (.row e 1 s (u8s bs))) (ha : a = Addr.add (base s.a) i) (hi : i < bs.length) (hn : n = (x.toNat : Int))
    (h : ∀ w', Mine w0 S w' (L.set k (.row e 1 s (u8s (bs.set i x)))) → K w') : Ev.st a (.int .u8 n) w K := by
  subst hn
  refine H.stRow k hk ha (by simpa using hi) rfl fun w' H' => h w' ?_
  rw [← u8s_set]; exact H'
theorem Mine.bytes {w0 w : World} {S : List Nat} {L : List Res} (H : Mine w0 S w L) (k : Nat) {e : TypeId} {s : SlV} {bs : List B8} (hk : L[k]? = some (.row e 1 s (u8s bs))) : Bytes w s bs := H.rowSl k hk
theorem Bytes.some {w : World} {s : SlV} {bs : List B8} (h : Bytes w s bs) (h0 : 0 < s.n) : s.a.isSome = true := h.pre h0
/-- bytes are appended -/
theorem Mine.app8 {P : Program} {w0 w : World} {S : List Nat} {L : List Res} (H : Mine w0 S w L) (k : Nat) {t ty e : TypeId} {s x : SlV} {vs us : List B8} {K : SlV → World → Prop} (hel : Elt P t e 1 1) (hk : L[k]? = some (.row e 1 s (u8s vs))) (hx : Bytes w x us)
    (hm : s.n + x.n ≤ 100000000000000) (h : ∀ s' w', Mine w0 S w' (L.set k (.row e 1 s' (u8s (vs ++ us)))) → s'.n = s.n + x.n → K s' w') : appK P [t, t] ty [.slice s.a s.n s.c, .slice x.a x.n x.c] w K :=
  H.app k hel hk hx (ones_u8s us) (by omega) (by omega) fun s' w' H' hn => h s' w' (by rw [u8s_append]; exact H') hn
theorem Mine.app8one {P : Program} {w0 w : World} {S : List Nat} {L : List Res} (H : Mine w0 S w L) (k : Nat) {t ty e t1 : TypeId} {s : SlV} {vs : List B8} {n : Int} {K : SlV → World → Prop} (x : B8) (hel : Elt P t e 1 1) (hk : L[k]? = some (.row e 1 s (u8s vs))) (hn : n = (x.toNat : Int))
    (hm : s.n ≤ 100000000000000) (h : ∀ s' w', Mine w0 S w' (L.set k (.row e 1 s' (u8s (vs ++ [x])))) → s'.n = s.n + 1 → K s' w') : Ev.nw t1 [.int .u8 n] w fun p w5 => appK P [t, t] ty [.slice s.a s.n s.c, .slice (some p) 1 1] w5 K := by
  subst hn
  exact H.app1 k hel hk rfl (by simp [isOne]) (by omega) (by omega) fun s' w' H' hn => h s' w' (by rw [u8s_append]; exact H') hn

/-! ### a block that is filled by hand -/
end Go.Ev
end
section
set_option linter.unusedVariables false
set_option linter.unusedSimpArgs false
/- THE SPONGE: what each function computes. -/
namespace Go.Proofs.YtdnhoebcomffoaaGreatDoor
open Go Go.Ev
theorem elt_u8 : Elt Pr t_s_uint8 t_uint8 1 1 := Elt.of (by kernel_rfl)
theorem maxi64 : IntKind.max .i64 = 9223372036854775807 := by decide
def tail4 (rate at_ : Nat) (suf : B8) (gives : Bool) : List Value := [.int .i64 (rate : Int), .int .u8 (suf.toNat : Int), .int .i64 (at_ : Int), .bool gives]
/-- the cells of a sponge -/
def spc (ws : List B64) (rate at_ : Nat) (suf : B8) (gives : Bool) : List Value := u64s ws ++ tail4 rate at_ suf gives
def flip (ws : List B64) (i : Nat) (b : B8) : List B64 := ws.set (i / 8) (g ws (i / 8) ^^^ (b.setWidth 64 <<< (8 * (i % 8))))
theorem length_flip (ws : List B64) (i : Nat) (b : B8) : (flip ws i b).length = ws.length := by simp [flip]
theorem ad0 (b i : Nat) : Addr.add (Addr.add ⟨b, 0, none⟩ 0) (i * 1) = ⟨b, i, none⟩ := by rw [add_mk, ad]
theorem ad00 (b : Nat) : Addr.add ⟨b, 0, none⟩ 0 = ⟨b, 0, none⟩ := add_mk _ _ _
section
variable {ws : List B64} {rate at_ : Nat} {suf : B8} {gives : Bool}
theorem spc_word (hws : ws.length = 25) (i : Nat) (hi : i < 25) : (spc ws rate at_ suf gives)[i]? = some (.int .u64 ((g ws i).toNat : Int)) := by
  unfold spc
  rw [List.getElem?_append_left (by simp; omega)]
  exact u64s_get ws i (by omega)
theorem spc_rate (hws : ws.length = 25) : (spc ws rate at_ suf gives)[25]? = some (.int .i64 (rate : Int)) := by
  unfold spc; rw [List.getElem?_append_right (by simp; omega), length_u64s, hws]; rfl
theorem spc_suf (hws : ws.length = 25) : (spc ws rate at_ suf gives)[26]? = some (.int .u8 (suf.toNat : Int)) := by
  unfold spc; rw [List.getElem?_append_right (by simp; omega), length_u64s, hws]; rfl
theorem spc_at (hws : ws.length = 25) : (spc ws rate at_ suf gives)[27]? = some (.int .i64 (at_ : Int)) := by
  unfold spc; rw [List.getElem?_append_right (by simp; omega), length_u64s, hws]; rfl
theorem spc_gives (hws : ws.length = 25) : (spc ws rate at_ suf gives)[28]? = some (.bool gives) := by
  unfold spc; rw [List.getElem?_append_right (by simp; omega), length_u64s, hws]; rfl
theorem length_spc (hws : ws.length = 25) : (spc ws rate at_ suf gives).length = 29 := by simp [spc, tail4, hws]
theorem spc_set_at (hws : ws.length = 25) (n : Nat) : (spc ws rate at_ suf gives).set 27 (.int .i64 (n : Int)) = spc ws rate n suf gives := by
  unfold spc; rw [List.set_append_right _ _ (by simp; omega), length_u64s, hws]; rfl
theorem spc_set_gives (hws : ws.length = 25) (b : Bool) : (spc ws rate at_ suf gives).set 28 (.bool b) = spc ws rate at_ suf b := by
  unfold spc; rw [List.set_append_right _ _ (by simp; omega), length_u64s, hws]; rfl
theorem spc_set_word (hws : ws.length = 25) (i : Nat) (x : B64) (hi : i < 25) : (spc ws rate at_ suf gives).set i (.int .u64 (x.toNat : Int)) = spc (ws.set i x) rate at_ suf gives := by
  unfold spc; rw [List.set_append_left _ _ (by simp; omega), ← u64s_set]; rfl
theorem spc_take (hws : ws.length = 25) : (spc ws rate at_ suf gives).take 25 = u64s ws := by
  unfold spc; rw [List.take_append_of_le_length (by simp; omega), List.take_of_length_le (by simp; omega)]
theorem spc_drop (hws : ws.length = 25) : (spc ws rate at_ suf gives).drop 25 = tail4 rate at_ suf gives := by
  unfold spc; rw [List.drop_append_of_le_length (by simp; omega), List.drop_of_length_le (by simp; omega), List.nil_append]
end
abbrev Sponge (w : World) (b : Nat) (ws : List B64) (rate at_ : Nat) (suf : B8) (gives : Bool) : Prop := Blk w b (spc ws rate at_ suf gives) t_sponge_Sponge
abbrev spr (b : Nat) (ws : List B64) (rate at_ : Nat) (suf : B8) (gives : Bool) : Res := .blk b (spc ws rate at_ suf gives) t_sponge_Sponge

def mayBe (rate : Int) (suf : B8) : Bool := decide (8 ≤ rate) && decide (rate ≤ 192) && decide (rate % 8 = 0) && decide (1 ≤ (suf.toNat : Int)) && decide ((suf.toNat : Int) ≤ 127)
theorem tmod8 (x : Int) : decide (Int.tmod x 8 = 0) = decide (x % 8 = 0) := by
  have : Int.tmod x 8 = 0 ↔ x % 8 = 0 := by rw [← Int.dvd_iff_tmod_eq_zero, Int.dvd_iff_emod_eq_zero]
  simp only [this]
theorem sponge_New_ok (rate : Nat) (suf : B8) (h : mayBe rate suf = true) (w : World) : Ok Pr f_sponge_New [.int .i64 (rate : Int), .int .u8 (suf.toNat : Int)] w fun v w' => ∃ b, v = .pointer (some ⟨b, 0, none⟩) ∧ Sponge w' b z25 rate 0 suf false ∧ w.heap.size ≤ b ∧ Mod [] w w' := by
  refine V_sponge_New_of ?_
  unfold V_sponge_New
  rw [tmod8]
  refine ite_false ?_ (nw_blk fun b w' hb h1 h2 _ => ⟨b, rfl, h1, by omega, h2⟩)
  unfold mayBe at h
  simp only [Bool.and_eq_true, decide_eq_true_eq] at h
  simp only [Bool.or_eq_false_iff, decide_eq_false_iff_not, Bool.not_eq_false', decide_eq_true_eq]
  omega
theorem sponge_flip_ok {ws : List B64} {rate at_ : Nat} {suf : B8} {gives : Bool} (hws : ws.length = 25) (b i : Nat) (hi : i < 200) (x : B8) (w : World) (h : Sponge w b ws rate at_ suf gives) :
    Ok Pr f_sponge_Sponge_flip [.pointer (some ⟨b, 0, none⟩), .int .i64 (i : Int), .int .u8 (x.toNat : Int)] w fun v w' => v = .tuple ⟨[]⟩ ∧ Sponge w' b (flip ws i x) rate at_ suf gives ∧ Mod [b] w w' := by
  refine V_sponge_Sponge_flip_of ?_
  unfold V_sponge_Sponge_flip
  have H := Mine.start1 (r := spr b ws rate at_ suf gives) h
  refine ⟨⟨by omega, by rw [maxi64]; omega⟩, ⟨by omega, by omega⟩, H.drew.ldI 0 (i := i / 8) rfl (ad0 b (i / 8)) (spc_word hws _ (by omega)) ⟨by omega, ⟨by omega, by omega⟩, ?_⟩⟩
  refine ⟨⟨by omega, by omega⟩, H.drew.st 0 (i := i / 8) rfl (ad0 b (i / 8)) (by rw [length_spc hws]; omega) rfl fun w1 H => ⟨rfl, ?_, H.mod⟩⟩
  have H := H.blk 0 rfl
  rw [up64, show ((8 : Int) * ((i : Int) % 8)) = ((8 * (i % 8) : Nat) : Int) by omega, shl64, xor64, spc_set_word hws _ _ (by omega)] at H
  exact H
/-- when the rate is reached -/
def turn (rate : Nat) (s : List B64 × Nat) : List B64 × Nat := if s.2 = rate then (perm s.1, 0) else s
theorem sponge_turn_ok {ws : List B64} {rate at_ : Nat} {suf : B8} {gives : Bool} (hws : ws.length = 25) (b : Nat) (w : World) (h : Sponge w b ws rate at_ suf gives) :
    Ok Pr f_sponge_Sponge_turn [.pointer (some ⟨b, 0, none⟩)] w fun v w' => v = .tuple ⟨[]⟩ ∧ Sponge w' b (turn rate (ws, at_)).1 rate (turn rate (ws, at_)).2 suf gives ∧ Mod [b] w w' := by
  refine V_sponge_Sponge_turn_of ?_
  unfold V_sponge_Sponge_turn
  have H := (Mine.start1 (r := spr b ws rate at_ suf gives) h).drew
  refine H.ldI 0 (i := 27) rfl (ad1 b 27) (spc_at hws) (H.ldI 0 (i := 25) rfl (ad1 b 25) (spc_rate hws) (ite_intro (fun h1 => ?_) (fun h1 => ?_)))
  · have h2 : at_ = rate := by have := of_decide_eq_true h1; omega
    rw [turn, if_pos h2]
    refine H.ldAp 0 rfl (ad00 b) (by rw [length_spc hws]; omega) ?_
    rw [spc_take hws]
    refine call_of (keccak_Permute_ok ws hws _) ?_
    rintro _ w1 ⟨rfl, m⟩
    have H := H.frame m
    refine asArr_u64s (nc (H.stAp 0 rfl (ad00 b) (by rw [length_u64s, length_perm ws hws]) (by rw [length_spc hws]; omega) (ones_u64s _) fun w2 H => ?_))
    rw [spc_drop hws] at H
    refine Mine.st (L := [spr b (perm ws) rate at_ suf gives]) H 0 (i := 27) rfl (ad1 b 27) (by rw [length_spc (length_perm ws hws)]; omega) rfl fun w3 H => ⟨rfl, ?_, H.mod⟩
    have H := H.blk 0 rfl
    rw [show (.int .i64 (0 : Int) : Value) = .int .i64 ((0 : Nat) : Int) from rfl, spc_set_at (length_perm ws hws)] at H
    exact H
  · have h2 : ¬ at_ = rate := by have := of_decide_eq_false h1; omega
    rw [turn, if_neg h2]
    exact ⟨rfl, H.blk 0 rfl, H.mod⟩
end Go.Proofs.YtdnhoebcomffoaaGreatDoor
end
section
set_option linter.unusedVariables false
set_option linter.unusedSimpArgs false
/- THE SPONGE: in and out. -/
namespace Go.Proofs.YtdnhoebcomffoaaGreatDoor
open Go Go.Ev
/-- a byte goes in -/
def inB (rate : Nat) (s : List B64 × Nat) (x : B8) : List B64 × Nat := turn rate (flip s.1 s.2 x, s.2 + 1)
def absorb (rate : Nat) (s : List B64 × Nat) (l : List B8) : List B64 × Nat := l.foldl (inB rate) s
theorem absorb_append (rate : Nat) (s : List B64 × Nat) (a b : List B8) : absorb rate s (a ++ b) = absorb rate (absorb rate s a) b := List.foldl_append
/-- what is kept true of it -/
def Fits (rate : Nat) (s : List B64 × Nat) : Prop := s.1.length = 25 ∧ s.2 < rate
theorem Fits.inB {rate : Nat} {s : List B64 × Nat} (h : Fits rate s) (x : B8) : Fits rate (inB rate s x) := by
  unfold YtdnhoebcomffoaaGreatDoor.inB turn
  split
  · exact ⟨length_perm _ ((length_flip _ _ _).trans h.1), Nat.lt_of_le_of_lt (Nat.zero_le _) h.2⟩
  · rename_i hn
    have := h.2
    exact ⟨(length_flip _ _ _).trans h.1, by dsimp only at hn ⊢; omega⟩
theorem Fits.absorb {rate : Nat} : ∀ (l : List B8) {s : List B64 × Nat}, Fits rate s → Fits rate (absorb rate s l)
  | [], _, h => h
  | x :: r, _, h => Fits.absorb r (h.inB x)
theorem take_succ_getD {A : Type} (l : List A) (i : Nat) (h : i < l.length) (d : A) : l.take (i + 1) = l.take i ++ [l.getD i d] := by
  rw [List.take_succ_eq_append_getElem h]
  simp [h]
theorem sponge_Write_ok {s : List B64 × Nat} {rate : Nat} {suf : B8} (hr : rate ≤ 192) (hs : Fits rate s) (b : Nat) (parts : SlV) (ls : List (List B8)) (w : World) (h : Sponge w b s.1 rate s.2 suf false) (hp : Parts w [b] parts ls)
    (hsmall : parts.n < 1000000 ∧ ∀ l ∈ ls, l.length < 1000000000) :
    Ok Pr f_sponge_Sponge_Write [.pointer (some ⟨b, 0, none⟩), .slice parts.a parts.n parts.c] w fun v w' => v = .nilIface ∧ Sponge w' b (absorb rate s ls.flatten).1 rate (absorb rate s ls.flatten).2 suf false ∧ Mod [b] w w' := by
  refine V_sponge_Sponge_Write_of ?_
  unfold V_sponge_Sponge_Write
  have H := Mine.start1 (r := spr b s.1 rate s.2 suf false) h
  refine ite_false rfl (nc (H.ldB 0 (i := 28) rfl (ad1 b 28) (spc_gives hs.1) (ite_false rfl ?_)))
  have hn := hp.len
  let st (j : Nat) := absorb rate s (ls.take j).flatten
  refine loop1_up 0 ls.length (fun j w' => Mine w [b] w' [spr b (st j).1 rate (st j).2 suf false]) rfl (by omega) H ?_ ?_
  · intro again j w3 _ hj H hag
    refine ite_true (by rw [hn]; simpa using hj) ?_
    refine (hp.mod H.mod).ld hj fun x hx hxo => ?_
    have hxl := hx.len
    have hxs : (ls.getD j []).length < 1000000000 := hsmall.2 _ (by simp [hj])
    have hst : Fits rate (st j) := hs.absorb _
    have H3 := Mine.start1 (r := spr b (st j).1 rate (st j).2 suf false) (H.blk 0 rfl)
    refine loop1_up 0 (ls.getD j []).length (fun i w' => Mine w3 [b] w' [spr b (absorb rate (st j) ((ls.getD j []).take i)).1 rate (absorb rate (st j) ((ls.getD j []).take i)).2 suf false]) rfl (by omega) H3 ?_ ?_
    · intro again i w4 _ hi H4 hag
      have hf : Fits rate (absorb rate (st j) ((ls.getD j []).take i)) := hst.absorb _
      have hx4 : Bytes w4 x (ls.getD j []) := hx.mod H4.mod hxo
      have hcur := H4.blk 0 rfl
      have hat := hf.2
      refine ite_true (by rw [← hxl]; simpa using hi) (hx4.ld hi (nc (H4.ldI 0 (i := 27) rfl (ad1 b 27) (spc_at hf.1) ?_)))
      refine call_of (sponge_flip_ok hf.1 b _ (by omega) _ _ hcur) ?_
      rintro _ w5 ⟨rfl, h5, m5⟩
      have H5 := H4.upd (r' := spr b _ rate _ suf false) 0 rfl m5 (fun c hc => .inl hc) h5 (fun c hc => .inl hc)
      have hl5 : (flip (absorb rate (st j) ((ls.getD j []).take i)).1 (absorb rate (st j) ((ls.getD j []).take i)).2 ((ls.getD j []).getD i 0)).length = 25 := (length_flip _ _ _).trans hf.1
      refine nc (H5.ldI 0 (i := 27) rfl (ad1 b 27) (spc_at hl5) ⟨⟨by omega, by omega⟩, nc (H5.st 0 (i := 27) rfl (ad1 b 27) (by rw [length_spc hl5]; omega) rfl fun w6 H6 => ?_)⟩)
      have h6 := H6.blk 0 rfl
      rw [show ((absorb rate (st j) ((ls.getD j []).take i)).2 : Int) + 1 = (((absorb rate (st j) ((ls.getD j []).take i)).2 + 1 : Nat) : Int) by omega, spc_set_at hl5] at h6
      refine call_of (sponge_turn_ok hl5 b _ h6) ?_
      rintro _ w7 ⟨rfl, h7, m7⟩
      refine ⟨⟨by omega, by omega⟩, hag w7 ?_⟩
      rw [take_succ_getD _ _ hi 0, absorb_append]
      exact H6.upd (r' := spr b _ rate _ suf false) 0 rfl m7 (fun c hc => .inl hc) h7 (fun c hc => .inl hc)
    · intro again w4 H4
      refine ite_false (by rw [← hxl]; simp) ⟨⟨by omega, by omega⟩, ?_⟩
      refine hag w4 ?_
      have e1 : st (j + 1) = absorb rate (st j) ((ls.getD j []).take (ls.getD j []).length) := by
        simp only [st]
        rw [take_succ_getD _ _ hj [], List.flatten_append, absorb_append, List.take_length]
        simp
      rw [e1]
      exact H.upd (r' := spr b _ rate _ suf false) 0 rfl H4.mod (fun c hc => .inl hc) (H4.blk 0 rfl) (fun c hc => .inl hc)
  · intro again w3 H
    have e : ls.take ls.length = ls := List.take_length
    refine ite_false (by rw [hn]; simp) ⟨rfl, ?_, H.mod⟩
    have := H.blk 0 rfl
    simp only [st, e] at this
    exact this

/-- the byte at a place -/
def byteAt (s : List B64 × Nat) : B8 := (g s.1 (s.2 / 8) >>> (8 * (s.2 % 8))).setWidth 8
def outB (rate : Nat) (x : List B8 × (List B64 × Nat)) (_i : Nat) : List B8 × (List B64 × Nat) := (x.1 ++ [byteAt (turn rate x.2)], ((turn rate x.2).1, (turn rate x.2).2 + 1))
def squeeze (rate : Nat) (s : List B64 × Nat) (n : Nat) : List B8 × (List B64 × Nat) := up (outB rate) ([], s) n
theorem squeeze_succ (rate : Nat) (s : List B64 × Nat) (n : Nat) : squeeze rate s (n + 1) = outB rate (squeeze rate s n) n := up_succ _ _ _
/-- where it gives -/
def Gives (rate : Nat) (s : List B64 × Nat) : Prop := s.1.length = 25 ∧ s.2 ≤ rate
theorem Gives.turn {rate : Nat} (hr : 0 < rate) {s : List B64 × Nat} (h : Gives rate s) : Fits rate (turn rate s) := by
  unfold YtdnhoebcomffoaaGreatDoor.turn
  split
  · exact ⟨length_perm _ h.1, hr⟩
  · rename_i hn
    have := h.2
    exact ⟨h.1, by omega⟩
theorem Gives.squeeze {rate : Nat} (hr : 0 < rate) {s : List B64 × Nat} (h : Gives rate s) (n : Nat) : Gives rate (squeeze rate s n).2 := by
  induction n with
  | zero => exact h
  | succ n ih =>
    rw [squeeze_succ]
    have := ih.turn hr
    exact ⟨this.1, this.2⟩
theorem length_squeeze (rate : Nat) (s : List B64 × Nat) (n : Nat) : (squeeze rate s n).1.length = n := by
  induction n with
  | zero => rfl
  | succ n ih => rw [squeeze_succ]; simp [outB, ih]
/-- the last bytes that go in -/
def close (rate : Nat) (suf : B8) (s : List B64 × Nat) : List B64 × Nat := (flip (flip s.1 s.2 suf) (rate - 1) 128, rate)
theorem sponge_Read_no (p : Option Addr) (n : Int) (hn : p = none ∨ n < 1 ∨ 1048576 < n) (w : World) : Ok Pr f_sponge_Sponge_Read [.pointer p, .int .i64 n] w fun v w' => v = .slice none 0 0 ∧ w' = w := by
  refine V_sponge_Sponge_Read_of ?_
  unfold V_sponge_Sponge_Read
  refine ite_true ?_ ⟨rfl, rfl⟩
  simp only [Bool.or_eq_true, decide_eq_true_eq]
  rcases hn with rfl | h | h
  · exact .inl (.inl rfl)
  · exact .inl (.inr h)
  · exact .inr h
/-- what a reading is begun with -/
def ready (rate : Nat) (suf : B8) (gives : Bool) (s : List B64 × Nat) : List B64 × Nat := if gives then s else close rate suf s
theorem zrow_bytes (n : Nat) : (zeroRow n (zc Pr t_uint8)).take (0 * 1) = u8s [] := by simp [u8s]
theorem sponge_Read_ok {s : List B64 × Nat} {rate : Nat} {suf : B8} {gives : Bool} (hr0 : 8 ≤ rate) (hr : rate ≤ 192) (hs : if gives then Gives rate s else Fits rate s) (b : Nat) (n : Nat) (hn : 1 ≤ n) (hn' : n ≤ 1048576) (w : World) (h : Sponge w b s.1 rate s.2 suf gives) :
    Ok Pr f_sponge_Sponge_Read [.pointer (some ⟨b, 0, none⟩), .int .i64 (n : Int)] w fun v w' => ∃ x : SlV, v = .slice x.a x.n x.c ∧ Own w' w.heap.size t_uint8 1 x (u8s (squeeze rate (ready rate suf gives s) n).1) ∧
      Sponge w' b (squeeze rate (ready rate suf gives s) n).2.1 rate (squeeze rate (ready rate suf gives s) n).2.2 suf true ∧ Mod [b] w w' := by
  refine V_sponge_Sponge_Read_of ?_
  unfold V_sponge_Sponge_Read
  refine ite_false (by simp; omega) (join0_of fun go hgo => ?_)
  have H := Mine.start1 (r := spr b s.1 rate s.2 suf gives) h
  -- the giving
  have give : ∀ (s' : List B64 × Nat) (w1 : World), s' = ready rate suf gives s → Gives rate s' → Mine w [b] w1 [spr b s'.1 rate s'.2 suf true] → go w1 := by
    rintro s' w1 rfl hg H
    refine hgo w1 ?_
    refine H.mkS (l := 0) (c := n) elt_u8 rfl rfl (Nat.zero_le _) (by omega) (by omega) fun c w2 H hc => ?_
    rw [zrow_bytes] at H
    generalize ready rate suf gives s = r at *
    refine loop2_up 0 n (fun i x w' => Mine w [b] w' [spr b (squeeze rate r i).2.1 rate (squeeze rate r i).2.2 suf true, .row t_uint8 1 x (u8s (squeeze rate r i).1)] ∧ x.n = i) rfl (by omega) ⟨H, rfl⟩ ?_ ?_
    · rintro again i x w3 _ hi ⟨H, hx⟩ hag
      have hq := hg.squeeze (by omega) i
      have hf := hq.turn (by omega)
      have hfa := hf.2
      refine ite_true (by simp; omega) (call_of (sponge_turn_ok hq.1 b _ (H.blk 0 rfl)) ?_)
      rintro _ w4 ⟨rfl, h4, m4⟩
      have H4 := (H.upd (r' := spr b _ rate _ suf true) 0 rfl m4 (fun c hc => .inl hc) h4 (fun c hc => .inl hc)).drew
      change Mine w [b] _ [spr b (turn rate (squeeze rate r i).2).1 rate (turn rate (squeeze rate r i).2).2 suf true, .row t_uint8 1 x (u8s (squeeze rate r i).1)] at H4
      refine nc (H4.ldI 0 (i := 27) rfl (ad1 b 27) (spc_at hf.1) ⟨⟨by omega, by rw [maxi64]; omega⟩, nc ⟨⟨by omega, by omega⟩, ?_⟩⟩)
      refine H4.ldI 0 (i := (turn rate (squeeze rate r i).2).2 / 8) rfl (ad0 b ((turn rate (squeeze rate r i).2).2 / 8)) (spc_word hf.1 _ (by omega)) (nc (H4.ldI 0 (i := 27) rfl (ad1 b 27) (spc_at hf.1) ⟨by omega, ⟨by omega, by omega⟩, ?_⟩))
      refine cnt_of (by omega) ?_
      rw [show ((8 : Int) * (((turn rate (squeeze rate r i).2).2 : Int) % 8)) = ((8 * ((turn rate (squeeze rate r i).2).2 % 8) : Nat) : Int) by omega, shr64, low8]
      refine H4.app1 1 elt_u8 rfl rfl (by simp [isOne]) (by omega) (by omega) fun x' w6 H6 hx' => ?_
      change Mine w [b] _ [spr b (turn rate (squeeze rate r i).2).1 rate (turn rate (squeeze rate r i).2).2 suf true, .row t_uint8 1 x' (u8s (squeeze rate r i).1 ++ [u8 (byteAt (turn rate (squeeze rate r i).2))])] at H6
      refine nc (H6.ldI 0 (i := 27) rfl (ad1 b 27) (spc_at hf.1) ⟨⟨by omega, by omega⟩, nc (H6.st 0 (i := 27) rfl (ad1 b 27) (by rw [length_spc hf.1]; omega) rfl fun w7 H7 => ⟨⟨by omega, by omega⟩, ?_⟩)⟩)
      refine hag x' w7 ⟨?_, by omega⟩
      rw [show ((turn rate (squeeze rate r i).2).2 : Int) + 1 = (((turn rate (squeeze rate r i).2).2 + 1 : Nat) : Int) by omega, spc_set_at hf.1] at H7
      rw [squeeze_succ]
      have e : u8s (outB rate (squeeze rate r i) i).1 = u8s (squeeze rate r i).1 ++ [u8 (byteAt (turn rate (squeeze rate r i).2))] := by
        unfold outB; rw [u8s_append]; rfl
      rw [e]
      exact H7
    · rintro again x w3 ⟨H, hx⟩
      refine ite_false (by simp) ⟨x, rfl, H.fresh 1 rfl ?_, H.blk 0 rfl, H.mod⟩
      intro c hc hcS
      exact H.apart 1 0 _ _ (by omega) rfl rfl c hc (by simpa [Res.blk] using hcS)
  refine nc (H.ldB 0 (i := 28) rfl (ad1 b 28) (spc_gives (by cases gives <;> exact hs.1)) ?_)
  cases gives with
  | true => exact ite_false rfl (give s w rfl hs H)
  | false =>
    have hs : Fits rate s := hs
    have hsa := hs.2
    have H := H.drew
    refine ite_true rfl (nc (H.ldI 0 (i := 27) rfl (ad1 b 27) (spc_at hs.1) (nc (H.ldI 0 (i := 26) rfl (ad1 b 26) (spc_suf hs.1) (call_of (sponge_flip_ok hs.1 b _ (by omega) _ _ (H.blk 0 rfl)) ?_)))))
    rintro _ w3 ⟨rfl, h3, m3⟩
    have H3 := H.upd (r' := spr b _ rate _ suf false) 0 rfl m3 (fun c hc => .inl hc) h3 (fun c hc => .inl hc)
    have l3 : (flip s.1 s.2 suf).length = 25 := (length_flip _ _ _).trans hs.1
    refine nc (H3.ldI 0 (i := 25) rfl (ad1 b 25) (spc_rate l3) ⟨⟨by omega, by omega⟩, ?_⟩)
    rw [show ((rate : Int) - 1) = ((rate - 1 : Nat) : Int) by omega]
    refine call_of (sponge_flip_ok l3 b (rate - 1) (by omega) 128 _ h3) ?_
    rintro _ w4 ⟨rfl, h4, m4⟩
    have H4 := H3.upd (r' := spr b _ rate _ suf false) 0 rfl m4 (fun c hc => .inl hc) h4 (fun c hc => .inl hc)
    have l4 : (flip (flip s.1 s.2 suf) (rate - 1) 128).length = 25 := (length_flip _ _ _).trans l3
    refine nc (H4.ldI 0 (i := 25) rfl (ad1 b 25) (spc_rate l4) (nc (H4.st 0 (i := 28) rfl (ad1 b 28) (by rw [length_spc l4]; omega) rfl fun w5 H5 => ?_)))
    rw [spc_set_gives l4] at H5
    refine nc (H5.st 0 (i := 27) rfl (ad1 b 27) (by show 27 < (spc _ _ _ _ _).length; rw [length_spc l4]; omega) rfl fun w6 H6 => ?_)
    refine give (close rate suf s) w6 rfl ⟨l4, Nat.le_refl _⟩ ?_
    rw [spc_set_at l4] at H6
    exact H6
end Go.Proofs.YtdnhoebcomffoaaGreatDoor
end
section
set_option linter.unusedVariables false
set_option linter.unusedSimpArgs false
/- THE DOCUMENT'S SPONGE: what each function computes. -/
namespace Go.Proofs.YtdnhoebcomffoaaGreatDoor
open Go Go.Ev
/-- bytes into a state -/
def mixU (l : List B8) (a : List B64) (n : Nat) : List B64 := up (fun a i => flip a i (l.getD i 0)) a n
def mix (a : List B64) (l : List B8) : List B64 := mixU l a l.length
theorem length_mixU (l : List B8) (a : List B64) (n : Nat) : (mixU l a n).length = a.length := length_up _ (fun _ _ => length_flip _ _ _) _ _
/-- zeros behind -/
def zpad (rate : Nat) (l : List B8) : List B8 := l ++ List.replicate ((rate - l.length % rate) % rate) 0
theorem zpad_len {rate : Nat} (hr : 0 < rate) (l : List B8) : (zpad rate l).length % rate = 0 := by
  unfold zpad
  rw [List.length_append, List.length_replicate]
  have h1 := Nat.mod_lt l.length hr
  rcases Nat.eq_zero_or_pos (l.length % rate) with h | h
  · rw [h, Nat.sub_zero, Nat.mod_self, Nat.add_zero, h]
  · rw [Nat.mod_eq_of_lt (by omega : rate - l.length % rate < rate), Nat.add_mod, Nat.mod_eq_of_lt (by omega : rate - l.length % rate < rate), show l.length % rate + (rate - l.length % rate) = rate by omega, Nat.mod_self]
/-- what goes in, as blocks -/
def padded (rate : Nat) (suf : B8) (l : List B8) : List B8 :=
  let p := zpad rate (l ++ [suf])
  p.set (p.length - 1) (p.getD (p.length - 1) 0 ^^^ 128)
def blocks (rate : Nat) (p : List B8) (a : List B64) (m : Nat) : List B64 := up (fun a j => perm (mix a ((p.drop (rate * j)).take rate))) a m
theorem length_blocks (rate : Nat) (p : List B8) (m : Nat) : (blocks rate p z25 m).length = 25 := by
  induction m with
  | zero => rfl
  | succ m ih =>
    rw [show blocks rate p z25 (m + 1) = perm (mix (blocks rate p z25 m) ((p.drop (rate * m)).take rate)) from up_succ _ _ _]
    exact length_perm _ ((length_mixU _ _ _).trans ih)
def outStep (rate : Nat) (x : List B8 × List B64) (i : Nat) : List B8 × List B64 :=
  let a := if 0 < i ∧ i % rate = 0 then perm x.2 else x.2
  (x.1 ++ [(g a (i % rate / 8) >>> (8 * (i % 8))).setWidth 8], a)
def outs (rate : Nat) (a : List B64) (n : Nat) : List B8 × List B64 := up (outStep rate) ([], a) n
theorem outs_succ (rate : Nat) (a : List B64) (n : Nat) : outs rate a (n + 1) = outStep rate (outs rate a n) n := up_succ _ _ _
theorem length_outs (rate : Nat) (a : List B64) (ha : a.length = 25) (n : Nat) : (outs rate a n).1.length = n ∧ (outs rate a n).2.length = 25 := by
  induction n with
  | zero => exact ⟨rfl, ha⟩
  | succ n ih =>
    rw [outs_succ]
    refine ⟨by simp [outStep, ih.1], ?_⟩
    simp only [outStep]
    split
    · exact length_perm _ ih.2
    · exact ih.2
def refOut (rate : Nat) (suf : B8) (l : List B8) (n : Nat) : List B8 := (outs rate (blocks rate (padded rate suf l) z25 ((padded rate suf l).length / rate)) n).1
theorem length_refOut (rate : Nat) (suf : B8) (l : List B8) (n : Nat) : (refOut rate suf l n).length = n := by
  unfold refOut
  exact (length_outs _ _ (length_blocks _ _ _) _).1
theorem length_padded (rate : Nat) (suf : B8) (l : List B8) : (padded rate suf l).length = (zpad rate (l ++ [suf])).length := by simp [padded]
end Go.Proofs.YtdnhoebcomffoaaGreatDoor
end
section
set_option linter.unusedVariables false
set_option linter.unusedSimpArgs false
/- THE PROGRAM'S SPONGE TELLS WHAT THE DOCUMENT'S DOES: plain lists. -/
namespace Go.Proofs.YtdnhoebcomffoaaGreatDoor
open Go Go.Ev
theorem flip_flip (ws : List B64) (i : Nat) (x y : B8) (h : i / 8 < ws.length) : flip (flip ws i x) i y = flip ws i (x ^^^ y) := by
  unfold flip
  rw [List.set_set]
  congr 1
  have : g (ws.set (i / 8) (g ws (i / 8) ^^^ BitVec.setWidth 64 x <<< (8 * (i % 8)))) (i / 8) = g ws (i / 8) ^^^ BitVec.setWidth 64 x <<< (8 * (i % 8)) := by
    simp [g, h]
  rw [this, BitVec.xor_assoc, BitVec.setWidth_xor, BitVec.shiftLeft_xor_distrib]
theorem flip_zero (ws : List B64) (i : Nat) : flip ws i 0 = ws := by
  unfold flip
  have h0 : (BitVec.setWidth 64 (0 : B8)) <<< (8 * (i % 8)) = (0 : B64) := by
    rw [show BitVec.setWidth 64 (0 : B8) = (0 : B64) from rfl]; exact BitVec.zero_shiftLeft _
  rw [h0, show g ws (i / 8) ^^^ (0 : B64) = g ws (i / 8) from BitVec.xor_zero]
  rcases Nat.lt_or_ge (i / 8) ws.length with h | h
  · have : g ws (i / 8) = ws[i / 8] := by simp [g, h]
    rw [this, List.set_getElem_self]
  · rw [List.set_eq_of_length_le h]
/-- a block goes in, byte by byte -/
theorem absorb_block (rate : Nat) (a : List B64) (bl : List B8) (hb : bl.length = rate) (k : Nat) (hk : k < rate) : absorb rate (a, 0) (bl.take k) = (mixU bl a k, k) := by
  induction k with
  | zero => rfl
  | succ k ih =>
    rw [take_succ_getD _ _ (by omega) 0, absorb_append, ih (by omega)]
    show turn rate (flip (mixU bl a k) k (bl.getD k 0), k + 1) = _
    unfold turn
    rw [if_neg (by show ¬ k + 1 = rate; omega), show mixU bl a (k + 1) = flip (mixU bl a k) k (bl.getD k 0) from up_succ _ _ _]
theorem absorb_block' (rate : Nat) (hr : 0 < rate) (a : List B64) (bl : List B8) (hb : bl.length = rate) : absorb rate (a, 0) bl = (perm (mix a bl), 0) := by
  obtain ⟨k, rfl⟩ : ∃ k, rate = k + 1 := ⟨rate - 1, by omega⟩
  have e : bl = bl.take k ++ [bl.getD k 0] := by rw [← take_succ_getD _ _ (by omega) 0, ← hb, List.take_length]
  have h1 := absorb_block (k + 1) a bl hb k (by omega)
  have h2 : mix a bl = flip (mixU bl a k) k (bl.getD k 0) := by unfold mix; rw [hb]; exact up_succ _ _ _
  rw [h2]
  conv => lhs; rw [e]
  rw [absorb_append, h1]
  show turn (k + 1) (flip (mixU bl a k) k (bl.getD k 0), k + 1) = _
  unfold turn
  rw [if_pos rfl]
theorem absorb_blocks (rate : Nat) (hr : 0 < rate) (p : List B8) (m : Nat) (hm : rate * m ≤ p.length) : absorb rate (z25, 0) (p.take (rate * m)) = (blocks rate p z25 m, 0) := by
  induction m with
  | zero => rfl
  | succ m ih =>
    rw [Nat.mul_add, Nat.mul_one] at hm
    have e : p.take (rate * (m + 1)) = p.take (rate * m) ++ (p.drop (rate * m)).take rate := by rw [Nat.mul_add, Nat.mul_one, List.take_add]
    rw [e, absorb_append, ih (by omega), absorb_block' rate hr _ _ (by rw [List.length_take, List.length_drop]; omega)]
    rw [show blocks rate p z25 (m + 1) = perm (mix (blocks rate p z25 m) ((p.drop (rate * m)).take rate)) from up_succ _ _ _]
/-- where it stands -/
theorem absorb_at (rate : Nat) (hr : 0 < rate) (l : List B8) : ∀ (s : List B64 × Nat), s.2 < rate → (absorb rate s l).2 = (s.2 + l.length) % rate := by
  induction l with
  | nil => intro s h; exact (Nat.mod_eq_of_lt h).symm
  | cons x r ih =>
    intro s h
    show (absorb rate (inB rate s x) r).2 = _
    have h1 : (inB rate s x).2 < rate ∧ (inB rate s x).2 % rate = (s.2 + 1) % rate := by
      unfold inB turn
      split
      · rename_i e
        have e' : s.2 + 1 = rate := e
        exact ⟨hr, by rw [e', Nat.mod_self]; rfl⟩
      · rename_i e
        have e' : ¬ s.2 + 1 = rate := e
        exact ⟨by show s.2 + 1 < rate; omega, rfl⟩
    rw [ih _ h1.1, Nat.add_mod, h1.2, ← Nat.add_mod, List.length_cons]
    congr 1; omega
theorem absorb_zeros (rate : Nat) (ws : List B64) : ∀ (k at_ : Nat), at_ + k < rate → absorb rate (ws, at_) (List.replicate k 0) = (ws, at_ + k)
  | 0, at_, _ => rfl
  | k + 1, at_, h => by
    show absorb rate (inB rate (ws, at_) 0) (List.replicate k 0) = _
    have e : inB rate (ws, at_) 0 = (ws, at_ + 1) := by
      unfold inB turn
      rw [if_neg (by show ¬ at_ + 1 = rate; omega)]
      show (flip ws at_ 0, at_ + 1) = _
      rw [flip_zero]
    rw [e, absorb_zeros rate ws k (at_ + 1) (by omega)]
    congr 1; omega
theorem padded_eq (rate : Nat) (hr : 8 ≤ rate) (hr2 : rate ≤ 192) (suf : B8) (l : List B8) :
    absorb rate (z25, 0) (padded rate suf l) = (perm (close rate suf (absorb rate (z25, 0) l)).1, 0) := by
  have hat := absorb_at rate (by omega) l (z25, 0) (by show 0 < rate; omega)
  have hf : Fits rate (absorb rate (z25, 0) l) := Fits.absorb l ⟨rfl, by show 0 < rate; omega⟩
  rw [Nat.zero_add] at hat
  rcases hs : absorb rate (z25, 0) l with ⟨ws, at_⟩
  rw [hs] at hat hf
  have hat : at_ = l.length % rate := hat
  have hlt : at_ < rate := hf.2
  have hws : ws.length = 25 := hf.1
  obtain ⟨k, hk, hak⟩ : ∃ k, (rate - (l.length + 1) % rate) % rate = k ∧ at_ + 1 + k = rate := by
    refine ⟨_, rfl, ?_⟩
    have h1 : (l.length + 1) % rate = (at_ + 1) % rate := by rw [hat, Nat.add_mod, Nat.mod_eq_of_lt (by omega : 1 < rate)]
    rcases Nat.lt_or_ge (at_ + 1) rate with h | h
    · rw [h1, Nat.mod_eq_of_lt h, Nat.mod_eq_of_lt (by omega : rate - (at_ + 1) < rate)]; omega
    · rw [h1, show at_ + 1 = rate by omega, Nat.mod_self, Nat.sub_zero, Nat.mod_self]; omega
  have hz : zpad rate (l ++ [suf]) = l ++ ([suf] ++ List.replicate k 0) := by
    unfold zpad
    rw [List.length_append, List.length_cons, List.length_nil, hk, List.append_assoc]
  have hp : padded rate suf l = l ++ ([suf] ++ List.replicate k 0).set k (([suf] ++ List.replicate k 0).getD k 0 ^^^ 128) := by
    show (zpad rate (l ++ [suf])).set ((zpad rate (l ++ [suf])).length - 1) ((zpad rate (l ++ [suf])).getD ((zpad rate (l ++ [suf])).length - 1) 0 ^^^ 128) = _
    have hlen : (zpad rate (l ++ [suf])).length - 1 = l.length + k := by rw [hz]; simp
    rw [hlen, hz, List.set_append_right _ _ (by omega), Nat.add_sub_cancel_left]
    congr 3
    rw [List.getD_eq_getElem?_getD, List.getD_eq_getElem?_getD, List.getElem?_append_right (by omega), Nat.add_sub_cancel_left]
  rw [hp, absorb_append, hs]
  unfold close
  cases k with
  | zero =>
    show turn rate (flip ws at_ (suf ^^^ 128), at_ + 1) = _
    unfold turn
    rw [if_pos (by show at_ + 1 = rate; omega)]
    rw [show rate - 1 = at_ by omega, flip_flip _ _ _ _ (by rw [hws]; omega)]
  | succ k =>
    have e : ([suf] ++ List.replicate (k + 1) 0).set (k + 1) (([suf] ++ List.replicate (k + 1) 0).getD (k + 1) 0 ^^^ 128) = [suf] ++ List.replicate k 0 ++ [128] := by
      have h1 : ([suf] ++ List.replicate (k + 1) (0 : B8)).getD (k + 1) 0 = 0 := by simp
      rw [h1, List.replicate_succ', ← List.append_assoc, List.set_append_right _ _ (by simp)]
      have h2 : k + 1 - ([suf] ++ List.replicate k (0 : B8)).length = 0 := by simp
      rw [h2]
      rfl
    rw [e, absorb_append, absorb_append]
    have e1 : absorb rate (ws, at_) [suf] = (flip ws at_ suf, at_ + 1) := by
      show turn rate (flip ws at_ suf, at_ + 1) = _
      unfold turn
      rw [if_neg (by show ¬ at_ + 1 = rate; omega)]
    rw [e1, absorb_zeros rate _ k (at_ + 1) (by omega)]
    show turn rate (flip (flip ws at_ suf) (at_ + 1 + k) 128, at_ + 1 + k + 1) = _
    unfold turn
    rw [if_pos (by show at_ + 1 + k + 1 = rate; omega)]
    rw [show at_ + 1 + k = rate - 1 by omega]
theorem squeeze_outs (rate : Nat) (hr : 8 ≤ rate) (hr8 : rate % 8 = 0) (a : List B64) (n : Nat) :
    (squeeze rate (a, rate) n).1 = (outs rate (perm a) n).1 ∧ (squeeze rate (a, rate) n).2 = (if n = 0 then (a, rate) else ((outs rate (perm a) n).2, (n - 1) % rate + 1)) := by
  induction n with
  | zero => exact ⟨rfl, rfl⟩
  | succ n ih =>
    obtain ⟨h1, h2⟩ := ih
    have hturn : turn rate (squeeze rate (a, rate) n).2 = ((outs rate (perm a) (n + 1)).2, n % rate) := by
      rw [h2, outs_succ]
      simp only [outStep]
      cases n with
      | zero =>
        rw [if_pos rfl, if_neg (by omega)]
        unfold turn
        rw [if_pos rfl, Nat.zero_mod]
        rfl
      | succ n =>
        rw [if_neg (by omega)]
        unfold turn
        have hlt := Nat.mod_lt n (show 0 < rate by omega)
        have hm : (n + 1) % rate = if n % rate + 1 = rate then 0 else n % rate + 1 := by
          rw [Nat.add_mod, Nat.mod_eq_of_lt (by omega : 1 < rate)]
          split
          · rename_i h; rw [h, Nat.mod_self]
          · rw [Nat.mod_eq_of_lt (by omega)]
        simp only [Nat.add_sub_cancel]
        split
        · rename_i h
          rw [if_pos h] at hm
          rw [if_pos ⟨by omega, hm⟩, hm]
        · rename_i h
          rw [if_neg h] at hm
          rw [if_neg (by omega), hm]
    rw [squeeze_succ]
    unfold outB
    rw [hturn]
    refine ⟨?_, ?_⟩
    · show (squeeze rate (a, rate) n).1 ++ [byteAt ((outs rate (perm a) (n + 1)).2, n % rate)] = _
      rw [h1]
      conv => rhs; rw [outs_succ]
      rw [outs_succ]
      simp only [outStep, byteAt]
      rw [Nat.mod_mod_of_dvd n (Nat.dvd_of_mod_eq_zero hr8)]
    · rw [if_neg (by omega), Nat.add_sub_cancel]
theorem refOut_eq (rate : Nat) (hr : 8 ≤ rate) (hr2 : rate ≤ 192) (hr8 : rate % 8 = 0) (suf : B8) (l : List B8) (n : Nat) :
    refOut rate suf l n = (squeeze rate (close rate suf (absorb rate (z25, 0) l)) n).1 := by
  have hp := padded_eq rate hr hr2 suf l
  have hm : rate * ((padded rate suf l).length / rate) = (padded rate suf l).length := by
    have h1 := Nat.div_add_mod (padded rate suf l).length rate
    have h2 := zpad_len (show 0 < rate by omega) (l ++ [suf])
    rw [← length_padded] at h2
    omega
  have hb := absorb_blocks rate (by omega) (padded rate suf l) ((padded rate suf l).length / rate) (by omega)
  rw [hm, List.take_length, hp] at hb
  unfold refOut
  rw [← (Prod.mk.inj hb).1]
  exact (squeeze_outs rate hr hr8 _ n).1.symm
end Go.Proofs.YtdnhoebcomffoaaGreatDoor
end
section
set_option linter.unusedVariables false
set_option linter.unusedSimpArgs false
/- WHAT THE STATEMENTS SHARE, and the four: what each function computes. -/
namespace Go.Proofs.YtdnhoebcomffoaaGreatDoor
open Go Go.Ev
/-- what comes out -/
def spOut (rate : Nat) (suf : B8) (l : List B8) (n : Int) : List B8 := if 1 ≤ n ∧ n ≤ 1048576 then refOut rate suf l n.toNat else []
theorem spOut_nat (rate : Nat) (suf : B8) (l : List B8) (n : Nat) (h : 1 ≤ n) (h2 : n ≤ 1048576) : spOut rate suf l (n : Int) = refOut rate suf l n := by
  unfold spOut
  rw [if_pos (by omega), Int.toNat_natCast]
theorem sponge_of_ok (rate : Nat) (hr : 8 ≤ rate) (hr2 : rate ≤ 192) (hr8 : rate % 8 = 0) (suf : B8) (hm : mayBe rate suf = true) (n : Int) (parts : SlV) (ls : List (List B8)) (w : World) (hp : Parts w [] parts ls)
    (hsmall : parts.n < 1000000 ∧ ∀ l ∈ ls, l.length < 1000000000) :
    Ok Pr f_sponge_of [.int .i64 (rate : Int), .int .u8 (suf.toNat : Int), .int .i64 n, .slice parts.a parts.n parts.c] w fun v w' => ∃ y : SlV, v = .slice y.a y.n y.c ∧ Own w' w.heap.size t_uint8 1 y (u8s (spOut rate suf ls.flatten n)) ∧ Mod [] w w' := by
  refine V_sponge_of_of ?_
  unfold V_sponge_of
  refine call_of (sponge_New_ok rate suf hm w) ?_
  rintro _ w1 ⟨b, rfl, h1, hb, m1⟩
  have H := (Mine.start w).gotblk m1 h1 hb
  have hp1 : Parts w1 [b] parts ls := (hp.new (T := [b]) fun c hc => .inr (by simp only [List.mem_singleton] at hc; subst hc; exact hb)).mod m1.of_nil
  refine asP_p (call_of (sponge_Write_ok hr2 (s := (z25, 0)) ⟨rfl, by show 0 < rate; omega⟩ b parts ls _ h1 hp1 hsmall) ?_)
  rintro _ w2 ⟨rfl, h2, m2⟩
  have hf : Fits rate (absorb rate (z25, 0) ls.flatten) := Fits.absorb _ ⟨rfl, by show 0 < rate; omega⟩
  have H2 := H.upd (r' := spr b _ rate _ suf false) 0 rfl m2 (fun c hc => .inl hc) h2 (fun c hc => .inl hc)
  rcases Decidable.em (1 ≤ n ∧ n ≤ 1048576) with hn | hn
  · obtain ⟨k, rfl⟩ : ∃ k : Nat, n = (k : Int) := ⟨n.toNat, by omega⟩
    refine call_of (sponge_Read_ok hr hr2 (gives := false) (s := absorb rate (z25, 0) ls.flatten) hf b k (by omega) (by omega) _ h2) ?_
    rintro _ w3 ⟨x, rfl, hx, h3, m3⟩
    have hml : Mod [] w w3 := H2.mod.trans' m3 fun c hc => .inr (by simp only [List.mem_singleton] at hc; subst hc; exact hb)
    refine asSl_s ⟨x, rfl, ?_, hml⟩
    unfold spOut
    rw [if_pos hn, Int.toNat_natCast, refOut_eq rate hr hr2 hr8]
    obtain ⟨hl, e1 | ⟨gg, cap, cur, e1, e2, e3⟩⟩ := hx
    · exact ⟨hl, .inl e1⟩
    · exact ⟨hl, .inr ⟨gg, cap, cur, e1, Nat.le_trans H2.mod.size e2, e3⟩⟩
  · refine call_of (sponge_Read_no _ n (.inr (by omega)) _) ?_
    rintro _ _ ⟨rfl, rfl⟩
    refine asSl_s (s := ⟨none, 0, 0⟩) ⟨⟨none, 0, 0⟩, rfl, ?_, H2.mod⟩
    unfold spOut
    rw [if_neg hn]
    exact Own.nil _ _ _ _

/-! ### the four, the program's and the document's -/
def Gave (w w' : World) (v : Value) (l : List B8) : Prop := ∃ y : SlV, v = .slice y.a y.n y.c ∧ Own w' w.heap.size t_uint8 1 y (u8s l) ∧ Mod [] w w'
def Small (parts : SlV) (ls : List (List B8)) : Prop := parts.n < 1000000 ∧ ∀ l ∈ ls, l.length < 1000000000
theorem sponge_Shake256_ok (n : Int) (parts : SlV) (ls : List (List B8)) (w : World) (hp : Parts w [] parts ls) (hs : Small parts ls) : Ok Pr f_sponge_Shake256 [.int .i64 n, .slice parts.a parts.n parts.c] w fun v w' => Gave w w' v (spOut 136 31 ls.flatten n) := by
  refine V_sponge_Shake256_of ?_
  unfold V_sponge_Shake256
  refine call_of (sponge_of_ok 136 (by omega) (by omega) rfl 31 rfl n parts ls w hp hs) ?_
  rintro _ w1 ⟨y, rfl, h1, h2⟩
  exact asSl_s ⟨y, rfl, h1, h2⟩
def many (n : Int) : Nat := if 1 ≤ n ∧ n ≤ 1048576 then n.toNat else 0
/-! ### what the statements share -/
theorem getD_ext {l m : List B8} (h : l.length = m.length) (he : ∀ i, i < l.length → l.getD i 0 = m.getD i 0) : l = m := by
  refine List.ext_getElem h fun i h1 h2 => ?_
  have := he i h1
  simpa [h1, h2] using this
theorem law0_SameBytes_ok (x y : SlV) (l m : List B8) (w : World) (hx : Bytes w x l) (hy : Bytes w y m) (hl : l.length < 1000000000000) : Ok Pr f_law0_SameBytes [.slice x.a x.n x.c, .slice y.a y.n y.c] w fun v w' => v = .bool (decide (l = m)) ∧ Mod [] w w' := by
  refine V_law0_SameBytes_of ?_
  unfold V_law0_SameBytes
  have hxl := hx.len
  have hyl := hy.len
  refine ite_intro (fun h => ?_) (fun h => ?_)
  · have : l ≠ m := fun e => by
      have : l.length = m.length := by rw [e]
      simp only [Bool.not_eq_true', decide_eq_false_iff_not] at h
      omega
    exact ⟨by rw [decide_eq_false this], Mod.refl _ _⟩
  · have hlen : l.length = m.length := by
      simp only [Bool.not_eq_false', decide_eq_true_eq] at h
      omega
    refine loop1_up 0 l.length (fun i w' => Mod [] w w' ∧ ∀ j, j < i → l.getD j 0 = m.getD j 0) rfl (by omega) ⟨Mod.refl _ _, fun j h => by omega⟩ ?_ ?_
    · rintro again i w1 _ hi ⟨hm, he⟩ hag
      have hm' := hm.trans (Mod.drew [] w1)
      refine ite_true (by rw [← hxl]; simpa using hi) ((hx.mod0 hm').ld hi ((hy.mod0 hm').ld (by omega) (ite_intro (fun h => ?_) (fun h => ?_))))
      · have : l ≠ m := fun e => by
          subst e
          simp at h
        exact ⟨by rw [decide_eq_false this], hm'⟩
      · refine ⟨⟨by omega, by omega⟩, hag _ ⟨hm', fun j hj => ?_⟩⟩
        rcases Nat.lt_or_ge j i with h1 | h1
        · exact he j h1
        · have : j = i := by omega
          subst this
          simp only [Bool.not_eq_false', decide_eq_true_eq] at h
          exact toNat_eq.1 h
    · rintro again w1 ⟨hm, he⟩
      refine ite_false (by rw [← hxl]; simp) ⟨by rw [decide_eq_true (getD_ext hlen he)], hm⟩
theorem law0_SameBytes_same (x y : SlV) (l : List B8) (w : World) (hx : Bytes w x l) (hy : Bytes w y l) (hl : l.length < 1000000000000) : Ok Pr f_law0_SameBytes [.slice x.a x.n x.c, .slice y.a y.n y.c] w fun v w' => v = .bool true ∧ Mod [] w w' := by
  refine (law0_SameBytes_ok x y l l w hx hy hl).mono ?_
  rintro _ w' ⟨rfl, m⟩
  exact ⟨by rw [decide_eq_true rfl], m⟩
def low (x n : Int) : Nat := (x % 18446744073709551616 % n).toNat
end Go.Proofs.YtdnhoebcomffoaaGreatDoor
end
section
set_option linter.unusedVariables false
set_option linter.unusedSimpArgs false
/- AN ERROR'S NUMBER: what l.Num computes. -/
namespace Go.Proofs.YtdnhoebcomffoaaGreatDoor
open Go Go.Ev
/-- what the package variable errors.errorType holds -/
def Laid (w : World) : Prop := w.cell? ⟨0, 0, none⟩ = some (.iface t_reflectlite_rtype (.agg #[.pointer (some ⟨1, t_error, none⟩)]))
theorem Laid.mod {w w' : World} (h : Laid w) {S : List Nat} (m : Mod S w w') (h0 : 0 ∉ S) : Laid w' := m.cell h h0
theorem Laid.mine {w0 w : World} {S : List Nat} {L : List Res} (h : Laid w0) (H : Mine w0 S w L) (h0 : 0 ∉ S) : Laid w := h.mod H.mod h0
theorem mod_four (w : World) (o1 o2 o3 o4 : Obj) (p : Nat) (v : Value) : Mod [p] w (((((w.alloc o1).alloc o2).alloc o3).alloc o4).setCell ⟨p, 0, none⟩ v) :=
  ((((Mod.alloc _ w o1).trans (Mod.alloc _ _ o2)).trans (Mod.alloc _ _ o3)).trans (Mod.alloc _ _ o4)).trans (Mod.setCell _ ⟨p, 0, none⟩ v)
theorem blk_four {w : World} {p : Nat} {u : Value} {t : TypeId} (h : Blk w p [u] t) (o1 o2 o3 o4 : Obj) (v : Value) : Blk (((((w.alloc o1).alloc o2).alloc o3).alloc o4).setCell ⟨p, 0, none⟩ v) p [v] t :=
  ((((h.mod0 (Mod.alloc _ _ o1)).mod0 (Mod.alloc _ _ o2)).mod0 (Mod.alloc _ _ o3)).mod0 (Mod.alloc _ _ o4)).set 0 v
theorem errors_As_fault (e : Addr) (p : Nat) (u : Value) (w : World) (hg : Laid w) (hp : Blk w p [u] t_p_api_Fault) :
    Ok Pr f_errors_As [.iface t_p_api_Fault (.pointer (some e)), .iface t_p_p_api_Fault (.pointer (some ⟨p, 0, none⟩))] w fun v w' => v = .bool true ∧ Mod [p] w w' ∧ Blk w' p [.pointer (some e)] t_p_api_Fault := by
  refine Calls.mono (as_hit e ⟨p, 0, none⟩ u w hg ((hp.cell 0).trans rfl) (hp.frozen 0)) ?_
  rintro _ _ ⟨rfl, rfl⟩
  exact ⟨_, rfl, rfl, mod_four _ _ _ _ _ _ _, blk_four hp _ _ _ _ _⟩
theorem errors_As_code (b : Nat) (c : Int) (p : Nat) (u : Value) (w : World) (hg : Laid w) (hc : w.cell? ⟨b, 0, none⟩ = some (.int .i64 c)) (hp : Blk w p [u] t_api_Errno) :
    Ok Pr f_errors_As [.iface t_p_api_Fault (.pointer (some ⟨b, 0, none⟩)), .iface t_p_api_Errno (.pointer (some ⟨p, 0, none⟩))] w fun v w' => v = .bool true ∧ Mod [p] w w' ∧ Blk w' p [.int .i64 c] t_api_Errno := by
  refine Calls.mono (as_code b c ⟨p, 0, none⟩ u w hg hc ((hp.cell 0).trans rfl) (hp.frozen 0)) ?_
  rintro _ _ ⟨rfl, rfl⟩
  exact ⟨_, rfl, rfl, mod_four _ _ _ _ _ _ _, blk_four hp _ _ _ _ _⟩
theorem errors_Is_code (b : Nat) (c : Int) (w : World) (hc : w.cell? ⟨b, 0, none⟩ = some (.int .i64 c)) : Ok Pr f_errors_Is [.iface t_p_api_Fault (.pointer (some ⟨b, 0, none⟩)), .iface t_api_Errno (.int .i64 c)] w fun v w' => v = .bool true ∧ w' = w := by
  refine Calls.mono (is_code b c w hc) ?_
  rintro _ _ ⟨rfl, rfl⟩
  exact ⟨_, rfl, rfl, rfl⟩
theorem zcErrno : zc Pr t_api_Errno = [.int .i64 0] := by kernel_rfl
theorem zcPF : zc Pr t_p_api_Fault = [.pointer none] := by kernel_rfl
theorem api_Code_ok (b : Nat) (c : Int) (w : World) (hg : Laid w) (hc : w.cell? ⟨b, 0, none⟩ = some (.int .i64 c)) : Ok Pr f_api_Code [.iface t_p_api_Fault (.pointer (some ⟨b, 0, none⟩))] w fun v w' => v = .int .i64 c ∧ Mod [] w w' := by
  refine V_api_Code_of ?_
  unfold V_api_Code
  rw [zcErrno]
  refine (Mine.start w).nw fun p w1 H hp => ?_
  refine ifn_iface (ite_false rfl (call_of (errors_As_code b c p _ w1 (hg.mine H (by simp)) (H.mod.cell0 hc) (H.blk 0 rfl)) ?_))
  rintro _ w2 ⟨rfl, m2, h2⟩
  have H2 := H.upd (r' := .blk p [.int .i64 c] t_api_Errno) 0 rfl m2 (fun c hc => .inl hc) h2 (fun c hc => .inl hc)
  exact asB_b (ite_true rfl (H2.ldI 0 rfl rfl rfl ⟨rfl, H2.mod⟩))
theorem law0_Num_nil (w : World) : Ok Pr f_law0_Num [.nilIface] w fun v w' => v = .int .i64 0 ∧ w' = w := by
  refine V_law0_Num_of ?_
  unfold V_law0_Num
  exact ⟨rfl, rfl⟩
theorem law0_Num_ok (b : Nat) (c : Int) (s : ByteArray) (w : World) (hg : Laid w) (hb : Blk w b [.int .i64 c, .string s] t_api_Fault) (hc : c ≠ 0) : Ok Pr f_law0_Num [.iface t_p_api_Fault (.pointer (some ⟨b, 0, none⟩))] w fun v w' => v = .int .i64 c ∧ Mod [] w w' := by
  refine V_law0_Num_of ?_
  unfold V_law0_Num
  rw [zcPF]
  have hb0 : w.cell? ⟨b, 0, none⟩ = some (.int .i64 c) := (hb.cell 0).trans rfl
  refine ifn_iface (ite_false rfl ((Mine.start w).nw fun p w1 H hp => join0_of fun go hgo => ?_))
  have H := H.drew
  refine call_of (errors_As_fault ⟨b, 0, none⟩ p _ _ (hg.mine H (by simp)) (H.blk 0 rfl)) ?_
  rintro _ w3 ⟨rfl, m3, h3⟩
  have H := H.upd (r' := .blk p [.pointer (some ⟨b, 0, none⟩)] t_p_api_Fault) 0 rfl m3 (fun c hc => .inl hc) h3 (fun c hc => .inl hc)
  have hb3 : w3.cell? (Addr.add ⟨b, 0, none⟩ 0) = some (.int .i64 c) := by rw [ad00]; exact H.mod.cell0 hb0
  refine asB_b (H.ldP 0 rfl rfl rfl (H.ldP 0 rfl rfl rfl (ite_false rfl (nc ⟨c, hb3, H.ldP 0 rfl rfl rfl (ite_false (decide_eq_false hc) (nc ⟨c, hb3, ?_⟩))⟩))))
  refine call_of (errors_Is_code b c _ (by rw [← ad00]; exact hb3)) ?_
  rintro _ _ ⟨rfl, rfl⟩
  refine asB_b (H.ldP 0 rfl rfl rfl (ite_false rfl (nc ⟨c, hb3, ?_⟩)))
  refine call_of (api_Code_ok b c _ (hg.mine H (by simp)) (by rw [← ad00]; exact hb3)) ?_
  rintro _ w5 ⟨rfl, m5⟩
  refine asI_i ⟨kept_nil m5 hb3, H.kept m5 0 rfl rfl 1, ite_false (by simp) (hgo w5 ?_)⟩
  have H := H.frame m5
  refine H.ldP 0 rfl rfl rfl (nc ⟨c, ?_, rfl, H.mod⟩)
  rw [ad00]; exact H.mod.cell0 hb0
end Go.Proofs.YtdnhoebcomffoaaGreatDoor
end
section
set_option linter.unusedVariables false
set_option linter.unusedSimpArgs false
/- WHAT THE ROWS' LIST GIVES, and a world for the witness. -/
namespace Go.Proofs.YtdnhoebcomffoaaGreatDoor
open Go Go.Ev Go.ChangeShapes Go.WideShapes Go.ChangeAt Go.RowKit
theorem own : ownKnob Tryz.prog.godebug = none := by kernel_rfl
theorem laidOut : laidOutB Tryz.prog = true := by kernel_rfl
theorem et : Tryz.prog.globalNamed "errors.errorType" = some 0 := by kernel_rfl
theorem rt : (Tryz.prog.cutTypes.find? (·.1 == "internal/reflectlite.rtype")).map (·.2) = some 205 := by kernel_rfl
theorem oneRow : ((List.range 264).filter fun t => Tryz.prog.rowNamed t [101, 114, 114, 111, 114]) = [25] := by kernel_rfl
theorem tsize : Tryz.prog.types.size = 264 := by kernel_rfl
/-- WHAT THE CONDITION GIVES: the variable's one cell. -/
theorem laid_of {W : World} (h : laidMetH Tryz.prog [("errors.errorType", Rows.laid_errors_errorType)] W) : Laid W := by
  have h' : laidMet Tryz.prog [] W ∧ handlesMet Tryz.prog [("errors.errorType", Rows.laid_errors_errorType)] W := h
  obtain ⟨name, u, ty, e1, e2, e3, e4, e5⟩ := h'.2 _ (List.mem_singleton.2 rfl)
  have en : name = [101, 114, 114, 111, 114] := (Option.some.inj e1).symm
  subst en
  obtain rfl := Option.some.inj (rt.symm.trans e2)
  have hm : ty ∈ (List.range 264).filter fun t => Tryz.prog.rowNamed t [101, 114, 114, 111, 114] := List.mem_filter.2 ⟨List.mem_range.2 (by rw [← tsize]; exact e3), e4⟩
  rw [oneRow] at hm
  obtain rfl := List.mem_singleton.1 hm
  have hh : typeHandle Tryz.prog 25 = .pointer (some ⟨1, 25, none⟩) := by kernel_rfl
  rw [hh] at e5
  have := World.var?_cell et e5 0
  simpa [Laid] using this
/-- A world that meets the condition: the settled one, the variable's cell laid. -/
noncomputable def laidWorld (os : Os) : World :=
  let w0 := World.holding Tryz.prog os ⟨#[], #[], []⟩
  { w0 with heap := w0.heap.modify 0 fun
      | .cells _ t frozen => .cells #[.iface 205 (.agg #[.pointer (some ⟨1, 25, none⟩)])] t frozen
      | o => o }
theorem laidWorld_met (os : Os) (args : Array Value) : laidMetH Tryz.prog [("errors.errorType", Rows.laid_errors_errorType)] ((laidWorld os).forCall (fun _ _ => 0) ⟨#[], args, []⟩).memory :=
  laidMetH_of_parts (laidMet_nil _ _) (by kernel_rfl)
end Go.Proofs.YtdnhoebcomffoaaGreatDoor
end
section
set_option linter.unusedVariables false
set_option linter.unusedSimpArgs false
/- ARGUMENTS THAT WERE READ AS DATA: slices of numbers, of bytes, of slices of bytes: words of this claim's author. -/
namespace Go.Ev
open Go Go.RowKit Go.ChangeShapes Go.WideShapes Go.ChangeAt Go.Deep
variable {H : Type} {enc : TypeId × Value → H} {P : Program} {w : World} {held : Bool}
theorem wf_int {k : IntKind} {n : Int} (h : (Lit.int k n).wf = true) : k.min ≤ n ∧ n ≤ k.max := by
  simpa [Lit.wf] using h
theorem b8_of {n : Int} (h : (Lit.int .u8 n).wf = true) : (((BitVec.ofInt 8 n).toNat : Nat) : Int) = n := by
  have h1 := wf_int h
  have e1 : IntKind.min .u8 = 0 := by decide
  have e2 : IntKind.max .u8 = 255 := by decide
  rw [e1, e2] at h1
  rw [BitVec.toNat_ofInt]
  omega
/-- numbers as bytes -/
theorem bytes_of_ints {s : SlV} {xs : List Int} (h : Ints w s .u8 xs) : Bytes w s (xs.map (BitVec.ofInt 8)) := by
  have e : u8s (xs.map (BitVec.ofInt 8)) = xs.map (Value.int .u8) := by
    unfold u8s
    rw [List.map_map]
    refine List.map_congr_left fun x hx => ?_
    have h1 := h.2 x hx
    have e1 : IntKind.min .u8 = 0 := by decide
    have e2 : IntKind.max .u8 = 255 := by decide
    rw [e1, e2] at h1
    show Value.int .u8 _ = _
    congr 1
    rw [BitVec.toNat_ofInt]
    omega
  unfold Bytes
  rw [e]
  exact h.1
end Go.Ev
end
section
set_option linter.unusedVariables false
set_option linter.unusedSimpArgs false
/- ARGUMENTS THAT WERE READ AS DATA: structs, and slices of structs: words of this claim's author. -/
namespace Go.Ev
open Go Go.RowKit Go.ChangeShapes Go.WideShapes Go.ChangeAt Go.Deep
variable {H : Type} {enc : TypeId × Value → H} {P : Program} {w : World} {held : Bool}
/-- kinds of a struct's fields of one cell -/
inductive Lk where
  | int (k : IntKind) | str | bool | bytes
def LkOk (w : World) : Lk → Value → Prop
  | .int k, v => ∃ z, v = .int k z ∧ k.min ≤ z ∧ z ≤ k.max
  | .str, v => ∃ s : ByteArray, v = .string s ∧ s.size ≤ 9223372036854775807
  | .bool, v => ∃ b, v = .bool b
  | .bytes, v => ∃ (s : SlV) (l : List B8), v = .slice s.a s.n s.c ∧ Bytes w s l ∧ s.n ≤ 9223372036854775807
def kindB (P : Program) (t : TypeId) : Lk → Bool
  | .int k => match P.underlying t with | some (.int k') => decide (k' = k) | _ => false
  | .str => match P.underlying t with | some .string => true | _ => false
  | .bool => match P.underlying t with | some .bool => true | _ => false
  | .bytes => match P.underlying t with | some (.slice e) => (match P.underlying e with | some (.int .u8) => decide (P.cellsOf e = 1) | _ => false) | _ => false
theorem read_leaf {t : TypeId} {k : Lk} {c : Value} {n : Nat} {x : DataW H × List MemPlace} (hk : kindB P t k = true) (h : DataW.trod enc P w 0 (fun _ => true) held n t [c] = some x) : LkOk w k c := by
  cases k with
  | int k =>
    simp only [kindB] at hk
    split at hk
    · rename_i k' hu
      have : k' = k := of_decide_eq_true hk
      subst this
      obtain ⟨z, hz, _, hw⟩ := DataW.trod_int hu h
      have hz : c = .int k' z := by simpa using hz
      have := wf_int hw
      exact ⟨z, hz, this.1, this.2⟩
    · cases hk
  | str =>
    simp only [kindB] at hk
    split at hk
    · rename_i hu
      obtain ⟨s, hs, _, hm⟩ := DataW.trod_string hu h
      have hs : c = .string s := by simpa using hs
      exact ⟨s, hs, by simp only [maxLen] at hm; omega⟩
    · cases hk
  | bool =>
    simp only [kindB] at hk
    split at hk
    · rename_i hu
      obtain ⟨b, hb, _⟩ := DataW.trod_bool hu h
      exact ⟨b, by simpa using hb⟩
    · cases hk
  | bytes =>
    simp only [kindB] at hk
    split at hk
    · rename_i e hu
      split at hk
      · rename_i he
        have hc : P.cellsOf e = 1 := of_decide_eq_true hk
        rcases open_ints hu he hc h with ⟨hcs, -⟩ | ⟨a, len, cap, zs, hcs, -, hl, hm, hz, -, hcell, hw⟩
        · exact ⟨⟨none, 0, 0⟩, [], by simpa using hcs, Bytes.nil w, by show 0 ≤ _; omega⟩
        · simp only [if_true] at hz
          have hI : Ints w ⟨some a, len, cap⟩ .u8 (zs.take len) := by
            refine ⟨⟨?_, hl, fun _ => rfl, fun i x hx => ?_⟩, fun x hx => wf_int (hw x (List.mem_of_mem_take hx))⟩
            · simp only [List.length_map, List.length_take, Nat.mul_one]; omega
            · rw [List.getElem?_map, List.getElem?_take] at hx
              split at hx
              · rename_i hi
                have := hcell i (by omega)
                rw [List.getD_eq_getElem?_getD] at this
                cases hzi : zs[i]? with
                | none => rw [hzi] at hx; cases hx
                | some z =>
                  rw [hzi] at hx this
                  simp only [Option.map_some, Option.some.injEq] at hx
                  subst hx
                  exact this
              · cases hx
          exact ⟨⟨some a, len, cap⟩, _, by simpa using hcs, bytes_of_ints hI, by simp only [maxLen] at hm; show len ≤ _; omega⟩
      · cases hk
    · cases hk
def AllLk (w : World) : List Lk → List Value → Prop
  | [], [] => True
  | k :: ks, c :: cs => LkOk w k c ∧ AllLk w ks cs
  | _, _ => False
theorem AllLk.cons {w : World} {k : Lk} {ks : List Lk} {cs : List Value} (h : AllLk w (k :: ks) cs) : ∃ c r, cs = c :: r ∧ LkOk w k c ∧ AllLk w ks r := by
  cases cs with
  | nil => exact h.elim
  | cons c r => exact ⟨c, r, rfl, h.1, h.2⟩
theorem AllLk.nil {w : World} {cs : List Value} (h : AllLk w [] cs) : cs = [] := by
  cases cs with
  | nil => rfl
  | cons c r => exact h.elim
def fsOf (P : Program) (t : TypeId) : Array Field := match P.underlying t with | some (.struct fs) => fs | _ => #[]
def isStruct (P : Program) (t : TypeId) : Bool := match P.underlying t with | some (.struct _) => true | _ => false
def kindsB (P : Program) (fs : List Field) : List Lk → Bool := go fs
where
  go : List Field → List Lk → Bool
    | [], [] => true
    | f :: fs, k :: ks => kindB P f.type k && go fs ks
    | _, _ => false
def structB (P : Program) (t : TypeId) (ks : List Lk) : Bool := isStruct P t && (oneCellFields P (fsOf P t) && (decide (P.cellsOf t = ks.length) && (decide ((fsOf P t).size = ks.length) && kindsB P (fsOf P t).toList ks)))
theorem und_fs {t : TypeId} (h : isStruct P t = true) : P.underlying t = some (.struct (fsOf P t)) := by
  unfold isStruct at h
  unfold fsOf
  split at h
  · rename_i fs hu; rw [hu]
  · cases h
theorem allLk_of : ∀ (fs : List Field) (ks : List Lk) (cs : List Value), kindsB P fs ks = true → cs.length = ks.length → (∀ (i : Nat) (f : Field) (c : Value), fs[i]? = some f → cs[i]? = some c → ∃ n x, DataW.trod enc P w 0 (fun _ => true) held n f.type [c] = some x) → AllLk w ks cs
  | [], [], [], _, _, _ => trivial
  | [], [], _ :: _, _, h, _ => by simp at h
  | [], _ :: _, _, h, _, _ => by cases h
  | _ :: _, [], _, h, _, _ => by cases h
  | _ :: _, _ :: _, [], _, h, _ => by simp at h
  | f :: fs, k :: ks, c :: cs, h, hl, hc => by
    have h : (kindB P f.type k && kindsB P fs ks) = true := h
    simp only [Bool.and_eq_true] at h
    obtain ⟨n, x, hx⟩ := hc 0 f c rfl rfl
    exact ⟨read_leaf h.1 hx, allLk_of fs ks cs h.2 (by simpa using hl) fun i f' c' hf hc' => hc (i + 1) f' c' (by simpa using hf) (by simpa using hc')⟩
theorem read_cells {t : TypeId} {ks : List Lk} {cs : List Value} {n : Nat} {x : DataW H × List MemPlace} (hs : structB P t ks = true) (h : DataW.trod enc P w 0 (fun _ => true) held n t cs = some x) : AllLk w ks cs ∧ cs.length = ks.length := by
  unfold structB at hs
  simp only [Bool.and_eq_true, decide_eq_true_eq] at hs
  obtain ⟨h1, h2, h3, h4, h5⟩ := hs
  obtain ⟨xs, m, _, _, hl, hxl, hf⟩ := DataW.trod_struct (und_fs h1) h
  refine ⟨allLk_of (enc := enc) (held := held) _ ks cs h5 (by omega) fun i f c hfi hci => ?_, by omega⟩
  have hfi' : (fsOf P t)[i]? = some f := by simpa using hfi
  have hi : i < (fsOf P t).size := (Array.getElem?_eq_some_iff.1 hfi').1
  obtain ⟨ho, hc1⟩ := hone_of h2 i f hfi'
  have := hf i f hfi'
  rw [ho, hc1, take1_drop cs i undef (by omega), List.getElem?_eq_getElem (by omega)] at this
  have hcd : cs.getD i undef = c := by simp [List.getD_eq_getElem?_getD, hci]
  rw [hcd] at this
  exact ⟨m, _, this⟩
theorem read_struct {t : TypeId} {ks : List Lk} {v : Value} {d : DataW H} {ps : List MemPlace} {r : Reach} {base : Nat} (hs : structB P t ks = true) (hv : Value.okWide P w r base t v) (h : DataW.Trod enc P w 0 (fun _ => true) held t v d ps) :
    ∃ cs, v = .agg ⟨cs⟩ ∧ AllLk w ks cs := by
  have hst : isStruct P t = true := by unfold structB at hs; simp only [Bool.and_eq_true] at hs; exact hs.1
  obtain ⟨cs, rfl, hsz⟩ := okWide_struct (und_fs hst) hv
  obtain ⟨fuel, h⟩ := h
  exact ⟨cs.toList, rfl, (read_cells hs (by simpa [Value.cells] using h)).1⟩
end Go.Ev
end
section
set_option linter.unusedVariables false
set_option linter.unusedSimpArgs false
/- LOOPS of more slots, as they are met: words of this claim's author (printed by a small program). -/
namespace Go.Ev
open Go Go.RowKit
theorem loop4_of {A1 A2 A3 A4 : Type} {mk : A1 → A2 → A3 → A4 → Fr} {body : (A1 → A2 → A3 → A4 → World → Prop) → A1 → A2 → A3 → A4 → World → Prop} {y1 : A1} {y2 : A2} {y3 : A3} {y4 : A4} {v : World} (I : A1 → A2 → A3 → A4 → World → Prop) (μ : A1 → A2 → A3 → A4 → World → Nat) (hi : I y1 y2 y3 y4 v)
    (hb : ∀ (again : A1 → A2 → A3 → A4 → World → Prop) x1 x2 x3 x4 w, I x1 x2 x3 x4 w → (∀ x1' x2' x3' x4' w', I x1' x2' x3' x4' w' → μ x1' x2' x3' x4' w' < μ x1 x2 x3 x4 w → again x1' x2' x3' x4' w') → body again x1 x2 x3 x4 w) : loop4 mk body y1 y2 y3 y4 v := by
  intro X hX
  suffices ∀ n x1 x2 x3 x4 w, μ x1 x2 x3 x4 w < n → I x1 x2 x3 x4 w → X (mk x1 x2 x3 x4) w from this _ y1 y2 y3 y4 v (Nat.lt_succ_self _) hi
  intro n
  induction n with
  | zero => intro x1 x2 x3 x4 w h; omega
  | succ n ih => intro x1 x2 x3 x4 w hn hI; exact hX x1 x2 x3 x4 w (hb _ x1 x2 x3 x4 w hI fun x1' x2' x3' x4' w' h1 h2 => ih x1' x2' x3' x4' w' (by omega) h1)
/-- a loop that counts: from lo up to hi -/
theorem loop4_up {A1 A2 A3 : Type} {mk : A1 → A2 → A3 → Int → Fr} {body : (A1 → A2 → A3 → Int → World → Prop) → A1 → A2 → A3 → Int → World → Prop} {v : World} {z1 : A1} {z2 : A2} {z3 : A3} {y : Int} (lo hi : Nat) (I : Nat → A1 → A2 → A3 → World → Prop) (hy : y = (lo : Int)) (hle : lo ≤ hi) (h0 : I lo z1 z2 z3 v)
    (step : ∀ (again : A1 → A2 → A3 → Int → World → Prop) (i : Nat) x1 x2 x3 w, lo ≤ i → i < hi → I i x1 x2 x3 w → (∀ x1' x2' x3' w', I (i + 1) x1' x2' x3' w' → again x1' x2' x3' ((i : Int) + 1) w') → body again x1 x2 x3 (i : Int) w)
    (done : ∀ (again : A1 → A2 → A3 → Int → World → Prop) x1 x2 x3 w, I hi x1 x2 x3 w → body again x1 x2 x3 (hi : Int) w) : loop4 mk body z1 z2 z3 y v := by
  subst hy
  refine loop4_of (fun x1 x2 x3 x w => ∃ i : Nat, x = (i : Int) ∧ lo ≤ i ∧ i ≤ hi ∧ I i x1 x2 x3 w) (fun _ _ _ x _ => hi - x.toNat) ⟨lo, rfl, Nat.le_refl _, hle, h0⟩ ?_
  rintro again x1 x2 x3 x w ⟨i, rfl, h1, h2, h3⟩ hag
  rcases Nat.lt_or_ge i hi with h | h
  · exact step again i x1 x2 x3 w h1 h h3 fun x1' x2' x3' w' h4 => hag x1' x2' x3' _ w' ⟨i + 1, by simp, by omega, by omega, h4⟩ (by omega)
  · have : i = hi := by omega
    subst this
    exact done again x1 x2 x3 w h3
end Go.Ev
end
section
set_option linter.unusedVariables false
set_option linter.unusedSimpArgs false
/- NUMBERS IN SLICES, and what is reckoned with them bit by bit: words of this claim's author. -/
namespace Go.Ev
open Go Go.RowKit
variable {P : Program}
def i64 (n : Int) : Value := .int .i64 n
def i64s (l : List Int) : List Value := l.map i64
theorem ones_i64s (l : List Int) : ∀ v ∈ i64s l, isOne v = true := by
  intro v hv
  obtain ⟨b, -, rfl⟩ := List.mem_map.1 hv
  rfl
@[simp] theorem length_i64s (l : List Int) : (i64s l).length = l.length := by simp [i64s]
theorem i64s_append (a b : List Int) : i64s (a ++ b) = i64s a ++ i64s b := by simp [i64s]
theorem i64s_set (l : List Int) (i : Nat) (x : Int) : (i64s l).set i (.int .i64 x) = i64s (l.set i x) := by simp [i64s, i64, List.map_set]
theorem i64s_get (l : List Int) (i : Nat) (h : i < l.length) : (i64s l)[i]? = some (.int .i64 (l.getD i 0)) := by simp [i64s, i64, h]
/-- numbers in a slice -/
def Nums (w : World) (s : SlV) (l : List Int) : Prop := Sl w s 1 (i64s l)
theorem Nums.len {w : World} {s : SlV} {l : List Int} (h : Nums w s l) : l.length = s.n := by simpa using Sl.len h
theorem Nums.mod0 {w w' : World} {s : SlV} {l : List Int} (h : Nums w s l) (m : Mod [] w w') : Nums w' s l := Sl.mod0 h m
theorem Nums.some {w : World} {s : SlV} {l : List Int} (h : Nums w s l) (h0 : 0 < s.n) : s.a.isSome = true := h.pre h0
theorem Nums.ld {w : World} {s : SlV} {l : List Int} (h : Nums w s l) {i : Nat} (hi : i < l.length) {x : Int} (hx : x = (i : Int)) {K : Int → Prop} (hk : K (l.getD i 0)) :
    idxS s.a x s.n (ldI .i64 (Addr.add (base s.a) (Int.toNat x * 1)) w K) := by
  subst hx
  have hl := h.len
  refine ⟨⟨h.pre (by omega), by omega, by omega⟩, _, ?_, hk⟩
  rw [Int.toNat_natCast, Nat.mul_one]
  exact h.cell i _ (i64s_get l i hi)
theorem Own.nums {w : World} {lo : Nat} {e : TypeId} {s : SlV} {l : List Int} (h : Own w lo e 1 s (i64s l)) : Nums w s l := h.sl
section
variable {w0 w : World} {S : List Nat} {L : List Res}
theorem Mine.nums (H : Mine w0 S w L) (k : Nat) {e : TypeId} {s : SlV} {l : List Int} (hk : L[k]? = some (.row e 1 s (i64s l))) : Nums w s l := H.rowSl k hk
theorem Mine.stN (H : Mine w0 S w L) (k : Nat) {e : TypeId} {s : SlV} {l : List Int} {i : Nat} {x n : Int} {K : World → Prop} (hk : L[k]? = some (.row e 1 s (i64s l))) (hi : i < l.length) (hx : x = (i : Int))
    (h : ∀ w', Mine w0 S w' (L.set k (.row e 1 s (i64s (l.set i n)))) → K w') : idxS s.a x s.n (Ev.st (Addr.add (base s.a) (Int.toNat x * 1)) (.int .i64 n) w K) := by
  subst hx
  have hl := (H.nums k hk).len
  refine ⟨⟨(H.nums k hk).pre (by omega), by omega, by omega⟩, ?_⟩
  refine H.stRow k hk (i := i) (by rw [Int.toNat_natCast, Nat.mul_one]) (by simpa using hi) rfl fun w' H' => h w' ?_
  rw [← i64s_set]; exact H'
theorem Mine.appN (H : Mine w0 S w L) (k : Nat) {t ty e : TypeId} {s x : SlV} {vs us : List Int} {K : SlV → World → Prop} (hel : Elt P t e 1 8) (hk : L[k]? = some (.row e 1 s (i64s vs))) (hx : Nums w x us)
    (hm : s.n + x.n ≤ 10000000000000) (h : ∀ s' w', Mine w0 S w' (L.set k (.row e 1 s' (i64s (vs ++ us)))) → s'.n = s.n + x.n → K s' w') : appK P [t, t] ty [.slice s.a s.n s.c, .slice x.a x.n x.c] w K :=
  H.app k hel hk hx (ones_i64s us) (by omega) (by omega) fun s' w' H' hn => h s' w' (by rw [i64s_append]; exact H') hn
theorem Mine.appN1 (H : Mine w0 S w L) (k : Nat) {t ty e t1 : TypeId} {s : SlV} {vs : List Int} {n : Int} {K : SlV → World → Prop} (hel : Elt P t e 1 8) (hk : L[k]? = some (.row e 1 s (i64s vs)))
    (hm : s.n ≤ 10000000000000) (h : ∀ s' w', Mine w0 S w' (L.set k (.row e 1 s' (i64s (vs ++ [n])))) → s'.n = s.n + 1 → K s' w') : Ev.nw t1 [.int .i64 n] w fun p w5 => appK P [t, t] ty [.slice s.a s.n s.c, .slice (some p) 1 1] w5 K :=
  H.app1 k hel hk rfl (by simp [isOne]) (by omega) (by omega) fun s' w' H' hn => h s' w' (by rw [i64s_append]; exact H') hn
theorem zeroRow1 (n : Nat) (v : Value) : zeroRow n [v] = List.replicate n v := by
  unfold zeroRow
  induction n with
  | zero => rfl
  | succ n ih => rw [List.replicate_succ, List.flatten_cons, ih]; rfl
theorem zeroRow_i64 (n : Nat) : zeroRow n [.int .i64 0] = i64s (List.replicate n 0) := by rw [zeroRow1]; simp [i64s, i64]
theorem zeroRow_u8 (n : Nat) : zeroRow n [.int .u8 0] = u8s (List.replicate n 0) := by rw [zeroRow1]; simp [u8s, u8]
/-- zeros -/
theorem Mine.mkN (H : Mine w0 S w L) {t e : TypeId} {n : Nat} {x y : Int} {K : SlV → World → Prop} (hel : Elt P t e 1 8) (hz : zc P e = [.int .i64 0]) (hx : x = (n : Int)) (hy : y = (n : Int)) (hn : n ≤ 1000000000)
    (h : ∀ s w', Mine w0 S w' (L ++ [.row e 1 s (i64s (List.replicate n 0))]) → s.n = n → K s w') : mkSl P e x y w K := by
  refine H.mkS hel hx hy (Nat.le_refl n) (by omega) (by omega) fun b w' H' _ => h _ w' ?_ rfl
  rw [hz, zeroRow_i64, Nat.mul_one, List.take_of_length_le (by simp)] at H'
  exact H'
theorem Mine.mkU (H : Mine w0 S w L) {t e : TypeId} {n : Nat} {x y : Int} {K : SlV → World → Prop} (hel : Elt P t e 1 1) (hz : zc P e = [.int .u8 0]) (hx : x = (n : Int)) (hy : y = (n : Int)) (hn : n ≤ 1000000000)
    (h : ∀ s w', Mine w0 S w' (L ++ [.row e 1 s (u8s (List.replicate n 0))]) → s.n = n → K s w') : mkSl P e x y w K := by
  refine H.mkS hel hx hy (Nat.le_refl n) (by omega) (by omega) fun b w' H' _ => h _ w' ?_ rfl
  rw [hz, zeroRow_u8, Nat.mul_one, List.take_of_length_le (by simp)] at H'
  exact H'
end
/-! ### numbers, bit by bit -/
theorem wrap_i64 {n : Int} (h1 : -9223372036854775808 ≤ n) (h2 : n < 9223372036854775808) : IntKind.wrap .i64 n = n := by
  have e : IntKind.wrap .i64 n = if n % 18446744073709551616 ≥ 9223372036854775808 then n % 18446744073709551616 - 18446744073709551616 else n % 18446744073709551616 := by
    simp [IntKind.wrap, IntKind.signed, IntKind.bits]
  rw [e]
  split <;> omega
theorem andN {a b : Nat} (ha : a < 9223372036854775808) (hb : b < 9223372036854775808) : andI .i64 (a : Int) (b : Int) = ((a &&& b : Nat) : Int) := by
  unfold andI
  have e : (BitVec.ofInt (IntKind.bits .i64) (a : Int) &&& BitVec.ofInt (IntKind.bits .i64) (b : Int)).toNat = a &&& b := by
    rw [BitVec.toNat_and]
    show (BitVec.ofInt 64 (a : Int)).toNat &&& (BitVec.ofInt 64 (b : Int)).toNat = _
    rw [BitVec.toNat_ofInt, BitVec.toNat_ofInt]
    congr 1 <;> omega
  rw [e]
  have : a &&& b ≤ a := Nat.and_le_left
  exact wrap_i64 (by omega) (by omega)
theorem orN {a b : Nat} (ha : a < 9223372036854775808) (hb : b < 9223372036854775808) : orI .i64 (a : Int) (b : Int) = ((a ||| b : Nat) : Int) := by
  unfold orI
  have e : (BitVec.ofInt (IntKind.bits .i64) (a : Int) ||| BitVec.ofInt (IntKind.bits .i64) (b : Int)).toNat = a ||| b := by
    rw [BitVec.toNat_or]
    show (BitVec.ofInt 64 (a : Int)).toNat ||| (BitVec.ofInt 64 (b : Int)).toNat = _
    rw [BitVec.toNat_ofInt, BitVec.toNat_ofInt]
    congr 1 <;> omega
  rw [e]
  have : a ||| b < 2 ^ 63 := Nat.or_lt_two_pow (by omega) (by omega)
  exact wrap_i64 (by omega) (by omega)
theorem shlN {a k : Nat} (hk : k ≤ 64) (h : a * 2 ^ k < 9223372036854775808) : shl .i64 (a : Int) (k : Int) = ((a * 2 ^ k : Nat) : Int) := by
  unfold shl
  rw [Int.toNat_natCast, show IntKind.bits .i64 = 64 from rfl, Nat.min_eq_left hk]
  have e : ((a : Int) * 2 ^ k) = ((a * 2 ^ k : Nat) : Int) := by rw [Int.natCast_mul, Int.natCast_pow]; rfl
  rw [e]
  exact wrap_i64 (by omega) (by omega)
theorem shrN {a k : Nat} (ha : a < 9223372036854775808) : shr .i64 (a : Int) (k : Int) = ((a / 2 ^ k : Nat) : Int) := by
  unfold shr
  rw [show IntKind.bits .i64 = 64 from rfl, Int.toNat_natCast, Int.fdiv_eq_ediv_of_nonneg _ (by exact Int.le_of_lt (Int.pow_pos (by decide)))]
  have e : a / 2 ^ k = a / 2 ^ (min k 64) := by
    rcases Nat.le_total k 64 with h | h
    · rw [Nat.min_eq_left h]
    · rw [Nat.min_eq_right h, Nat.div_eq_of_lt (Nat.lt_of_lt_of_le (show a < 2 ^ 64 by omega) (Nat.pow_le_pow_right (by decide) h)), Nat.div_eq_of_lt (by omega)]
  rw [e, Int.natCast_ediv, Int.natCast_pow]
  rfl
/-- bytes as a number, the lowest first -/
def num : List B8 → Nat
  | [] => 0
  | b :: r => b.toNat + 256 * num r
theorem num_append (l m : List B8) : num (l ++ m) = num l + 2 ^ (8 * l.length) * num m := by
  induction l with
  | nil => simp [num]
  | cons a r ih =>
    simp only [List.cons_append, num, ih, List.length_cons, Nat.mul_add, Nat.mul_one, Nat.pow_add]
    rw [show (2 : Nat) ^ 8 = 256 from rfl]
    generalize 2 ^ (8 * r.length) = p
    have : 256 * (p * num m) = p * 256 * num m := by rw [Nat.mul_comm p 256, Nat.mul_assoc]
    omega
theorem num_lt (l : List B8) : num l < 2 ^ (8 * l.length) := by
  induction l with
  | nil => simp [num]
  | cons a r ih =>
    simp only [num, List.length_cons, Nat.mul_add, Nat.mul_one, Nat.pow_add]
    rw [show (2 : Nat) ^ 8 = 256 from rfl]
    have := a.isLt
    generalize 2 ^ (8 * r.length) = p at *
    omega
theorem num_take_succ (l : List B8) (k : Nat) (h : k < l.length) : num (l.take (k + 1)) = num (l.take k) + 2 ^ (8 * k) * (l.getD k 0).toNat := by
  rw [List.take_succ_eq_append_getElem h, num_append, List.length_take, Nat.min_eq_left (by omega)]
  simp [num, h]
theorem num_take (l : List B8) (k : Nat) (h : k ≤ l.length) : num l = num (l.take k) + 2 ^ (8 * k) * num (l.drop k) := by
  have := num_append (l.take k) (l.drop k)
  rw [List.take_append_drop, List.length_take, Nat.min_eq_left h] at this
  exact this
/-- what lies above does not matter -/
theorem low_of (a r c p d : Nat) (h : p + d ≤ c) : (a + 2 ^ c * r) / 2 ^ p % 2 ^ d = a / 2 ^ p % 2 ^ d := by
  obtain ⟨e, rfl⟩ := Nat.exists_eq_add_of_le h
  have e1 : 2 ^ (p + d + e) * r = 2 ^ p * (2 ^ d * (2 ^ e * r)) := by rw [Nat.pow_add, Nat.pow_add]; simp only [Nat.mul_assoc]
  rw [e1, Nat.add_mul_div_left _ _ (Nat.pow_pos (by decide)), Nat.add_mul_mod_self_left]
/-- the i-th of a number's parts of d bits -/
def ptk (N d i : Nat) : Nat := N / 2 ^ (d * i) % 2 ^ d
theorem ptk_take (l : List B8) (k d i : Nat) (hk : k ≤ l.length) (h : d * (i + 1) ≤ 8 * k) : ptk (num (l.take k)) d i = ptk (num l) d i := by
  unfold ptk
  rw [num_take l k hk, low_of _ _ _ _ _ (by rw [Nat.mul_succ] at h; exact h)]
theorem ptk_lt (N d i : Nat) : ptk N d i < 2 ^ d := Nat.mod_lt _ (Nat.pow_pos (by decide))
/-- numbers of d bits that bytes have -/
def unpack (d : Nat) (l : List B8) : List Int := (List.range (8 * l.length / d)).map fun i => ((ptk (num l) d i : Nat) : Int)
theorem and_low (x d : Nat) : x &&& (2 ^ d - 1) = x % 2 ^ d := Nat.and_two_pow_sub_one_eq_mod x d
theorem or_high {x n y : Nat} (h : x < 2 ^ n) : x ||| (y * 2 ^ n) = x + y * 2 ^ n := by
  rw [Nat.mul_comm y, Nat.or_comm, ← Nat.two_pow_add_eq_or_of_lt h, Nat.add_comm]
end Go.Ev
end
section
set_option linter.unusedVariables false
set_option linter.unusedSimpArgs false
/- ERRORS AS PARTS OF A CALL'S OWN MEMORY; answers of a list and an error: words of this claim's author. -/
namespace Go.Ev
open Go Go.RowKit
/-- a part that is there already -/
theorem Mine.add {w0 w : World} {S : List Nat} {L : List Res} {r : Res} (H : Mine w0 S w L) (hr : r.ok w) (ho : ∀ b ∈ r.fp, b ∈ S ∨ w0.heap.size ≤ b) (hd : ∀ (k : Nat) (s : Res), L[k]? = some s → ∀ b ∈ s.fp, b ∉ r.fp) : Mine w0 S w (L ++ [r]) := by
  have e : ∀ {k : Nat} {s : Res}, (L ++ [r])[k]? = some s → (L[k]? = some s ∧ k < L.length) ∨ (s = r ∧ k = L.length) := fun {k s} h => by
    rcases Nat.lt_or_ge k L.length with hk | hk
    · rw [List.getElem?_append_left hk] at h; exact .inl ⟨h, hk⟩
    · rw [List.getElem?_append_right hk] at h
      rcases Nat.eq_zero_or_pos (k - L.length) with e | e
      · rw [e] at h; simp at h; exact .inr ⟨h.symm, by omega⟩
      · rw [List.getElem?_eq_none (by simp; omega)] at h; cases h
  refine ⟨H.mod, fun k s hs => ?_, fun k s hs b hb => ?_, fun j k s t hjk hs ht b hb hb' => ?_⟩
  · rcases e hs with ⟨h, _⟩ | ⟨rfl, _⟩
    · exact H.ok k s h
    · exact hr
  · rcases e hs with ⟨h, _⟩ | ⟨rfl, _⟩
    · exact H.own k s h b hb
    · exact ho b hb
  · rcases e hs with ⟨h, _⟩ | ⟨rfl, hj⟩
    · rcases e ht with ⟨h', _⟩ | ⟨rfl, _⟩
      · exact H.apart j k s t hjk h h' b hb hb'
      · exact hd j s h b hb hb'
    · rcases e ht with ⟨h', _⟩ | ⟨rfl, hk⟩
      · exact hd k t h' b hb' hb
      · omega
/-- two parts that a call hands out -/
theorem Mine.push2 {w0 w w' : World} {S : List Nat} {L : List Res} {r s : Res} (H : Mine w0 S w L) (m : Mod [] w w') (hr : r.ok w') (hs : s.ok w') (hrf : ∀ b ∈ r.fp, w.heap.size ≤ b) (hsf : ∀ b ∈ s.fp, w.heap.size ≤ b) (hd : ∀ b ∈ r.fp, b ∉ s.fp) : Mine w0 S w' (L ++ [r, s]) := by
  have H1 := H.push m hr hrf
  have H2 := H1.add hs (fun b hb => .inr (Nat.le_trans H.mod.size (hsf b hb))) fun k t ht b hb hb' => by
    rcases Nat.lt_or_ge k L.length with hk | hk
    · rw [List.getElem?_append_left hk] at ht
      have := t.lt w (H.ok k t ht) b hb
      have := hsf b hb'
      omega
    · rw [List.getElem?_append_right hk] at ht
      rcases Nat.eq_zero_or_pos (k - L.length) with e | e
      · rw [e] at ht; simp at ht; subst ht; exact hd b hb hb'
      · rw [List.getElem?_eq_none (by simp; omega)] at ht; cases ht
  rw [List.append_assoc] at H2
  exact H2
end Go.Ev
namespace Go.Proofs.YtdnhoebcomffoaaGreatDoor
open Go Go.Ev
/-- an error of this number, or none (0) -/
def ErrAt (w : World) (e : Value) (c : Int) : Prop := (e = .nilIface ∧ c = 0) ∨ ∃ b s, e = .iface t_p_api_Fault (.pointer (some ⟨b, 0, none⟩)) ∧ Blk w b [.int .i64 c, .string s] t_api_Fault ∧ c ≠ 0
def errB : Value → List Nat
  | .iface _ (.pointer (some a)) => [a.block]
  | _ => []
def Res.err (e : Value) (c : Int) : Res where
  fp := errB e
  ok w := ErrAt w e c
  stab w w' h k := by
    rcases k with k | ⟨b, s, rfl, hb, hc⟩
    · exact .inl k
    · exact .inr ⟨b, s, rfl, (h b (by simp [errB])).trans hb, hc⟩
  lt w h b hb := by
    rcases h with ⟨rfl, _⟩ | ⟨a, s, rfl, h, _⟩
    · cases hb
    · simp only [errB, List.mem_singleton] at hb; subst hb; exact h.lt
def IsErr (w w' : World) (e : Value) (c : Int) : Prop := ErrAt w' e c ∧ ∀ b ∈ errB e, w.heap.size ≤ b
theorem IsErr.zero (w w' : World) : IsErr w w' .nilIface 0 := ⟨.inl ⟨rfl, rfl⟩, fun b hb => by cases hb⟩
theorem IsErr.mk {w w' : World} {b : Nat} {c : Int} {s : ByteArray} (h : Blk w' b [.int .i64 c, .string s] t_api_Fault) (hb : w.heap.size ≤ b) (hc : c ≠ 0) : IsErr w w' (.iface t_p_api_Fault (.pointer (some ⟨b, 0, none⟩))) c :=
  ⟨.inr ⟨b, s, rfl, h, hc⟩, fun a ha => by simp only [errB, List.mem_singleton] at ha; subst ha; exact hb⟩
theorem IsErr.from {w0 w w' : World} {e : Value} {c : Int} (h : IsErr w w' e c) (hs : w0.heap.size ≤ w.heap.size) : IsErr w0 w' e c := ⟨h.1, fun b hb => Nat.le_trans hs (h.2 b hb)⟩
/-- is there one? -/
theorem ErrAt.isNil {w : World} {e : Value} {c : Int} (h : ErrAt w e c) {K : Bool → Prop} (hk : K (decide (c = 0))) : ifaceNil e K := by
  rcases h with ⟨rfl, rfl⟩ | ⟨b, s, rfl, _, hc⟩
  · exact hk
  · rw [decide_eq_false hc] at hk; exact hk
theorem law0_Num_err (e : Value) (c : Int) (w : World) (hg : Laid w) (h : ErrAt w e c) : Ok Pr f_law0_Num [e] w fun v w' => v = .int .i64 c ∧ Mod [] w w' := by
  rcases h with ⟨rfl, rfl⟩ | ⟨b, s, rfl, hb, hc⟩
  · refine (law0_Num_nil w).mono ?_
    rintro _ _ ⟨rfl, rfl⟩
    exact ⟨rfl, Mod.refl _ _⟩
  · exact law0_Num_ok b c s w hg hb hc
/-- a list and an error -/
def Gave2 (e : TypeId) (sz : Nat) (w w' : World) (v : Value) (vs : List Value) (c : Int) : Prop :=
  ∃ (y : SlV) (er : Value), v = .tuple ⟨[.slice y.a y.n y.c, er]⟩ ∧ Own w' w.heap.size e sz y vs ∧ IsErr w w' er c ∧ (c ≠ 0 → y = ⟨none, 0, 0⟩) ∧ Mod [] w w'
theorem Gave2.no {e : TypeId} {sz : Nat} {w w' : World} {er : Value} {c : Int} (h : IsErr w w' er c) (m : Mod [] w w') : Gave2 e sz w w' (.tuple ⟨[.slice none 0 0, er]⟩) [] c :=
  ⟨⟨none, 0, 0⟩, er, rfl, Own.nil _ _ _ _, h, fun _ => rfl, m⟩
theorem Gave2.yes {e : TypeId} {sz : Nat} {w w' : World} {y : SlV} {vs : List Value} (h : Own w' w.heap.size e sz y vs) (m : Mod [] w w') : Gave2 e sz w w' (.tuple ⟨[.slice y.a y.n y.c, .nilIface]⟩) vs 0 :=
  ⟨y, .nilIface, rfl, h, IsErr.zero _ _, fun h => absurd rfl h, m⟩
theorem _root_.Go.Ev.Mine.got2 {w0 w w' : World} {S : List Nat} {L : List Res} (H : Mine w0 S w L) {e : TypeId} {sz : Nat} {y : SlV} {er : Value} {vs : List Value} {c : Int} (m : Mod [] w w') (hy : Own w' w.heap.size e sz y vs) (he : IsErr w w' er c) (hn : c ≠ 0 → y = ⟨none, 0, 0⟩) :
    Mine w0 S w' (L ++ [.row e sz y vs, Res.err er c]) :=
  Mine.push2 H m hy.lo he.1 (fun b hb => (Own.row_ge hy b hb).1) he.2 fun b hb hb' => by
    rcases he.1 with ⟨rfl, _⟩ | ⟨_, _, _, _, hc⟩
    · cases hb'
    · rw [hn hc] at hb; cases hb
theorem _root_.Go.Ev.Mine.err {w0 w : World} {S : List Nat} {L : List Res} (H : Mine w0 S w L) (k : Nat) {e : Value} {c : Int} (hk : L[k]? = some (Res.err e c)) : ErrAt w e c := H.ok k _ hk
/-- an error alone -/
theorem _root_.Go.Ev.Mine.gotE {w0 w w' : World} {S : List Nat} {L : List Res} (H : Mine w0 S w L) {er : Value} {c : Int} (m : Mod [] w w') (he : IsErr w w' er c) : Mine w0 S w' (L ++ [Res.err er c]) := H.push m he.1 he.2
theorem elt_i64' : Elt Pr t_s_int t_int 1 8 := Elt.of (by kernel_rfl)
end Go.Proofs.YtdnhoebcomffoaaGreatDoor
end
section
set_option linter.unusedVariables false
set_option linter.unusedSimpArgs false
/- THE SPONGE, more: words that all layers above use. -/
namespace Go.Ev
open Go Go.RowKit
/-- a part turns, and a new one is handed out, by one call -/
theorem Mine.updGot {w0 w w' : World} {S T : List Nat} {L : List Res} (H : Mine w0 S w L) (k : Nat) {r r' n : Res} (hk : L[k]? = some r) (m : Mod T w w') (hT : ∀ b ∈ T, b ∈ r.fp) (hr : r'.ok w') (hf : ∀ b ∈ r'.fp, b ∈ r.fp) (hn : n.ok w') (hnf : ∀ b ∈ n.fp, w.heap.size ≤ b) :
    Mine w0 S w' (L.set k r' ++ [n]) := by
  have H' := H.upd k hk m (fun b hb => .inl (hT b hb)) hr (fun b hb => .inl (hf b hb))
  have old : ∀ (j : Nat) (s : Res), (L.set k r')[j]? = some s → ∀ b ∈ s.fp, b < w.heap.size := by
    intro j s hs b hb
    rw [List.getElem?_set] at hs
    split at hs
    · split at hs
      · obtain rfl := Option.some.inj hs
        exact r.lt w (H.ok k r hk) b (hf b hb)
      · cases hs
    · exact s.lt w (H.ok j s hs) b hb
  have e : ∀ {j : Nat} {s : Res}, (L.set k r' ++ [n])[j]? = some s → ((L.set k r')[j]? = some s ∧ j < (L.set k r').length) ∨ (s = n ∧ j = (L.set k r').length) := fun {j s} h => by
    rcases Nat.lt_or_ge j (L.set k r').length with hj | hj
    · rw [List.getElem?_append_left hj] at h; exact .inl ⟨h, hj⟩
    · rw [List.getElem?_append_right hj] at h
      rcases Nat.eq_zero_or_pos (j - (L.set k r').length) with e | e
      · rw [e] at h; simp at h; exact .inr ⟨h.symm, by omega⟩
      · rw [List.getElem?_eq_none (by simp at e ⊢; omega)] at h; cases h
  refine ⟨H'.mod, fun j s hs => ?_, fun j s hs b hb => ?_, fun i j s t hij hs ht b hb hb' => ?_⟩
  · rcases e hs with ⟨h, _⟩ | ⟨rfl, _⟩
    · exact H'.ok j s h
    · exact hn
  · rcases e hs with ⟨h, _⟩ | ⟨rfl, _⟩
    · exact H'.own j s h b hb
    · exact .inr (Nat.le_trans H.mod.size (hnf b hb))
  · rcases e hs with ⟨h, hi⟩ | ⟨rfl, hi⟩
    · rcases e ht with ⟨h', _⟩ | ⟨rfl, _⟩
      · exact H'.apart i j s t hij h h' b hb hb'
      · have := old i s h b hb; have := hnf b hb'; omega
    · rcases e ht with ⟨h', _⟩ | ⟨rfl, hj⟩
      · have := old j t h' b hb'; have := hnf b hb; omega
      · omega
/-- a slice of slices that was made for a call -/
theorem Parts.ofs {w : World} {S : List Nat} {b : Nat} {ss : List SlV} {ls : List (List B8)} {t : TypeId} (h : Blk w b (ss.map SlV.v) t) (hb : b ∉ S) (hl : ss.length = ls.length) (hx : ∀ (i : Nat) (x : SlV) (l : List B8), ss[i]? = some x → ls[i]? = some l → Bytes w x l ∧ off S x) :
    Parts w S ⟨some ⟨b, 0, none⟩, ss.length, ss.length⟩ ls :=
  ⟨ss, (by
    have := h.sl 1 ss.length ss.length (by simp) (by omega)
    rw [Nat.mul_one, List.take_of_length_le (by simp)] at this
    exact this), fun _ a ha => by simp only [Option.some.injEq] at ha; subst ha; exact hb, hl, hx⟩
theorem Parts.of2b {w : World} {S : List Nat} {b : Nat} {x y : SlV} {l m : List B8} {t : TypeId} (h : Blk w b [x.v, y.v] t) (hb : b ∉ S) (hx : Bytes w x l) (ox : off S x) (hy : Bytes w y m) (oy : off S y) : Parts w S ⟨some ⟨b, 0, none⟩, 2, 2⟩ [l, m] :=
  Parts.ofs (ss := [x, y]) h hb rfl fun i z k hz hk => by
    match i with
    | 0 =>
      simp only [List.getElem?_cons_zero, Option.some.injEq] at hz hk
      subst hz hk; exact ⟨hx, ox⟩
    | 1 =>
      simp only [List.getElem?_cons_succ, List.getElem?_cons_zero, Option.some.injEq] at hz hk
      subst hz hk; exact ⟨hy, oy⟩
    | i + 2 => simp at hz
/-- a block, some of it frozen -/
def Fz (w : World) (b : Nat) (cs : List Value) (t : TypeId) : Prop := ∃ fr, w.heap[b]? = some (.cells ⟨cs⟩ t fr)
def Res.fz (b : Nat) (cs : List Value) (t : TypeId) : Res where
  fp := [b]
  ok w := Fz w b cs t
  stab w w' h k := by obtain ⟨fr, k⟩ := k; exact ⟨fr, (h b (by simp)).trans k⟩
  lt w h c hc := by
    simp only [List.mem_singleton] at hc; subst hc
    obtain ⟨fr, h⟩ := h
    exact (Array.getElem?_eq_some_iff.1 h).1
theorem Fz.cell {w : World} {b : Nat} {cs : List Value} {t : TypeId} (h : Fz w b cs t) (i : Nat) : w.cell? ⟨b, i, none⟩ = cs[i]? := by
  obtain ⟨fr, h⟩ := h; simp [World.cell?, h]
theorem Fz.sl {w : World} {b : Nat} {cs : List Value} {t : TypeId} (h : Fz w b cs t) (sz n c : Nat) (hn : n * sz ≤ cs.length) (hc : n ≤ c) : Sl w ⟨some ⟨b, 0, none⟩, n, c⟩ sz (cs.take (n * sz)) := by
  refine ⟨by simp only [List.length_take]; omega, hc, fun _ => rfl, fun i v hv => ?_⟩
  show w.cell? (Addr.add ⟨b, 0, none⟩ i) = some v
  rw [ad1, h.cell]
  rw [List.getElem?_take] at hv
  split at hv
  · exact hv
  · cases hv
theorem Mine.strish {P : Program} {w0 w : World} {S : List Nat} {L : List Res} (H : Mine w0 S w L) (k : Nat) {b : Nat} {cs : List Value} {t : TypeId} {K : World → Prop} (hk : L[k]? = some (.blk b cs t)) (h : ∀ w', Mine w0 S w' (L.set k (.fz b cs t)) → K w') : strishK P (some ⟨b, 0, none⟩) w K := by
  have hb := H.blk k hk
  have hs : w.shape? b = some (t, cs.length) := by unfold Blk at hb; simp [World.shape?, hb]
  refine ⟨w.freeze ⟨b, cs.length, none⟩ 1, by simp [markStringish, hs], h _ ?_⟩
  refine H.upd (T := [b]) k hk ⟨rfl, rfl, rfl, by simp [World.freeze], fun j _ hj => ?_⟩ (fun c hc => .inl hc) ⟨(cs.length, cs.length + 1), ?_⟩ (fun c hc => .inl hc)
  · have hj : ¬ b = j := fun e => hj (by simp [e])
    simp [World.freeze, Array.getElem?_modify, hj]
  · unfold Blk at hb
    simp [World.freeze, Array.getElem?_modify, hb]
/-- a part is read: its bytes as they lay at first -/
theorem Parts.ld0 {w0 w : World} {S : List Nat} {s : SlV} {ls : List (List B8)} (h : Parts w0 S s ls) (m : Mod S w0 w) {i : Nat} (hi : i < ls.length) {K : SlV → Prop} (hk : ∀ x, Bytes w0 x (ls.getD i []) → off S x → K x) :
    idxS s.a (i : Int) s.n (ldL (Addr.add (base s.a) (Int.toNat (i : Int) * 1)) w K) := by
  have hn := h.len
  obtain ⟨ss, h1, h2, h3, h4⟩ := h.ex
  have h1' := h1.mod m h2
  refine ⟨⟨h1.pre (by omega), by omega, by omega⟩, ss[i]'(by omega), ?_, ?_⟩
  · rw [Int.toNat_natCast, Nat.mul_one]
    exact h1'.cell i _ (by simp [show i < ss.length by omega, SlV.v])
  · have := h4 i (ss[i]'(by omega)) (ls.getD i []) (by simp [show i < ss.length by omega]) (by simp [hi])
    exact hk _ this.1 this.2
/-- one part alone -/
theorem Mine.only {w0 w : World} {S : List Nat} {L : List Res} (H : Mine w0 S w L) (k : Nat) {r : Res} (hk : L[k]? = some r) : Mine w0 S w [r] :=
  ⟨H.mod, fun j s hs => by
    match j with
    | 0 => simp at hs; subst hs; exact H.ok k _ hk
    | j + 1 => simp at hs, fun j s hs => by
    match j with
    | 0 => simp at hs; subst hs; exact H.own k _ hk
    | j + 1 => simp at hs, fun i j s t hij hs ht => by
    match i, j with
    | 0, 0 => exact absurd rfl hij
    | 0, j + 1 => simp at ht
    | i + 1, _ => simp at hs⟩
/-- two parts alone -/
theorem Mine.two {w0 w : World} {S : List Nat} {L : List Res} (H : Mine w0 S w L) (k l : Nat) {r s : Res} (hk : L[k]? = some r) (hl : L[l]? = some s) (hkl : k ≠ l) : Mine w0 S w [r, s] :=
  (H.only k hk).add (H.ok l _ hl) (H.own l _ hl) fun j u hj b hb => by
    match j with
    | 0 =>
      simp at hj; subst hj
      exact H.apart k l _ _ hkl hk hl b hb
    | j + 1 => simp at hj
/-- bytes of a block that a call made -/
theorem Mine.blkBytes {w0 w : World} {S : List Nat} {L : List Res} (H : Mine w0 S w L) (k : Nat) {b : Nat} {l : List B8} {t : TypeId} (hk : L[k]? = some (.blk b (u8s l) t)) : Bytes w ⟨some ⟨b, 0, none⟩, l.length, l.length⟩ l := by
  have := (H.blk k hk).sl 1 l.length l.length (by simp) (Nat.le_refl _)
  rw [Nat.mul_one, List.take_of_length_le (by simp)] at this
  exact this
/-- 'append(s, make([]T, m)...)' where there is room -/
theorem run_append_zeros {P : Program} (w : World) (t ti ty e : TypeId) (i : TypeInfo) (z : Value) {k : IntKind} (ht : P.underlying t = some (.slice e)) (hti : P.underlying ti = some (.int k)) (hi : P.info? e = some i) (hz : i.zero = some z)
    (g sLen sCap m : Nat) (cur : Array Value) (hg : w.heap[g]? = some (.cells cur e (0, 0))) (hs : i.size = 1) (v : Value) (hzc : z.cells = #[v]) (hv : v.oneCell' = true) (hm : m * i.bytes ≤ 281474976710656) (hm2 : m < 9223372036854775808)
    (hroom : sLen + m ≤ sCap) (hfit : sLen + m ≤ cur.size) :
    (Builtin.append_ #[t, ti] ty #[.slice (some ⟨g, 0, none⟩) sLen sCap, .int .i64 (m : Int)]).run P w =
      .ok (.slice (some ⟨g, 0, none⟩) (sLen + m) sCap) (w.setRow g (cur.toList.take sLen ++ List.replicate m v ++ cur.toList.drop (sLen + m)).toArray) := by
  have hwr : IntKind.wrap .i64 (m : Int) = (m : Int) := wrap_i64 (by omega) (by omega)
  have hle : ¬ ((m : Int) * (i.bytes : Int) > 2 ^ 48) := by
    have e1 : ((m : Int) * (i.bytes : Int)) = ((m * i.bytes : Nat) : Int) := by rw [Int.natCast_mul]
    rw [e1, show (2 : Int) ^ 48 = 281474976710656 by decide]
    omega
  have hle' : ¬ (281474976710656 < (m : Int) * (i.bytes : Int)) := fun h => hle (by rw [show (2 : Int) ^ 48 = 281474976710656 by decide]; exact h)
  have hzs : (Builtin.zeroCells z.cells m).toList = List.replicate m v := by
    unfold Builtin.zeroCells
    rw [hzc]
    refine List.ext_getElem (by simp) fun j h1 h2 => ?_
    simp [Nat.mod_one]
  have hst := run_storeCells_at (P := P) g (sLen * i.size) e (List.replicate m v) 0 cur w hg (by rw [hs, List.length_replicate]; omega) fun u hu => by rw [List.eq_of_mem_replicate hu]; exact hv
  simp only [Nat.add_zero, hs, Nat.mul_one, List.length_replicate] at hst
  rcases Nat.eq_zero_or_pos m with rfl | h0
  · have hset : (w.setRow g (cur.toList.take sLen ++ List.replicate 0 v ++ cur.toList.drop (sLen + 0)).toArray) = w := by
      have := setRow_self w g cur e (0, 0) hg
      simpa using this
    rw [hset]
    simp [Builtin.append_, run_underlying ht, run_underlying hti, Go.sizeOf, Go.typeInfo, hi, asInt, asIntOf, show sLen ≤ sCap by omega, storeCells, show IntKind.wrap .i64 0 = 0 by decide]
  · have hne : ¬ m * i.size = 0 := by rw [hs]; omega
    simp [Builtin.append_, run_underlying ht, run_underlying hti, Go.sizeOf, Go.typeInfo, hi, asInt, asIntOf, hwr, show ¬ ((m : Int) < 0) by omega, hle', hroom, hs, zeroValue, hz, hzs, Addr.add_lit, hst, show ¬ m = 0 by omega]
end Go.Ev
namespace Go.Proofs.YtdnhoebcomffoaaGreatDoor
open Go Go.Ev
set_option linter.unusedVariables false
theorem gives_ready {rate : Nat} {suf : B8} {gives : Bool} {s : List B64 × Nat} (h : if gives then Gives rate s else Fits rate s) : Gives rate (ready rate suf gives s) := by
  cases gives with
  | true => exact h
  | false => exact ⟨(length_flip _ _ _).trans ((length_flip _ _ _).trans h.1), Nat.le_refl _⟩
theorem small1 {parts : SlV} {l : List B8} (hn : parts.n = 1) (hl : l.length ≤ 1000000) : Small parts [l] := ⟨by omega, fun m hm => by rw [List.mem_singleton.1 hm]; omega⟩
theorem spOut_len (rate : Nat) (suf : B8) (l : List B8) (n : Nat) (h : n ≤ 1048576) : (spOut rate suf l (n : Int)).length = n := by
  unfold spOut
  split
  · rw [Int.toNat_natCast, length_refOut]
  · simp only [List.length_nil]; omega
theorem squeeze_add (rate : Nat) (s : List B64 × Nat) (m n : Nat) : squeeze rate s (m + n) = ((squeeze rate s m).1 ++ (squeeze rate (squeeze rate s m).2 n).1, (squeeze rate (squeeze rate s m).2 n).2) := by
  induction n with
  | zero => simp [squeeze, up_zero]
  | succ n ih =>
    rw [← Nat.add_assoc, squeeze_succ, ih, squeeze_succ]
    simp [outB, List.append_assoc]
/-- bytes go into a sponge that is a part of the call's own memory -/
theorem _root_.Go.Ev.Mine.swrite {w0 w : World} {S : List Nat} {L : List Res} (H : Mine w0 S w L) (k : Nat) {b rate : Nat} {s : List B64 × Nat} {suf : B8} (hk : L[k]? = some (spr b s.1 rate s.2 suf false)) (hr : rate ≤ 192) (hs : Fits rate s) {parts : SlV} {ls : List (List B8)}
    (hp : Parts w [b] parts ls) (hsmall : Small parts ls) {K : Value → World → Prop} (h : ∀ w', Mod [b] w w' → Mine w0 S w' (L.set k (spr b (absorb rate s ls.flatten).1 rate (absorb rate s ls.flatten).2 suf false)) → K .nilIface w') :
    callK Pr f_sponge_Sponge_Write [.pointer (some ⟨b, 0, none⟩), .slice parts.a parts.n parts.c] w K := by
  refine call_of (sponge_Write_ok hr hs b parts ls _ (H.blk k hk) hp hsmall) ?_
  rintro _ w1 ⟨rfl, h1, m1⟩
  exact h w1 m1 (H.upd k hk m1 (fun c hc => .inl hc) h1 (fun c hc => .inl hc))
theorem fits0 {rate : Nat} (h : 8 ≤ rate) : Fits rate ((z25, 0) : List B64 × Nat) := ⟨rfl, by show 0 < rate; omega⟩
/-- the sponge's state behind m bytes that came out -/
def gst (rate : Nat) (suf : B8) (s : List B64 × Nat) (m : Nat) : List B64 × Nat := if m = 0 then s else (squeeze rate (close rate suf s) m).2
def ggv (m : Nat) : Bool := decide (0 < m)
theorem ready_gst (rate : Nat) (suf : B8) (s : List B64 × Nat) (m : Nat) : ready rate suf (ggv m) (gst rate suf s m) = (squeeze rate (close rate suf s) m).2 := by
  unfold gst ggv ready
  rcases Nat.eq_zero_or_pos m with rfl | h
  · rfl
  · rw [if_pos (by simp; omega), if_neg (by omega)]
theorem gst_ok {rate : Nat} {suf : B8} {s : List B64 × Nat} (hr : 8 ≤ rate) (hs : Fits rate s) (m : Nat) : if ggv m = true then Gives rate (gst rate suf s m) else Fits rate (gst rate suf s m) := by
  unfold gst ggv
  rcases Nat.eq_zero_or_pos m with rfl | h
  · simpa using hs
  · rw [if_neg (show ¬ m = 0 by omega), if_pos (by simp [h])]
    exact (gives_ready (gives := false) hs).squeeze (by omega) m
theorem smallOf {parts : SlV} {ls : List (List B8)} (hn : parts.n < 1000000) (h : ∀ l ∈ ls, l.length ≤ 1000000) : Small parts ls := ⟨hn, fun l hl => by have := h l hl; omega⟩
theorem small2b {parts : SlV} {l m : List B8} (hn : parts.n = 2) (hl : l.length ≤ 1000000) (hm : m.length ≤ 1000000) : Small parts [l, m] := smallOf (by omega) fun k hk => by
  simp only [List.mem_cons, List.not_mem_nil, or_false] at hk
  rcases hk with rfl | rfl <;> omega
theorem wrap_u8_any (n : Int) : IntKind.wrap .u8 n = ((BitVec.ofInt 8 n).toNat : Int) := by
  rw [wrap_u8, BitVec.toNat_ofInt]
  omega
end Go.Proofs.YtdnhoebcomffoaaGreatDoor
end
section
set_option linter.unusedVariables false
set_option linter.unusedSimpArgs false
/- TEXTS AND BYTES: words of this claim's author. -/
namespace Go.Ev
open Go Go.RowKit
variable {P : Program}
def strOf (l : List B8) : ByteArray := ⟨(l.map UInt8.ofBitVec).toArray⟩
def bOf (s : ByteArray) : List B8 := s.data.toList.map UInt8.toBitVec
theorem bOf_strOf (l : List B8) : bOf (strOf l) = l := by
  unfold bOf strOf
  simp only [List.map_map]
  exact List.map_id' l
theorem strOf_bOf (s : ByteArray) : strOf (bOf s) = s := by
  unfold bOf strOf
  rw [List.map_map, show (UInt8.ofBitVec ∘ UInt8.toBitVec) = id from rfl, List.map_id]
theorem strOf_inj {l m : List B8} : strOf l = strOf m ↔ l = m := ⟨fun h => by rw [← bOf_strOf l, h, bOf_strOf], fun h => by rw [h]⟩
theorem length_bOf (s : ByteArray) : (bOf s).length = s.size := by unfold bOf; rw [List.length_map]; rfl
/-- 'string(b)' -/
theorem b2s_of {w : World} {x : SlV} {l : List B8} {K : ByteArray → World → Prop} (hx : Bytes w x l) (h : K (strOf l) w) : b2sK P x w K := by
  obtain ⟨xa, xn, xc⟩ := x
  have hl := hx.len
  dsimp only at hl
  cases xa with
  | none =>
    have h0 : xn = 0 := by
      rcases Nat.eq_zero_or_pos xn with e | e
      · exact e
      · cases Sl.pre hx e
    have hu : l = [] := List.eq_nil_of_length_eq_zero (by omega)
    subst hu
    exact ⟨_, w, rfl, _, rfl, h⟩
  | some a =>
    have hc := run_loadCells_list (P := P) w a ((l.map fun b => (b.toNat : Int)).map (Value.int .u8)) (fun j v hj => by
      refine Sl.cell hx j v ?_
      rw [← hj]
      congr 1
      simp [u8s, u8])
    simp only [List.length_map] at hc
    have hr := run_bytesToString (P := P) w a l.length xc _ hc
    rw [hl] at hr
    refine ⟨_, w, hr, _, rfl, ?_⟩
    have e : (l.map fun b => (b.toNat : Int)) = (l.map UInt8.ofBitVec).map (fun b => (b.toNat : Int)) := by
      rw [List.map_map]
      rfl
    rw [e, foldl_push_byteCells]
    have : (⟨ByteArray.empty.data ++ (l.map UInt8.ofBitVec).toArray⟩ : ByteArray) = strOf l := by
      unfold strOf
      congr 1
      exact Array.empty_append
    rw [this]
    exact h
theorem bytesRow_eq (s : ByteArray) (c : Nat) : (bytesRow s c).toList = u8s (bOf s ++ List.replicate (c - s.size) 0) := by
  unfold bytesRow bOf u8s
  simp only [Array.toList_append, Array.toList_map, Array.toList_replicate, List.map_append, List.map_map, List.map_replicate]
  rfl
end Go.Ev
namespace Go.Ev
open Go Go.RowKit
variable {P : Program}
/-- '[]byte(s)' -/
theorem Mine.s2b {w0 w : World} {S : List Nat} {L : List Res} (H : Mine w0 S w L) {tS tD e : TypeId} {s : ByteArray} {K : SlV → World → Prop} (hS : P.underlying tS = some .string) (hD : P.underlying tD = some (.slice e)) (he : P.underlying e = some (.int .u8))
    (h : ∀ b c zs w', Mine w0 S w' (L ++ [.fz b (u8s (bOf s ++ zs)) e]) → s.size ≤ c → c = s.size + zs.length → K ⟨some ⟨b, 0, none⟩, s.size, c⟩ w') : s2bK P e s w K := by
  have hr := run_bytes_of_string (P := P) w tS tD e s hS hD he
  have hr2 : (Conv.stringToBytes e s).run P w = .ok (.slice (some ⟨w.heap.size, 0, none⟩) s.size (grownCap w s.size 0 e)) (w.drew.alloc (.cells (bytesRow s (grownCap w s.size 0 e)) e ((bytesRow s (grownCap w s.size 0 e)).size, (bytesRow s (grownCap w s.size 0 e)).size + 1))) := by
    rw [← hr]
    simp [convert, run_underlying hS, run_underlying hD, run_underlying he]
  have hge := grownCap_ge w s.size 0 e
  refine ⟨_, _, hr2, ⟨some ⟨w.heap.size, 0, none⟩, s.size, grownCap w s.size 0 e⟩, rfl, h w.heap.size _ (List.replicate (grownCap w s.size 0 e - s.size) 0) _ ?_ hge (by rw [List.length_replicate]; omega)⟩
  refine H.push ((Mod.drew _ w).trans (Mod.alloc _ w.drew _)) ?_ (by simp [Res.fz])
  refine ⟨((bytesRow s (grownCap w s.size 0 e)).size, (bytesRow s (grownCap w s.size 0 e)).size + 1), ?_⟩
  have : (w.drew.alloc (.cells (bytesRow s (grownCap w s.size 0 e)) e ((bytesRow s (grownCap w s.size 0 e)).size, (bytesRow s (grownCap w s.size 0 e)).size + 1))).heap[w.heap.size]? = some (.cells (bytesRow s (grownCap w s.size 0 e)) e ((bytesRow s (grownCap w s.size 0 e)).size, (bytesRow s (grownCap w s.size 0 e)).size + 1)) := by
    show (w.heap.push _)[w.heap.size]? = _
    simp
  rw [this]
  congr 2
  rw [← bytesRow_eq]
theorem Fz.bytes {w : World} {b c : Nat} {s : ByteArray} {zs : List B8} {e : TypeId} (h : Fz w b (u8s (bOf s ++ zs)) e) (hc : s.size ≤ c) : Bytes w ⟨some ⟨b, 0, none⟩, s.size, c⟩ (bOf s) := by
  have := h.sl 1 s.size c (by simp [length_bOf]) hc
  rw [Nat.mul_one, u8s_append, List.take_append_of_le_length (by simp [length_bOf]), List.take_of_length_le (by simp [length_bOf])] at this
  exact this
end Go.Ev
end
section
set_option linter.unusedVariables false
set_option linter.unusedSimpArgs false
/- WHAT THE CODE OF EACH FUNCTION ASKS FOR, by a program of this claim's author (vc.py); each is held against the code by the kernel. -/
namespace Go.Proofs.YtdnhoebcomffoaaGreatDoor
open Go Go.Ev
set_option maxRecDepth 100000
set_option linter.unusedVariables false
def V_code_Bytes (b : SlV) (parts : SlV) (w : World) (R : Value → World → Prop) : Prop :=
 callK Pr f_slices_Clone_byte_byte [.slice b.a b.n b.c] w fun a c =>
 asSl a fun d =>
 loop2 (fun (e : SlV) (f : Int) => [(0, some (.slice e.a e.n e.c)), (11, some (.int .i64 f))])
 (fun g e f i => iteP (decide (f < (parts.n:Int)))
 (idxS parts.a f parts.n
 (ldL (Addr.add (base parts.a) (Int.toNat f * 1)) i fun j =>
 nw t_int [.int .i64 (j.n:Int)] i fun k l =>
 callK Pr f_code_Number [.slice e.a e.n e.c, .slice (some k) 1 1] l fun m n =>
 asSl m fun o =>
 appK Pr [t_s_uint8, t_s_uint8] t_s_uint8 [.slice o.a o.n o.c, .slice j.a j.n j.c] n fun p q =>
 (I64 (f + 1) ∧
 g p (f + 1) q)))
 (R (.slice e.a e.n e.c) i))
 d 0 c
theorem V_code_Bytes_of {b : SlV} {parts : SlV} {w : World} {R : Value → World → Prop} (h : V_code_Bytes b parts w R) : Ok Pr f_code_Bytes [.slice b.a b.n b.c, .slice parts.a parts.n parts.c] w R :=
 evF_ok (m := ⟨true, true⟩) (J := []) (L := [(3, [(0, .sl), (11, .int .i64)])]) good Tryz.func91 (by kernel_rfl) ((by kernel_rfl : evF Pr _ _ _ Tryz.f91 _ w R = V_code_Bytes b parts w R).mpr h)

def V_code_Text (b : SlV) (s : ByteArray) (w : World) (R : Value → World → Prop) : Prop :=
 s2bK Pr t_uint8 s w fun a c =>
 nw t_s_uint8 [.slice a.a a.n a.c] c fun d e =>
 callK Pr f_code_Bytes [.slice b.a b.n b.c, .slice (some d) 1 1] e fun f g =>
 asSl f fun i =>
 R (.slice i.a i.n i.c) g
theorem V_code_Text_of {b : SlV} {s : ByteArray} {w : World} {R : Value → World → Prop} (h : V_code_Text b s w R) : Ok Pr f_code_Text [.slice b.a b.n b.c, .string s] w R :=
 evF_ok (m := ⟨true, true⟩) (J := []) (L := []) good Tryz.func92 (by kernel_rfl) ((by kernel_rfl : evF Pr _ _ _ Tryz.f92 _ w R = V_code_Text b s w R).mpr h)

def V_code_Number (b : SlV) (ns : SlV) (w : World) (R : Value → World → Prop) : Prop :=
 callK Pr f_slices_Clone_byte_byte [.slice b.a b.n b.c] w fun a c =>
 asSl a fun d =>
 loop2 (fun (e : SlV) (f : Int) => [(0, some (.slice e.a e.n e.c)), (12, some (.int .i64 f))])
 (fun g e f i => iteP (decide (f < (ns.n:Int)))
 (idxS ns.a f ns.n
 (ldI .i64 (Addr.add (base ns.a) (Int.toNat f * 1)) i fun j =>
 loop2 (fun (k : SlV) (l : Int) => [(0, some (.slice k.a k.n k.c)), (7, some (.int .i64 l))])
 (fun m k l n => iteP (decide (0 ≤ l))
 (cnt l (nw t_uint8 [.int .u8 (IntKind.wrap .u8 (shr .u64 (IntKind.wrap .u64 (j)) l))] n fun o p =>
 appK Pr [t_s_uint8, t_s_uint8] t_s_uint8 [.slice k.a k.n k.c, .slice (some o) 1 1] p fun q s =>
 (I64 (l - 8) ∧
 m q (l - 8) s)))
 ((I64 (f + 1) ∧
 g k (f + 1) n)))
 e 56 i))
 (R (.slice e.a e.n e.c) i))
 d 0 c
theorem V_code_Number_of {b : SlV} {ns : SlV} {w : World} {R : Value → World → Prop} (h : V_code_Number b ns w R) : Ok Pr f_code_Number [.slice b.a b.n b.c, .slice ns.a ns.n ns.c] w R :=
 evF_ok (m := ⟨true, true⟩) (J := []) (L := [(3, [(0, .sl), (12, .int .i64)]), (6, [(0, .sl), (7, .int .i64)])]) good Tryz.func93 (by kernel_rfl) ((by kernel_rfl : evF Pr _ _ _ Tryz.f93 _ w R = V_code_Number b ns w R).mpr h)

def V_code_New (b : SlV) (w : World) (R : Value → World → Prop) : Prop :=
 callK Pr f_slices_Clone_byte_byte [.slice b.a b.n b.c] w fun a c =>
 asSl a fun d =>
 nw t_code_Reader [.slice d.a d.n d.c, .bool false] c fun e f =>
 R (.pointer (some e)) f
theorem V_code_New_of {b : SlV} {w : World} {R : Value → World → Prop} (h : V_code_New b w R) : Ok Pr f_code_New [.slice b.a b.n b.c] w R :=
 evF_ok (m := ⟨true, true⟩) (J := []) (L := []) good Tryz.func168 (by kernel_rfl) ((by kernel_rfl : evF Pr _ _ _ Tryz.f168 _ w R = V_code_New b w R).mpr h)

def V_code_Reader_Number (r : Option Addr) (lo : Int) (hi : Int) (w : World) (R : Value → World → Prop) : Prop :=
 callK Pr f_code_Reader_take [.pointer r, .int .i64 8] w fun a b =>
 asSl a fun c =>
 iteP (decide ((c.n:Int) = 0))
 (R (.int .i64 0) b)
 (loop2 (fun (d : Int) (e : Int) => [(8, some (.int .u64 d)), (19, some (.int .i64 e))])
 (fun f d e g => iteP (decide (e < (c.n:Int)))
 (idxS c.a e c.n
 (ldI .u8 (Addr.add (base c.a) (Int.toNat e * 1)) g fun i =>
 lt (A := Int) (orI .u64 (shl .u64 d 8) (IntKind.wrap .u64 (i))) fun j =>
 f j (IntKind.wrap .i64 (e + 1)) g))
 (iteP ((decide (IntKind.wrap .i64 (d) < lo)) || (decide (hi < IntKind.wrap .i64 (d))))
 (nilchk r fun k =>
 st (Addr.add k 1) (.bool true) g fun l =>
 R (.int .i64 0) l)
 (R (.int .i64 (IntKind.wrap .i64 (d))) g)))
 0 0 b)
theorem V_code_Reader_Number_of {r : Option Addr} {lo : Int} {hi : Int} {w : World} {R : Value → World → Prop} (h : V_code_Reader_Number r lo hi w R) : Ok Pr f_code_Reader_Number [.pointer r, .int .i64 lo, .int .i64 hi] w R :=
 evF_ok (m := ⟨false, true⟩) (J := []) (L := [(6, [(8, .int .u64), (19, .int .i64)])]) good Tryz.func170 (by kernel_rfl) ((by kernel_rfl : evF Pr _ _ _ Tryz.f170 _ w R = V_code_Reader_Number r lo hi w R).mpr h)

def V_code_Reader_Text (r : Option Addr) (most : Int) (w : World) (R : Value → World → Prop) : Prop :=
 callK Pr f_code_Reader_Bytes [.pointer r, .int .i64 most] w fun a b =>
 asSl a fun c =>
 b2sK Pr c b fun d e =>
 R (.string d) e
theorem V_code_Reader_Text_of {r : Option Addr} {most : Int} {w : World} {R : Value → World → Prop} (h : V_code_Reader_Text r most w R) : Ok Pr f_code_Reader_Text [.pointer r, .int .i64 most] w R :=
 evF_ok (m := ⟨true, true⟩) (J := []) (L := []) good Tryz.func171 (by kernel_rfl) ((by kernel_rfl : evF Pr _ _ _ Tryz.f171 _ w R = V_code_Reader_Text r most w R).mpr h)

def V_code_Reader_Bytes (r : Option Addr) (most : Int) (w : World) (R : Value → World → Prop) : Prop :=
 callK Pr f_code_Reader_Number [.pointer r, .int .i64 0, .int .i64 most] w fun a b =>
 asI .i64 a fun c =>
 callK Pr f_code_Reader_take [.pointer r, .int .i64 c] b fun d e =>
 asSl d fun f =>
 R (.slice f.a f.n f.c) e
theorem V_code_Reader_Bytes_of {r : Option Addr} {most : Int} {w : World} {R : Value → World → Prop} (h : V_code_Reader_Bytes r most w R) : Ok Pr f_code_Reader_Bytes [.pointer r, .int .i64 most] w R :=
 evF_ok (m := ⟨true, true⟩) (J := []) (L := []) good Tryz.func172 (by kernel_rfl) ((by kernel_rfl : evF Pr _ _ _ Tryz.f172 _ w R = V_code_Reader_Bytes r most w R).mpr h)

def V_code_Reader_End (r : Option Addr) (w : World) (R : Value → World → Prop) : Prop :=
 iteP (Option.isNone (α := Addr) r)
 (nw t_api_Fault [.int .i64 1, .string S_code] w fun a b =>
 R (.iface t_p_api_Fault (.pointer (some a))) b)
 (join1 (fun (c : Bool) => [(9, some (.bool c))])
 (fun c d => iteP c
 (nw t_api_Fault [.int .i64 4, .string S_code] d fun e f =>
 R (.iface t_p_api_Fault (.pointer (some e))) f)
 (R (.nilIface) d))
 (fun g =>
 nilchk r fun i =>
 ldB (Addr.add i 1) w fun j =>
 iteP j
 (g true w)
 (nilchk r fun k =>
 ldL (Addr.add k 0) w fun l =>
 g (decide (0 < (l.n:Int))) w)))
theorem V_code_Reader_End_of {r : Option Addr} {w : World} {R : Value → World → Prop} (h : V_code_Reader_End r w R) : Ok Pr f_code_Reader_End [.pointer r] w R :=
 evF_ok (m := ⟨true, true⟩) (J := [(4, [(9, .bool)])]) (L := []) good Tryz.func173 (by kernel_rfl) ((by kernel_rfl : evF Pr _ _ _ Tryz.f173 _ w R = V_code_Reader_End r w R).mpr h)

def V_code_Reader_take (r : Option Addr) (n : Int) (w : World) (R : Value → World → Prop) : Prop :=
 join0 []
 (fun a => nilchk r fun b =>
 ldL (Addr.add b 0) a fun c =>
 slHM c n n fun d =>
 nilchk r fun e =>
 ldL (Addr.add e 0) a fun f =>
 slL 1 f n fun g =>
 nilchk r fun i =>
 st (Addr.add i 0) (.slice g.a g.n g.c) a fun j =>
 R (.slice d.a d.n d.c) j)
 (fun k =>
 join1 (fun (l : Bool) => [(22, some (.bool l))])
 (fun l m => iteP l
 (iteP (!Option.isNone (α := Addr) r)
 (nilchk r fun o =>
 st (Addr.add o 1) (.bool true) m fun p =>
 R (.slice none 0 0) p)
 (R (.slice none 0 0) m))
 (k m))
 (fun q =>
 iteP (Option.isNone (α := Addr) r)
 (q true w)
 (nilchk r fun s =>
 ldB (Addr.add s 1) w fun t =>
 iteP t
 (q true w)
 (nilchk r fun u =>
 ldL (Addr.add u 0) w fun v =>
 q (decide ((v.n:Int) < n)) w))))
theorem V_code_Reader_take_of {r : Option Addr} {n : Int} {w : World} {R : Value → World → Prop} (h : V_code_Reader_take r n w R) : Ok Pr f_code_Reader_take [.pointer r, .int .i64 n] w R :=
 evF_ok (m := ⟨true, true⟩) (J := [(5, []), (2, [(22, .bool)])]) (L := []) good Tryz.func209 (by kernel_rfl) ((by kernel_rfl : evF Pr _ _ _ Tryz.f209 _ w R = V_code_Reader_take r n w R).mpr h)
end Go.Proofs.YtdnhoebcomffoaaGreatDoor
end
section
set_option linter.unusedVariables false
set_option linter.unusedSimpArgs false
/- NUMBERS AND BYTES, ONE WAY: what code's and the document's Number, Bytes, Text compute. -/
namespace Go.Proofs.YtdnhoebcomffoaaGreatDoor
open Go Go.Ev
set_option linter.unusedVariables false
theorem und_string : Pr.underlying t_string = some .string := by kernel_rfl
theorem und_bytes : Pr.underlying t_s_uint8 = some (.slice t_uint8) := by kernel_rfl
theorem und_u8 : Pr.underlying t_uint8 = some (.int .u8) := by kernel_rfl
theorem slices_Clone_byte_ok (x : SlV) (l : List B8) (hl : l.length ≤ 1000000000) (w : World) (hx : Bytes w x l) : Ok Pr f_slices_Clone_byte_byte [.slice x.a x.n x.c] w fun v w' => Gave w w' v l := by
  refine V_slices_Clone_byte_byte_of ?_
  unfold V_slices_Clone_byte_byte
  have hxl := hx.len
  refine ite_intro (fun h => ?_) (fun h => ?_)
  · have h0 : x.n = 0 := by
      rcases Nat.eq_zero_or_pos x.n with e | e
      · exact e
      · have := Sl.pre hx e
        cases ha : x.a with
        | none => rw [ha] at this; cases this
        | some a => rw [ha] at h; cases h
    obtain rfl : l = [] := List.eq_nil_of_length_eq_zero (by omega)
    exact ⟨⟨none, 0, 0⟩, rfl, Own.nil _ _ _ _, Mod.refl _ _⟩
  · refine (Mine.start w).nw fun p w1 H _ => ?_
    have H := H.asRow 0 1 0 0 rfl rfl (Nat.le_refl _) (by simp only [maxLen]; omega)
    refine H.app8 (s := ⟨some ⟨p, 0, none⟩, 0, 0⟩) (vs := []) 0 elt_u8 rfl (hx.mod0 H.mod) (by show 0 + x.n ≤ _; omega) fun y w2 H hy => ?_
    exact ⟨y, rfl, H.fresh0 0 rfl, H.mod⟩
/-- a number's eight bytes, the highest first -/
def be (n : Int) : List B8 := (List.range 8).map fun k => ((BitVec.ofInt 64 n : B64) >>> (56 - 8 * k)).setWidth 8
def bes (ns : List Int) : List B8 := (ns.map be).flatten
theorem length_be (n : Int) : (be n).length = 8 := by simp [be]
theorem length_bes (ns : List Int) : (bes ns).length = 8 * ns.length := by
  induction ns with
  | nil => rfl
  | cons a r ih =>
    show ((be a) ++ bes r).length = _
    rw [List.length_append, length_be, ih, List.length_cons]
    omega
theorem bes_append (a b : List Int) : bes (a ++ b) = bes a ++ bes b := by simp [bes]
theorem wrap_u64_any (n : Int) : IntKind.wrap .u64 n = ((BitVec.ofInt 64 n).toNat : Int) := by
  rw [wrap_u64, BitVec.toNat_ofInt]
  omega
theorem be_byte (n : Int) (k : Nat) (hk : k < 8) (s : Int) (hs : s = ((56 - 8 * k : Nat) : Int)) : IntKind.wrap .u8 (shr .u64 (IntKind.wrap .u64 n) s) = (((be n).getD k 0).toNat : Int) := by
  subst hs
  rw [wrap_u64_any, shr64, low8]
  simp [be, hk]
theorem code_Number_ok (x : SlV) (l : List B8) (y : SlV) (ns : List Int) (hl : l.length ≤ 1000000) (hn : ns.length ≤ 1000000) (w : World) (hx : Bytes w x l) (hy : Nums w y ns) :
    Ok Pr f_code_Number [.slice x.a x.n x.c, .slice y.a y.n y.c] w fun v w' => Gave w w' v (l ++ bes ns) := by
  refine V_code_Number_of ?_
  unfold V_code_Number
  have hyl := hy.len
  refine call_of (slices_Clone_byte_ok x l (by omega) w hx) ?_
  rintro _ w1 ⟨z, rfl, hz, m⟩
  have H := (Mine.start w).got m hz
  refine asSl_s (loop2_up 0 ns.length (fun i (b : SlV) w' => Mine w [] w' [.row t_uint8 1 b (u8s (l ++ bes (ns.take i)))]) rfl (by omega) (by simpa [bes] using H) ?_ ?_)
  · intro again i b w2 _ hi H hag
    refine ite_true (decide_eq_true (by omega)) ((hy.mod0 H.mod).ld hi rfl ?_)
    have hbs : bes (ns.take (i + 1)) = bes (ns.take i) ++ be (ns.getD i 0) := by rw [take_succ_getD _ _ hi 0, bes_append]; simp [bes]
    have hbl := length_bes (ns.take i)
    rw [List.length_take, Nat.min_eq_left (by omega)] at hbl
    rw [hbs] at hag
    generalize ns.getD i 0 = n at *
    have hnl := length_be n
    refine loop2_of (fun (b : SlV) (s : Int) w' => ∃ j : Nat, j ≤ 8 ∧ s = 56 - 8 * (j : Int) ∧ Mine w [] w' [.row t_uint8 1 b (u8s (l ++ bes (ns.take i) ++ (be n).take j))]) (fun _ s _ => (s + 8).toNat) ⟨0, by omega, by omega, by simpa using H⟩ ?_
    rintro again1 b s w3 ⟨j, hj, rfl, H⟩ hag1
    have hb := (H.bytes 0 rfl).len
    rw [List.length_append, List.length_append, List.length_take, Nat.min_eq_left (by omega)] at hb
    refine ite_intro (fun hc => ?_) (fun hc => ?_)
    · have hc := of_decide_eq_true hc
      refine cnt_of (by omega) (H.app8one 0 ((be n).getD j 0) elt_u8 rfl (be_byte n j (by omega) _ (by omega)) (by omega) fun b' w4 H _ => ⟨⟨by omega, by omega⟩, hag1 _ _ w4 ⟨j + 1, by omega, by omega, ?_⟩ (by omega)⟩)
      rw [take_succ_getD _ _ (by omega) 0, ← List.append_assoc]
      exact H
    · have hc := of_decide_eq_false hc
      rw [List.take_of_length_le (l := be n) (by omega), List.append_assoc] at H
      exact ⟨⟨by omega, by omega⟩, hag b w3 H⟩
  · intro again b w2 H
    rw [List.take_length] at H
    exact ite_false (decide_eq_false (by omega)) ⟨b, rfl, H.fresh0 0 rfl, H.mod⟩
/-- bytes, each with how many they are -/
def laid (p : List B8) : List B8 := be (p.length : Int) ++ p
def laids (ps : List (List B8)) : List B8 := (ps.map laid).flatten
theorem laids_append (a b : List (List B8)) : laids (a ++ b) = laids a ++ laids b := by simp [laids]
theorem length_laids_le : ∀ (ps : List (List B8)) (k : Nat), (∀ p ∈ ps, p.length ≤ k) → (laids ps).length ≤ ps.length * (k + 8)
  | [], _, _ => by simp [laids]
  | p :: r, k, h => by
    have h1 := length_laids_le r k fun q hq => h q (List.mem_cons_of_mem _ hq)
    have h2 := h p List.mem_cons_self
    show (laid p ++ laids r).length ≤ _
    rw [List.length_append, laid, List.length_append, length_be, List.length_cons, Nat.add_mul]
    omega
theorem bes_one (n : Int) : bes [n] = be n := by simp [bes]
theorem _root_.Go.Ev.Mine.blkNums {w0 w : World} {S : List Nat} {L : List Res} (H : Mine w0 S w L) (k : Nat) {b : Nat} {l : List Int} {t : TypeId} (hk : L[k]? = some (.blk b (i64s l) t)) : Nums w ⟨some ⟨b, 0, none⟩, l.length, l.length⟩ l := by
  have := (H.blk k hk).sl 1 l.length l.length (by simp) (Nat.le_refl _)
  rw [Nat.mul_one, List.take_of_length_le (by simp)] at this
  exact this
theorem code_Bytes_ok (x : SlV) (l : List B8) (y : SlV) (ps : List (List B8)) (hl : l.length ≤ 100000) (hn : ps.length ≤ 10) (hps : ∀ p ∈ ps, p.length ≤ 10000) (w : World) (hx : Bytes w x l) (hy : Parts w [] y ps) :
    Ok Pr f_code_Bytes [.slice x.a x.n x.c, .slice y.a y.n y.c] w fun v w' => Gave w w' v (l ++ laids ps) := by
  refine V_code_Bytes_of ?_
  unfold V_code_Bytes
  have hyl := hy.len
  refine call_of (slices_Clone_byte_ok x l (by omega) w hx) ?_
  rintro _ w1 ⟨z, rfl, hz, m⟩
  have H := (Mine.start w).got m hz
  refine asSl_s (loop2_up 0 ps.length (fun i (b : SlV) w' => Mine w [] w' [.row t_uint8 1 b (u8s (l ++ laids (ps.take i)))]) rfl (by omega) (by simpa [laids] using H) ?_ ?_)
  · intro again i b w2 _ hi H hag
    have hbl := length_laids_le (ps.take i) 10000 fun p hp => hps p (List.mem_of_mem_take hp)
    rw [List.length_take] at hbl
    have hbs : laids (ps.take (i + 1)) = laids (ps.take i) ++ laid (ps.getD i []) := by rw [take_succ_getD _ _ hi [], laids_append]; simp [laids]
    have hpl := hps (ps.getD i []) (by simp [hi])
    rw [hbs] at hag
    have hmin : min i ps.length * (10000 + 8) ≤ 10 * (10000 + 8) := Nat.mul_le_mul_right _ (by omega)
    refine ite_true (decide_eq_true (by omega)) (hy.ld0 H.mod hi fun u hu _ => H.nw fun p w3 H _ => ?_)
    have hul := hu.len
    generalize ps.getD i [] = pt at *
    have hbn := (H.bytes 0 rfl).len
    simp only [List.length_append] at hbn
    refine call_of (code_Number_ok b _ ⟨some ⟨p, 0, none⟩, 1, 1⟩ [((u.n : Nat) : Int)] (by rw [List.length_append]; omega) (by simp) _ (H.bytes 0 rfl) (H.blkNums 1 (l := [((u.n : Nat) : Int)]) rfl)) ?_
    rintro _ w4 ⟨q, rfl, hq, m4⟩
    have H := H.got m4 hq
    have hql := hq.bytes.len
    simp only [List.length_append, length_bes, List.length_cons, List.length_nil] at hql
    refine asSl_s (H.app8 2 elt_u8 rfl (hu.mod0 H.mod) (by omega) fun b' w5 H _ => ⟨⟨by omega, by omega⟩, hag b' w5 ?_⟩)
    have H := H.only 2 rfl
    rw [bes_one, ← hul, List.append_assoc, List.append_assoc] at H
    exact H
  · intro again b w2 H
    rw [List.take_length] at H
    exact ite_false (decide_eq_false (by omega)) ⟨b, rfl, H.fresh0 0 rfl, H.mod⟩
theorem code_Text_ok (x : SlV) (l : List B8) (s : ByteArray) (hl : l.length ≤ 100000) (hs : s.size ≤ 10000) (w : World) (hx : Bytes w x l) :
    Ok Pr f_code_Text [.slice x.a x.n x.c, .string s] w fun v w' => Gave w w' v (l ++ laid (bOf s)) := by
  refine V_code_Text_of ?_
  unfold V_code_Text
  refine (Mine.start w).s2b und_string und_bytes und_u8 fun b c zs w1 H hc _ => H.nw fun p w2 H _ => ?_
  have hb : Bytes w2 ⟨some ⟨b, 0, none⟩, s.size, c⟩ (bOf s) := Fz.bytes (H.get 0 rfl) hc
  refine call_of (code_Bytes_ok x l ⟨some ⟨p, 0, none⟩, 1, 1⟩ [bOf s] hl (by simp) (fun q hq => by rw [List.mem_singleton.1 hq, length_bOf]; exact hs) _ (hx.mod0 H.mod) (Parts.of1 (H.blk 1 rfl) (by simp) hb (off_nil _))) ?_
  rintro _ w3 ⟨y, rfl, hy, m3⟩
  have H := H.got m3 hy
  rw [show laids [bOf s] = laid (bOf s) by simp [laids]] at H
  exact asSl_s ⟨y, rfl, H.fresh0 2 rfl, H.mod⟩
/-! ### the document's -/
end Go.Proofs.YtdnhoebcomffoaaGreatDoor
end
section
set_option linter.unusedVariables false
set_option linter.unusedSimpArgs false
/- STRUCTS IN CELLS: how they are read and written: printed by a program of this claim's author (vc.py). -/
namespace Go.Ev
open Go Go.RowKit
set_option linter.unusedVariables false
theorem Mine.ldS {w0 w : World} {S : List Nat} {L : List Res} (H : Mine w0 S w L) (k : Nat) {b i : Nat} {a : Addr} {n : ByteArray} {cs : List Value} {t : TypeId} {K : ByteArray → Prop} (hk : L[k]? = some (.blk b cs t)) (ha : a = ⟨b, i, none⟩) (hv : cs[i]? = some (.string n)) (h : K n) : ldS a w K :=
  ⟨n, H.cell k hk ha hv, h⟩
end Go.Ev
namespace Go.Proofs.YtdnhoebcomffoaaGreatDoor
open Go Go.Ev
set_option linter.unusedVariables false
set_option linter.unusedSimpArgs false
@[reducible] def cs_api_Ask (c0 : Int) (c1 : Int) (c2 : Int) (c3 : Int) (c4 : Int) (c5 : Int) (c6 : Int) (c7 : Int) (c8 : Int) (c9 : Int) (c10 : Int) (c11 : ByteArray) (c12 : SlV) (c13 : SlV) : List Value := [.int .i64 c0, .int .i64 c1, .int .i64 c2, .int .i64 c3, .int .i64 c4, .int .i64 c5, .int .i64 c6, .int .i64 c7, .int .i64 c8, .int .i64 c9, .int .i64 c10, .string c11, .slice c12.a c12.n c12.c, .slice c13.a c13.n c13.c]
theorem ld_api_Ask_of {a : Addr} {w : World} {c0 : Int} {c1 : Int} {c2 : Int} {c3 : Int} {c4 : Int} {c5 : Int} {c6 : Int} {c7 : Int} {c8 : Int} {c9 : Int} {c10 : Int} {c11 : ByteArray} {c12 : SlV} {c13 : SlV} {K : Int → Int → Int → Int → Int → Int → Int → Int → Int → Int → Int → ByteArray → SlV → SlV → Prop} (h : ∀ (i : Nat) (v : Value), (cs_api_Ask c0 c1 c2 c3 c4 c5 c6 c7 c8 c9 c10 c11 c12 c13)[i]? = some v → w.cell? (Addr.add a i) = some v) (hK : K c0 c1 c2 c3 c4 c5 c6 c7 c8 c9 c10 c11 c12 c13) : ld_api_Ask a w K :=
  ⟨_, h 0 _ rfl, ⟨_, h 1 _ rfl, ⟨_, h 2 _ rfl, ⟨_, h 3 _ rfl, ⟨_, h 4 _ rfl, ⟨_, h 5 _ rfl, ⟨_, h 6 _ rfl, ⟨_, h 7 _ rfl, ⟨_, h 8 _ rfl, ⟨_, h 9 _ rfl, ⟨_, h 10 _ rfl, ⟨_, h 11 _ rfl, ⟨c12, h 12 _ rfl, ⟨c13, h 13 _ rfl, hK⟩⟩⟩⟩⟩⟩⟩⟩⟩⟩⟩⟩⟩⟩
theorem _root_.Go.Ev.Mine.ld_api_Ask {w0 w : World} {S : List Nat} {L : List Res} (H : Mine w0 S w L) (k : Nat) {b : Nat} {t : TypeId} {c0 : Int} {c1 : Int} {c2 : Int} {c3 : Int} {c4 : Int} {c5 : Int} {c6 : Int} {c7 : Int} {c8 : Int} {c9 : Int} {c10 : Int} {c11 : ByteArray} {c12 : SlV} {c13 : SlV} {K : Int → Int → Int → Int → Int → Int → Int → Int → Int → Int → Int → ByteArray → SlV → SlV → Prop} (hk : L[k]? = some (.blk b (cs_api_Ask c0 c1 c2 c3 c4 c5 c6 c7 c8 c9 c10 c11 c12 c13) t)) (hK : K c0 c1 c2 c3 c4 c5 c6 c7 c8 c9 c10 c11 c12 c13) : ld_api_Ask ⟨b, 0, none⟩ w K :=
  ld_api_Ask_of (fun i v hv => H.cell k hk (ad1 b i) hv) hK
theorem _root_.Go.Ev.Mine.sT_api_Ask {w0 w : World} {S : List Nat} {L : List Res} (H : Mine w0 S w L) (k : Nat) {b : Nat} {t : TypeId} {cs : List Value} {c0 : Int} {c1 : Int} {c2 : Int} {c3 : Int} {c4 : Int} {c5 : Int} {c6 : Int} {c7 : Int} {c8 : Int} {c9 : Int} {c10 : Int} {c11 : ByteArray} {c12 : SlV} {c13 : SlV} {K : World → Prop} (hk : L[k]? = some (.blk b cs t)) (hl : cs.length = 14) (h : ∀ w', Mine w0 S w' (L.set k (.blk b (cs_api_Ask c0 c1 c2 c3 c4 c5 c6 c7 c8 c9 c10 c11 c12 c13) t)) → K w') : sT_api_Ask ⟨b, 0, none⟩ c0 c1 c2 c3 c4 c5 c6 c7 c8 c9 c10 c11 c12 c13 w K := by
  have hkl : k < L.length := (List.getElem?_eq_some_iff.1 hk).1
  obtain ⟨u0, u1, u2, u3, u4, u5, u6, u7, u8, u9, u10, u11, u12, u13, rfl⟩ : ∃ u0 u1 u2 u3 u4 u5 u6 u7 u8 u9 u10 u11 u12 u13, cs = [u0, u1, u2, u3, u4, u5, u6, u7, u8, u9, u10, u11, u12, u13] := by
    match cs, hl with
    | [u0, u1, u2, u3, u4, u5, u6, u7, u8, u9, u10, u11, u12, u13], _ => exact ⟨u0, u1, u2, u3, u4, u5, u6, u7, u8, u9, u10, u11, u12, u13, rfl⟩
  refine H.st k hk (ad1 b 0) (by simp) rfl fun w0 H0 => ?_
  simp only [List.set_set, List.set_cons_zero, List.set_cons_succ] at H0
  refine H0.st k (List.getElem?_set_self hkl) (ad1 b 1) (by simp) rfl fun w1 H1 => ?_
  simp only [List.set_set, List.set_cons_zero, List.set_cons_succ] at H1
  refine H1.st k (List.getElem?_set_self hkl) (ad1 b 2) (by simp) rfl fun w2 H2 => ?_
  simp only [List.set_set, List.set_cons_zero, List.set_cons_succ] at H2
  refine H2.st k (List.getElem?_set_self hkl) (ad1 b 3) (by simp) rfl fun w3 H3 => ?_
  simp only [List.set_set, List.set_cons_zero, List.set_cons_succ] at H3
  refine H3.st k (List.getElem?_set_self hkl) (ad1 b 4) (by simp) rfl fun w4 H4 => ?_
  simp only [List.set_set, List.set_cons_zero, List.set_cons_succ] at H4
  refine H4.st k (List.getElem?_set_self hkl) (ad1 b 5) (by simp) rfl fun w5 H5 => ?_
  simp only [List.set_set, List.set_cons_zero, List.set_cons_succ] at H5
  refine H5.st k (List.getElem?_set_self hkl) (ad1 b 6) (by simp) rfl fun w6 H6 => ?_
  simp only [List.set_set, List.set_cons_zero, List.set_cons_succ] at H6
  refine H6.st k (List.getElem?_set_self hkl) (ad1 b 7) (by simp) rfl fun w7 H7 => ?_
  simp only [List.set_set, List.set_cons_zero, List.set_cons_succ] at H7
  refine H7.st k (List.getElem?_set_self hkl) (ad1 b 8) (by simp) rfl fun w8 H8 => ?_
  simp only [List.set_set, List.set_cons_zero, List.set_cons_succ] at H8
  refine H8.st k (List.getElem?_set_self hkl) (ad1 b 9) (by simp) rfl fun w9 H9 => ?_
  simp only [List.set_set, List.set_cons_zero, List.set_cons_succ] at H9
  refine H9.st k (List.getElem?_set_self hkl) (ad1 b 10) (by simp) rfl fun w10 H10 => ?_
  simp only [List.set_set, List.set_cons_zero, List.set_cons_succ] at H10
  refine H10.st k (List.getElem?_set_self hkl) (ad1 b 11) (by simp) rfl fun w11 H11 => ?_
  simp only [List.set_set, List.set_cons_zero, List.set_cons_succ] at H11
  refine H11.st k (List.getElem?_set_self hkl) (ad1 b 12) (by simp) rfl fun w12 H12 => ?_
  simp only [List.set_set, List.set_cons_zero, List.set_cons_succ] at H12
  refine H12.st k (List.getElem?_set_self hkl) (ad1 b 13) (by simp) rfl fun w13 H13 => ?_
  simp only [List.set_set, List.set_cons_zero, List.set_cons_succ] at H13
  exact h _ H13
theorem as_api_Ask_of {c0 : Int} {c1 : Int} {c2 : Int} {c3 : Int} {c4 : Int} {c5 : Int} {c6 : Int} {c7 : Int} {c8 : Int} {c9 : Int} {c10 : Int} {c11 : ByteArray} {c12 : SlV} {c13 : SlV} {K : Int → Int → Int → Int → Int → Int → Int → Int → Int → Int → Int → ByteArray → SlV → SlV → Prop} (hK : K c0 c1 c2 c3 c4 c5 c6 c7 c8 c9 c10 c11 c12 c13) : as_api_Ask (.agg ⟨cs_api_Ask c0 c1 c2 c3 c4 c5 c6 c7 c8 c9 c10 c11 c12 c13⟩) K :=
  ⟨_, rfl, c0, rfl, c1, rfl, c2, rfl, c3, rfl, c4, rfl, c5, rfl, c6, rfl, c7, rfl, c8, rfl, c9, rfl, c10, rfl, c11, rfl, c12, rfl, c13, rfl, rfl, hK⟩
@[reducible] def cs_lay_Set (c0 : Int) (c1 : Int) (c2 : Int) (c3 : Int) (c4 : Int) (c5 : Int) (c6 : Int) (c7 : Int) (c8 : Int) : List Value := [.int .i64 c0, .int .i64 c1, .int .i64 c2, .int .i64 c3, .int .i64 c4, .int .i64 c5, .int .i64 c6, .int .i64 c7, .int .i64 c8]
theorem ld_lay_Set_of {a : Addr} {w : World} {c0 : Int} {c1 : Int} {c2 : Int} {c3 : Int} {c4 : Int} {c5 : Int} {c6 : Int} {c7 : Int} {c8 : Int} {K : Int → Int → Int → Int → Int → Int → Int → Int → Int → Prop} (h : ∀ (i : Nat) (v : Value), (cs_lay_Set c0 c1 c2 c3 c4 c5 c6 c7 c8)[i]? = some v → w.cell? (Addr.add a i) = some v) (hK : K c0 c1 c2 c3 c4 c5 c6 c7 c8) : ld_lay_Set a w K :=
  ⟨_, h 0 _ rfl, ⟨_, h 1 _ rfl, ⟨_, h 2 _ rfl, ⟨_, h 3 _ rfl, ⟨_, h 4 _ rfl, ⟨_, h 5 _ rfl, ⟨_, h 6 _ rfl, ⟨_, h 7 _ rfl, ⟨_, h 8 _ rfl, hK⟩⟩⟩⟩⟩⟩⟩⟩⟩
theorem _root_.Go.Ev.Mine.ld_lay_Set {w0 w : World} {S : List Nat} {L : List Res} (H : Mine w0 S w L) (k : Nat) {b : Nat} {t : TypeId} {c0 : Int} {c1 : Int} {c2 : Int} {c3 : Int} {c4 : Int} {c5 : Int} {c6 : Int} {c7 : Int} {c8 : Int} {K : Int → Int → Int → Int → Int → Int → Int → Int → Int → Prop} (hk : L[k]? = some (.blk b (cs_lay_Set c0 c1 c2 c3 c4 c5 c6 c7 c8) t)) (hK : K c0 c1 c2 c3 c4 c5 c6 c7 c8) : ld_lay_Set ⟨b, 0, none⟩ w K :=
  ld_lay_Set_of (fun i v hv => H.cell k hk (ad1 b i) hv) hK
theorem _root_.Go.Ev.Mine.sT_lay_Set {w0 w : World} {S : List Nat} {L : List Res} (H : Mine w0 S w L) (k : Nat) {b : Nat} {t : TypeId} {cs : List Value} {c0 : Int} {c1 : Int} {c2 : Int} {c3 : Int} {c4 : Int} {c5 : Int} {c6 : Int} {c7 : Int} {c8 : Int} {K : World → Prop} (hk : L[k]? = some (.blk b cs t)) (hl : cs.length = 9) (h : ∀ w', Mine w0 S w' (L.set k (.blk b (cs_lay_Set c0 c1 c2 c3 c4 c5 c6 c7 c8) t)) → K w') : sT_lay_Set ⟨b, 0, none⟩ c0 c1 c2 c3 c4 c5 c6 c7 c8 w K := by
  have hkl : k < L.length := (List.getElem?_eq_some_iff.1 hk).1
  obtain ⟨u0, u1, u2, u3, u4, u5, u6, u7, u8, rfl⟩ : ∃ u0 u1 u2 u3 u4 u5 u6 u7 u8, cs = [u0, u1, u2, u3, u4, u5, u6, u7, u8] := by
    match cs, hl with
    | [u0, u1, u2, u3, u4, u5, u6, u7, u8], _ => exact ⟨u0, u1, u2, u3, u4, u5, u6, u7, u8, rfl⟩
  refine H.st k hk (ad1 b 0) (by simp) rfl fun w0 H0 => ?_
  simp only [List.set_set, List.set_cons_zero, List.set_cons_succ] at H0
  refine H0.st k (List.getElem?_set_self hkl) (ad1 b 1) (by simp) rfl fun w1 H1 => ?_
  simp only [List.set_set, List.set_cons_zero, List.set_cons_succ] at H1
  refine H1.st k (List.getElem?_set_self hkl) (ad1 b 2) (by simp) rfl fun w2 H2 => ?_
  simp only [List.set_set, List.set_cons_zero, List.set_cons_succ] at H2
  refine H2.st k (List.getElem?_set_self hkl) (ad1 b 3) (by simp) rfl fun w3 H3 => ?_
  simp only [List.set_set, List.set_cons_zero, List.set_cons_succ] at H3
  refine H3.st k (List.getElem?_set_self hkl) (ad1 b 4) (by simp) rfl fun w4 H4 => ?_
  simp only [List.set_set, List.set_cons_zero, List.set_cons_succ] at H4
  refine H4.st k (List.getElem?_set_self hkl) (ad1 b 5) (by simp) rfl fun w5 H5 => ?_
  simp only [List.set_set, List.set_cons_zero, List.set_cons_succ] at H5
  refine H5.st k (List.getElem?_set_self hkl) (ad1 b 6) (by simp) rfl fun w6 H6 => ?_
  simp only [List.set_set, List.set_cons_zero, List.set_cons_succ] at H6
  refine H6.st k (List.getElem?_set_self hkl) (ad1 b 7) (by simp) rfl fun w7 H7 => ?_
  simp only [List.set_set, List.set_cons_zero, List.set_cons_succ] at H7
  refine H7.st k (List.getElem?_set_self hkl) (ad1 b 8) (by simp) rfl fun w8 H8 => ?_
  simp only [List.set_set, List.set_cons_zero, List.set_cons_succ] at H8
  exact h _ H8
theorem as_lay_Set_of {c0 : Int} {c1 : Int} {c2 : Int} {c3 : Int} {c4 : Int} {c5 : Int} {c6 : Int} {c7 : Int} {c8 : Int} {K : Int → Int → Int → Int → Int → Int → Int → Int → Int → Prop} (hK : K c0 c1 c2 c3 c4 c5 c6 c7 c8) : as_lay_Set (.agg ⟨cs_lay_Set c0 c1 c2 c3 c4 c5 c6 c7 c8⟩) K :=
  ⟨_, rfl, c0, rfl, c1, rfl, c2, rfl, c3, rfl, c4, rfl, c5, rfl, c6, rfl, c7, rfl, c8, rfl, rfl, hK⟩
@[reducible] def cs_sign_secret (c0 : SlV) (c1 : SlV) (c2 : SlV) (c3 : SlV) (c4 : SlV) (c5 : SlV) : List Value := [.slice c0.a c0.n c0.c, .slice c1.a c1.n c1.c, .slice c2.a c2.n c2.c, .slice c3.a c3.n c3.c, .slice c4.a c4.n c4.c, .slice c5.a c5.n c5.c]
theorem ld_sign_secret_of {a : Addr} {w : World} {c0 : SlV} {c1 : SlV} {c2 : SlV} {c3 : SlV} {c4 : SlV} {c5 : SlV} {K : SlV → SlV → SlV → SlV → SlV → SlV → Prop} (h : ∀ (i : Nat) (v : Value), (cs_sign_secret c0 c1 c2 c3 c4 c5)[i]? = some v → w.cell? (Addr.add a i) = some v) (hK : K c0 c1 c2 c3 c4 c5) : ld_sign_secret a w K :=
  ⟨c0, h 0 _ rfl, ⟨c1, h 1 _ rfl, ⟨c2, h 2 _ rfl, ⟨c3, h 3 _ rfl, ⟨c4, h 4 _ rfl, ⟨c5, h 5 _ rfl, hK⟩⟩⟩⟩⟩⟩
theorem _root_.Go.Ev.Mine.ld_sign_secret {w0 w : World} {S : List Nat} {L : List Res} (H : Mine w0 S w L) (k : Nat) {b : Nat} {t : TypeId} {c0 : SlV} {c1 : SlV} {c2 : SlV} {c3 : SlV} {c4 : SlV} {c5 : SlV} {K : SlV → SlV → SlV → SlV → SlV → SlV → Prop} (hk : L[k]? = some (.blk b (cs_sign_secret c0 c1 c2 c3 c4 c5) t)) (hK : K c0 c1 c2 c3 c4 c5) : ld_sign_secret ⟨b, 0, none⟩ w K :=
  ld_sign_secret_of (fun i v hv => H.cell k hk (ad1 b i) hv) hK
theorem _root_.Go.Ev.Mine.sT_sign_secret {w0 w : World} {S : List Nat} {L : List Res} (H : Mine w0 S w L) (k : Nat) {b : Nat} {t : TypeId} {cs : List Value} {c0 : SlV} {c1 : SlV} {c2 : SlV} {c3 : SlV} {c4 : SlV} {c5 : SlV} {K : World → Prop} (hk : L[k]? = some (.blk b cs t)) (hl : cs.length = 6) (h : ∀ w', Mine w0 S w' (L.set k (.blk b (cs_sign_secret c0 c1 c2 c3 c4 c5) t)) → K w') : sT_sign_secret ⟨b, 0, none⟩ c0 c1 c2 c3 c4 c5 w K := by
  have hkl : k < L.length := (List.getElem?_eq_some_iff.1 hk).1
  obtain ⟨u0, u1, u2, u3, u4, u5, rfl⟩ : ∃ u0 u1 u2 u3 u4 u5, cs = [u0, u1, u2, u3, u4, u5] := by
    match cs, hl with
    | [u0, u1, u2, u3, u4, u5], _ => exact ⟨u0, u1, u2, u3, u4, u5, rfl⟩
  refine H.st k hk (ad1 b 0) (by simp) rfl fun w0 H0 => ?_
  simp only [List.set_set, List.set_cons_zero, List.set_cons_succ] at H0
  refine H0.st k (List.getElem?_set_self hkl) (ad1 b 1) (by simp) rfl fun w1 H1 => ?_
  simp only [List.set_set, List.set_cons_zero, List.set_cons_succ] at H1
  refine H1.st k (List.getElem?_set_self hkl) (ad1 b 2) (by simp) rfl fun w2 H2 => ?_
  simp only [List.set_set, List.set_cons_zero, List.set_cons_succ] at H2
  refine H2.st k (List.getElem?_set_self hkl) (ad1 b 3) (by simp) rfl fun w3 H3 => ?_
  simp only [List.set_set, List.set_cons_zero, List.set_cons_succ] at H3
  refine H3.st k (List.getElem?_set_self hkl) (ad1 b 4) (by simp) rfl fun w4 H4 => ?_
  simp only [List.set_set, List.set_cons_zero, List.set_cons_succ] at H4
  refine H4.st k (List.getElem?_set_self hkl) (ad1 b 5) (by simp) rfl fun w5 H5 => ?_
  simp only [List.set_set, List.set_cons_zero, List.set_cons_succ] at H5
  exact h _ H5
theorem as_sign_secret_of {c0 : SlV} {c1 : SlV} {c2 : SlV} {c3 : SlV} {c4 : SlV} {c5 : SlV} {K : SlV → SlV → SlV → SlV → SlV → SlV → Prop} (hK : K c0 c1 c2 c3 c4 c5) : as_sign_secret (.agg ⟨cs_sign_secret c0 c1 c2 c3 c4 c5⟩) K :=
  ⟨_, rfl, c0, rfl, c1, rfl, c2, rfl, c3, rfl, c4, rfl, c5, rfl, rfl, hK⟩
end Go.Proofs.YtdnhoebcomffoaaGreatDoor
end
