/- Texts of this claim, packed and shortened. -/
import Derived.KernelRfl
import Derived.Laws.StructEq
import Derived.Test.YtpchgbolambkcaaGreatDoorQ1
import Derived.Test.YtpchgbolambkcaaGreatDoorQ2
section
set_option linter.unusedVariables false
set_option linter.unusedSimpArgs false
namespace Go.Proofs.YtpchgbolambkcaaGreatDoor
open Go Go.Ev
set_option maxRecDepth 100000
set_option linter.unusedVariables false
def OK (b parts:ah) (w:World) (R:Value→World→Prop):Prop:=
 cS Pr [bp,bp] bp [.slice none 0 0,.slice b.a b.n b.c] w fun a c=>
 ko (fun (d:ah) (e:Int)=>[(5,some (.slice d.a d.n d.c)),(6,some (.int .i64 e))])
 (fun f d e g=>az (decide (e<(parts.n:Int)))
 (aZ parts.a e parts.n
 (ay (Addr.add (base parts.a) (Int.toNat e * 1)) (World.drew g) fun i=>
 aZ parts.a e parts.n
 (ay (Addr.add (base parts.a) (Int.toNat e * 1)) (World.drew g) fun j=>
 nw bn [.int .i64 (i.n:Int)] (World.drew g) fun k l=>
 (kept (Addr.add (base parts.a) (Int.toNat e * 1)) 1 (World.drew g) l∧
 ax Pr BY [.slice d.a d.n d.c,.slice (some k) 1 1] l fun m n=>
 aK m fun o=>
 (kept (Addr.add (base parts.a) (Int.toNat e * 1)) 1 l n∧
 cS Pr [bp,bp] bp [.slice o.a o.n o.c,.slice j.a j.n j.c] n fun p q=>
 (aH (e+1)∧
 f p (e+1) q))))))
 (R (.slice d.a d.n d.c) g))
 a 0 c
theorem afJ {b parts:ah} {w:World} {R:Value→World→Prop} (h:OK b parts w R):Ok Pr zY [.slice b.a b.n b.c,.slice parts.a parts.n parts.c] w R:=
 aP (m:=⟨true,true⟩) (J:=[]) (L:=[(3,[(5,.sl),(6,.int .i64)])]) aN Tryz.func12 (by kernel_rfl) ((by kernel_rfl:aO Pr _ _ _ Tryz.f12 _ w R=OK b parts w R).mpr h)
def OL (b ns:ah) (w:World) (R:Value→World→Prop):Prop:=
 ax Pr sY [.slice b.a b.n b.c] w fun a c=>
 aK a fun d=>
 ko (fun (e:ah) (f:Int)=>[(0,some (.slice e.a e.n e.c)),(12,some (.int .i64 f))])
 (fun g e f i=>az (decide (f<(ns.n:Int)))
 (aZ ns.a f ns.n
 (au .i64 (Addr.add (base ns.a) (Int.toNat f * 1)) i fun j=>
 ko (fun (k:ah) (l:Int)=>[(0,some (.slice k.a k.n k.c)),(7,some (.int .i64 l))])
 (fun m k l n=>az (decide (0≤l))
 (lD l (nw aM [.int .u8 (IntKind.wrap .u8 (shr .u64 (IntKind.wrap .u64 (j)) l))] n fun o p=>
 cS Pr [bp,bp] bp [.slice k.a k.n k.c,.slice (some o) 1 1] p fun q s=>
 (aH (l - 8)∧
 m q (l - 8) s)))
 ((aH (f+1)∧
 g k (f+1) n)))
 e 56 i))
 (R (.slice e.a e.n e.c) i))
 d 0 c
theorem afK {b ns:ah} {w:World} {R:Value→World→Prop} (h:OL b ns w R):Ok Pr cW [.slice b.a b.n b.c,.slice ns.a ns.n ns.c] w R:=
 aP (m:=⟨true,true⟩) (J:=[]) (L:=[(3,[(0,.sl),(12,.int .i64)]),(6,[(0,.sl),(7,.int .i64)])]) aN Tryz.func36 (by kernel_rfl) ((by kernel_rfl:aO Pr _ _ _ Tryz.f36 _ w R=OL b ns w R).mpr h)
def PB (b parts:ah) (w:World) (R:Value→World→Prop):Prop:=
 ax Pr sY [.slice b.a b.n b.c] w fun a c=>
 aK a fun d=>
 ko (fun (e:ah) (f:Int)=>[(0,some (.slice e.a e.n e.c)),(11,some (.int .i64 f))])
 (fun g e f i=>az (decide (f<(parts.n:Int)))
 (aZ parts.a f parts.n
 (ay (Addr.add (base parts.a) (Int.toNat f * 1)) i fun j=>
 nw bn [.int .i64 (j.n:Int)] i fun k l=>
 ax Pr cW [.slice e.a e.n e.c,.slice (some k) 1 1] l fun m n=>
 aK m fun o=>
 cS Pr [bp,bp] bp [.slice o.a o.n o.c,.slice j.a j.n j.c] n fun p q=>
 (aH (f+1)∧
 g p (f+1) q)))
 (R (.slice e.a e.n e.c) i))
 d 0 c
theorem agu {b parts:ah} {w:World} {R:Value→World→Prop} (h:PB b parts w R):Ok Pr fV [.slice b.a b.n b.c,.slice parts.a parts.n parts.c] w R:=
 aP (m:=⟨true,true⟩) (J:=[]) (L:=[(3,[(0,.sl),(11,.int .i64)])]) aN Tryz.func37 (by kernel_rfl) ((by kernel_rfl:aO Pr _ _ _ Tryz.f37 _ w R=PB b parts w R).mpr h)
def Qt (b:ah) (s:ByteArray) (w:World) (R:Value→World→Prop):Prop:=
 Tw Pr aM s w fun a c=>
 nw bp [.slice a.a a.n a.c] c fun d e=>
 ax Pr fV [.slice b.a b.n b.c,.slice (some d) 1 1] e fun f g=>
 aK f fun i=>
 R (.slice i.a i.n i.c) g
theorem ag2 {b:ah} {s:ByteArray} {w:World} {R:Value→World→Prop} (h:Qt b s w R):Ok Pr Cq [.slice b.a b.n b.c,.string s] w R:=
 aP (m:=⟨true,true⟩) (J:=[]) (L:=[]) aN Tryz.func38 (by kernel_rfl) ((by kernel_rfl:aO Pr _ _ _ Tryz.f38 _ w R=Qt b s w R).mpr h)
def N3 (b ns:ah) (w:World) (R:Value→World→Prop):Prop:=
 cS Pr [bp,bp] bp [.slice none 0 0,.slice b.a b.n b.c] w fun a c=>
 ko (fun (d:ah) (e:Int)=>[(5,some (.slice d.a d.n d.c)),(6,some (.int .i64 e))])
 (fun f d e g=>az (decide (e<(ns.n:Int)))
 (ko (fun (i:ah) (j:Int)=>[(5,some (.slice i.a i.n i.c)),(7,some (.int .i64 j))])
 (fun k i j l=>az (decide (0≤j))
 (aZ ns.a e ns.n
 (au .i64 (Addr.add (base ns.a) (Int.toNat e * 1)) l fun m=>
 (aH (8 * j)∧
 lD (8 * j) (nw aM [.int .u8 (IntKind.wrap .u8 (shr .u64 (IntKind.wrap .u64 (m)) (8 * j)))] l fun n o=>
 cS Pr [bp,bp] bp [.slice i.a i.n i.c,.slice (some n) 1 1] o fun p q=>
 (aH (j - 1)∧
 k p (j - 1) q)))))
 ((aH (e+1)∧
 f i (e+1) l)))
 d 7 g)
 (R (.slice d.a d.n d.c) g))
 a 0 c
theorem afs {b ns:ah} {w:World} {R:Value→World→Prop} (h:N3 b ns w R):Ok Pr BY [.slice b.a b.n b.c,.slice ns.a ns.n ns.c] w R:=
 aP (m:=⟨true,true⟩) (J:=[]) (L:=[(3,[(5,.sl),(6,.int .i64)]),(6,[(5,.sl),(7,.int .i64)])]) aN Tryz.func39 (by kernel_rfl) ((by kernel_rfl:aO Pr _ _ _ Tryz.f39 _ w R=N3 b ns w R).mpr h)
def PC (b:ah) (s:ByteArray) (w:World) (R:Value→World→Prop):Prop:=
 nw bn [.int .i64 ((ByteArray.size s:Nat):Int)] w fun a c=>
 ax Pr BY [.slice b.a b.n b.c,.slice (some a) 1 1] c fun d e=>
 aK d fun f=>
 cS Pr [bp,so] bp [.slice f.a f.n f.c,.string s] e fun g i=>
 R (.slice g.a g.n g.c) i
theorem agv {b:ah} {s:ByteArray} {w:World} {R:Value→World→Prop} (h:PC b s w R):Ok Pr EC [.slice b.a b.n b.c,.string s] w R:=
 aP (m:=⟨true,true⟩) (J:=[]) (L:=[]) aN Tryz.func41 (by kernel_rfl) ((by kernel_rfl:aO Pr _ _ _ Tryz.f41 _ w R=PC b s w R).mpr h)
def Rf (b:ah) (w:World) (R:Value→World→Prop):Prop:=
 ax Pr sY [.slice b.a b.n b.c] w fun a c=>
 aK a fun d=>
 nw gh [.slice d.a d.n d.c,.bool false] c fun e f=>
 R (.pointer (some e)) f
theorem ahH {b:ah} {w:World} {R:Value→World→Prop} (h:Rf b w R):Ok Pr Jt [.slice b.a b.n b.c] w R:=
 aP (m:=⟨true,true⟩) (J:=[]) (L:=[]) aN Tryz.func42 (by kernel_rfl) ((by kernel_rfl:aO Pr _ _ _ Tryz.f42 _ w R=Rf b w R).mpr h)
def MB (r:Option Addr) (lo hi:Int) (w:World) (R:Value→World→Prop):Prop:=
 ax Pr Iu [.pointer r,.int .i64 8] w fun a b=>
 aK a fun c=>
 az (decide ((c.n:Int)=0))
 (R (.int .i64 0) b)
 (ko (fun (d e:Int)=>[(8,some (.int .u64 d)),(19,some (.int .i64 e))])
 (fun f d e g=>az (decide (e<(c.n:Int)))
 (aZ c.a e c.n
 (au .u8 (Addr.add (base c.a) (Int.toNat e * 1)) g fun i=>
 lt (A:=Int) (rC .u64 (shl .u64 d 8) (IntKind.wrap .u64 (i))) fun j=>
 f j (IntKind.wrap .i64 (e+1)) g))
 (az ((decide (IntKind.wrap .i64 (d)<lo)) || (decide (hi<IntKind.wrap .i64 (d))))
 (cK r fun k=>
 st (Addr.add k 1) (.bool true) g fun l=>
 R (.int .i64 0) l)
 (R (.int .i64 (IntKind.wrap .i64 (d))) g)))
 0 0 b)
theorem ad9 {r:Option Addr} {lo hi:Int} {w:World} {R:Value→World→Prop} (h:MB r lo hi w R):Ok Pr pZ [.pointer r,.int .i64 lo,.int .i64 hi] w R:=
 aP (m:=⟨false,true⟩) (J:=[]) (L:=[(6,[(8,.int .u64),(19,.int .i64)])]) aN Tryz.func44 (by kernel_rfl) ((by kernel_rfl:aO Pr _ _ _ Tryz.f44 _ w R=MB r lo hi w R).mpr h)
def MO (r:Option Addr) (most:Int) (w:World) (R:Value→World→Prop):Prop:=
 ax Pr p7 [.pointer r,.int .i64 most] w fun a b=>
 aK a fun c=>
 KP Pr c b fun d e=>
 R (.string d) e
theorem aei {r:Option Addr} {most:Int} {w:World} {R:Value→World→Prop} (h:MO r most w R):Ok Pr BT [.pointer r,.int .i64 most] w R:=
 aP (m:=⟨true,true⟩) (J:=[]) (L:=[]) aN Tryz.func45 (by kernel_rfl) ((by kernel_rfl:aO Pr _ _ _ Tryz.f45 _ w R=MO r most w R).mpr h)
def ME (r:Option Addr) (most:Int) (w:World) (R:Value→World→Prop):Prop:=
 ax Pr pZ [.pointer r,.int .i64 0,.int .i64 most] w fun a b=>
 aF .i64 a fun c=>
 ax Pr Iu [.pointer r,.int .i64 c] b fun d e=>
 aK d fun f=>
 R (.slice f.a f.n f.c) e
theorem aed {r:Option Addr} {most:Int} {w:World} {R:Value→World→Prop} (h:ME r most w R):Ok Pr p7 [.pointer r,.int .i64 most] w R:=
 aP (m:=⟨true,true⟩) (J:=[]) (L:=[]) aN Tryz.func46 (by kernel_rfl) ((by kernel_rfl:aO Pr _ _ _ Tryz.f46 _ w R=ME r most w R).mpr h)
def M8 (r:Option Addr) (w:World) (R:Value→World→Prop):Prop:=
 az (Option.isNone (α:=Addr) r)
 (nw qo [.int .i64 1,.string aaL] w fun a b=>
 R (.iface kH (.pointer (some a))) b)
 (fD (fun (c:Bool)=>[(9,some (.bool c))])
 (fun c d=>az c
 (nw qo [.int .i64 4,.string aaL] d fun e f=>
 R (.iface kH (.pointer (some e))) f)
 (R (.nilIface) d))
 (fun g=>
 cK r fun i=>
 nq (Addr.add i 1) w fun j=>
 az j
 (g true w)
 (cK r fun k=>
 ay (Addr.add k 0) w fun l=>
 g (decide (0<(l.n:Int))) w)))
theorem aez {r:Option Addr} {w:World} {R:Value→World→Prop} (h:M8 r w R):Ok Pr Iy [.pointer r] w R:=
 aP (m:=⟨true,true⟩) (J:=[(4,[(9,.bool)])]) (L:=[]) aN Tryz.func47 (by kernel_rfl) ((by kernel_rfl:aO Pr _ _ _ Tryz.f47 _ w R=M8 r w R).mpr h)
def MC (r:Option Addr) (most:Int) (w:World) (R:Value→World→Prop):Prop:=
 ax Pr oG [.pointer r,.int .i64 0,.int .i64 (max most 0)] w fun a b=>
 aF .i64 a fun c=>
 iJ []
 (fun d=>cK r fun e=>
 ay (Addr.add e 0) d fun f=>
 Bt f c fun g=>
 cS Pr [bp,bp] bp [.slice none 0 0,.slice g.a g.n g.c] d fun i j=>
 cK r fun k=>
 ay (Addr.add k 0) j fun l=>
 zw 1 l c fun m=>
 cK r fun n=>
 st (Addr.add n 0) (.slice m.a m.n m.c) j fun o=>
 R (.slice i.a i.n i.c) o)
 (fun p=>
 fD (fun (q:Bool)=>[(27,some (.bool q))])
 (fun q s=>az q
 (cK r fun t=>
 st (Addr.add t 1) (.bool true) s fun u=>
 R (.slice none 0 0) u)
 (p s))
 (fun v=>
 cK r fun x=>
 nq (Addr.add x 1) b fun y=>
 az (y || (decide (most<0)))
 (v true b)
 (cK r fun z=>
 ay (Addr.add z 0) b fun A=>
 v (decide ((A.n:Int)<c)) b)))
theorem aea {r:Option Addr} {most:Int} {w:World} {R:Value→World→Prop} (h:MC r most w R):Ok Pr zU [.pointer r,.int .i64 most] w R:=
 aP (m:=⟨true,true⟩) (J:=[(5,[]),(3,[(27,.bool)])]) (L:=[]) aN Tryz.func50 (by kernel_rfl) ((by kernel_rfl:aO Pr _ _ _ Tryz.f50 _ w R=MC r most w R).mpr h)
def MP (r:Option Addr) (w:World) (R:Value→World→Prop):Prop:=
 cK r fun a=>
 nq (Addr.add a 1) w fun b=>
 az b
 (R (.int .i64 4) w)
 (cK r fun c=>
 ay (Addr.add c 0) w fun d=>
 az (decide (0<(d.n:Int)))
 (R (.int .i64 4) w)
 (R (.int .i64 0) w))
theorem aej {r:Option Addr} {w:World} {R:Value→World→Prop} (h:MP r w R):Ok Pr MJ [.pointer r] w R:=
 aP (m:=⟨true,true⟩) (J:=[]) (L:=[]) aN Tryz.func51 (by kernel_rfl) ((by kernel_rfl:aO Pr _ _ _ Tryz.f51 _ w R=MP r w R).mpr h)
def MQ (r:Option Addr) (n:Int) (w:World) (R:Value→World→Prop):Prop:=
 iJ []
 (fun a=>cK r fun b=>
 ay (Addr.add b 0) a fun c=>
 abP c n n fun d=>
 cK r fun e=>
 ay (Addr.add e 0) a fun f=>
 zw 1 f n fun g=>
 cK r fun i=>
 st (Addr.add i 0) (.slice g.a g.n g.c) a fun j=>
 R (.slice d.a d.n d.c) j)
 (fun k=>
 fD (fun (l:Bool)=>[(22,some (.bool l))])
 (fun l m=>az l
 (az (!Option.isNone (α:=Addr) r)
 (cK r fun o=>
 st (Addr.add o 1) (.bool true) m fun p=>
 R (.slice none 0 0) p)
 (R (.slice none 0 0) m))
 (k m))
 (fun q=>
 az (Option.isNone (α:=Addr) r)
 (q true w)
 (cK r fun s=>
 nq (Addr.add s 1) w fun t=>
 az t
 (q true w)
 (cK r fun u=>
 ay (Addr.add u 0) w fun v=>
 q (decide ((v.n:Int)<n)) w))))
theorem aek {r:Option Addr} {n:Int} {w:World} {R:Value→World→Prop} (h:MQ r n w R):Ok Pr Iu [.pointer r,.int .i64 n] w R:=
 aP (m:=⟨true,true⟩) (J:=[(5,[]),(2,[(22,.bool)])]) (L:=[]) aN Tryz.func82 (by kernel_rfl) ((by kernel_rfl:aO Pr _ _ _ Tryz.f82 _ w R=MQ r n w R).mpr h)
def Mz (r:Option Addr) (lo hi:Int) (w:World) (R:Value→World→Prop):Prop:=
 iJ []
 (fun a=>ko (fun (b c:Int)=>[(7,some (.int .u64 b)),(8,some (.int .i64 c))])
 (fun d b c e=>az (decide (c<8))
 (cK r fun f=>
 ay (Addr.add f 0) e fun g=>
 aZ g.a c g.n
 (au .u8 (Addr.add (base g.a) (Int.toNat c * 1)) e fun i=>
 lt (A:=Int) (rC .u64 (shl .u64 b 8) (IntKind.wrap .u64 (i))) fun j=>
 lt (A:=Int) (IntKind.wrap .i64 (c+1)) fun k=>
 d j k e))
 (az ((decide (IntKind.wrap .i64 (b)<lo)) || (decide (hi<IntKind.wrap .i64 (b))))
 (cK r fun l=>
 st (Addr.add l 1) (.bool true) e fun m=>
 R (.int .i64 0) m)
 (cK r fun n=>
 ay (Addr.add n 0) e fun o=>
 zw 1 o 8 fun p=>
 cK r fun q=>
 st (Addr.add q 0) (.slice p.a p.n p.c) e fun s=>
 R (.int .i64 (IntKind.wrap .i64 (b))) s)))
 0 0 a)
 (fun t=>
 fD (fun (u:Bool)=>[(21,some (.bool u))])
 (fun u v=>az u
 (cK r fun x=>
 st (Addr.add x 1) (.bool true) v fun y=>
 R (.int .i64 0) y)
 (t v))
 (fun z=>
 cK r fun B=>
 nq (Addr.add B 1) w fun C=>
 az C
 (z true w)
 (cK r fun D=>
 ay (Addr.add D 0) w fun E=>
 z (decide ((E.n:Int)<8)) w)))
theorem ad8 {r:Option Addr} {lo hi:Int} {w:World} {R:Value→World→Prop} (h:Mz r lo hi w R):Ok Pr oG [.pointer r,.int .i64 lo,.int .i64 hi] w R:=
 aP (m:=⟨false,true⟩) (J:=[(4,[]),(2,[(21,.bool)])]) (L:=[(6,[(7,.int .u64),(8,.int .i64)])]) aN Tryz.func83 (by kernel_rfl) ((by kernel_rfl:aO Pr _ _ _ Tryz.f83 _ w R=Mz r lo hi w R).mpr h)
def MF (r:Option Addr) (most:Int) (w:World) (R:Value→World→Prop):Prop:=
 ax Pr zU [.pointer r,.int .i64 most] w fun a b=>
 aK a fun c=>
 KP Pr c b fun d e=>
 R (.string d) e
theorem aee {r:Option Addr} {most:Int} {w:World} {R:Value→World→Prop} (h:MF r most w R):Ok Pr Is [.pointer r,.int .i64 most] w R:=
 aP (m:=⟨true,true⟩) (J:=[]) (L:=[]) aN Tryz.func84 (by kernel_rfl) ((by kernel_rfl:aO Pr _ _ _ Tryz.f84 _ w R=MF r most w R).mpr h)
end Go.Proofs.YtpchgbolambkcaaGreatDoor
end
section
set_option linter.unusedVariables false
set_option linter.unusedSimpArgs false
namespace Go.Proofs.YtpchgbolambkcaaGreatDoor
open Go Go.Ev
set_option linter.unusedVariables false
theorem Rg:Pr.underlying so=some .string:=by kernel_rfl
theorem ajO:Pr.underlying bp=some (.slice aM):=by kernel_rfl
theorem amK:Pr.underlying aM=some (.int .u8):=by kernel_rfl
theorem D9 (x:ah) (l:List B8) (hl:l.length≤1000000000) (w:World) (hx:Bytes w x l):Ok Pr sY [.slice x.a x.n x.c] w fun v w'=>qA w w' v l:=by
 refine Ww ?_
 unfold Iq
 have cH:=hx.len
 refine cN (fun h=>?_) (fun h=>?_)
 ·have h0:x.n=0:=by
   rcases Nat.eq_zero_or_pos x.n with e | e
   ·exact e
   ·have:=Sl.pre hx e
    cases ha:x.a with
    | none=>rw [ha] at this; cases this
    | some a=>rw [ha] at h; cases h
  obtain rfl:l=[]:=List.eq_nil_of_length_eq_zero (by omega)
  exact ⟨⟨none,0,0⟩,rfl,Own.nil _ _ _ _,Mod.refl _ _⟩
 ·refine (aq.start w).nw fun p w1 H _=>?_
  have H:=H.tW 0 1 0 0 rfl rfl (Nat.le_refl _) (by simp only [maxLen]; omega)
  refine H.Dy (s:=⟨some ⟨p,0,none⟩,0,0⟩) (vs:=[]) 0 hO rfl (hx.aI H.mod) (by show 0+x.n≤_; omega) fun y w2 H hy=>?_
  exact ⟨y,rfl,H.mC 0 rfl,H.mod⟩
def be (n:Int):List B8:=(List.range 8).map fun k=>((BitVec.ofInt 64 n:bw) >>> (56 - 8 * k)).setWidth 8
def cG (ns:List Int):List B8:=(ns.map be).flatten
theorem pE (n:Int):(be n).length=8:=by simp [be]
theorem kS (ns:List Int):(cG ns).length=8 * ns.length:=by
 induction ns with
 | nil=>rfl
 | cons a r ih=>
  show ((be a) ++ cG r).length=_
  rw [List.length_append,pE,ih,List.length_cons]
  omega
theorem Rh (a b:List Int):cG (a ++ b)=cG a ++ cG b:=by simp [cG]
theorem XK (n:Int):IntKind.wrap .u64 n=((BitVec.ofInt 64 n).toNat:Int):=by
 rw [wrap_u64,BitVec.toNat_ofInt]
 omega
theorem aac (n:Int) (k:Nat) (hk:k<8) (s:Int) (hs:s=((56 - 8 * k:Nat):Int)):IntKind.wrap .u8 (shr .u64 (IntKind.wrap .u64 n) s)=(((be n).getD k 0).toNat:Int):=by
 subst hs
 rw [XK,Dn,an8]
 simp [be,hk]
theorem IM (x:ah) (l:List B8) (y:ah) (ns:List Int) (hl:l.length≤1000000) (hn:ns.length≤1000000) (w:World) (hx:Bytes w x l) (hy:jX w y ns) :
  Ok Pr cW [.slice x.a x.n x.c,.slice y.a y.n y.c] w fun v w'=>qA w w' v (l ++ cG ns):=by
 refine afK ?_
 unfold OL
 have gW:=hy.len
 refine aC (D9 x l (by omega) w hx) ?_
 rintro _ w1 ⟨z,rfl,hz,m⟩
 have H:=(aq.start w).gG m hz
 refine dP (qq 0 ns.length (fun i (b:ah) w'=>aq w [] w' [.row aM 1 b (aL (l ++ cG (ns.take i)))]) rfl (by omega) (by simpa [cG] using H) ?_ ?_)
 ·intro again i b w2 _ hi H aR
  refine ite_true (decide_eq_true (by omega)) ((hy.aI H.mod).ld hi rfl ?_)
  have kY:cG (ns.take (i+1))=cG (ns.take i) ++ be (ns.getD i 0):=by rw [qN _ _ hi 0,Rh]; simp [cG]
  have nS:=kS (ns.take i)
  rw [List.length_take,Nat.min_eq_left (by omega)] at nS
  rw [kY] at aR
  generalize ns.getD i 0=n at *
  have nV:=pE n
  refine tG (fun (b:ah) (s:Int) w'=>∃ j:Nat,j≤8∧s=56 - 8 * (j:Int)∧aq w [] w' [.row aM 1 b (aL (l ++ cG (ns.take i) ++ (be n).take j))]) (fun _ s _=>(s+8).toNat) ⟨0,by omega,by omega,by simpa using H⟩ ?_
  rintro AJ b s w3 ⟨j,hj,rfl,H⟩ um
  have hb:=(H.bytes 0 rfl).len
  rw [List.length_append,List.length_append,List.length_take,Nat.min_eq_left (by omega)] at hb
  refine cN (fun hc=>?_) (fun hc=>?_)
  ·have hc:=of_decide_eq_true hc
   refine su (by omega) (H.E5 0 ((be n).getD j 0) hO rfl (aac n j (by omega) _ (by omega)) (by omega) fun b' w4 H _=>⟨⟨by omega,by omega⟩,um _ _ w4 ⟨j+1,by omega,by omega,?_⟩ (by omega)⟩)
   rw [qN _ _ (by omega) 0,← List.append_assoc]
   exact H
  ·have hc:=of_decide_eq_false hc
   rw [List.take_of_length_le (l:=be n) (by omega),List.append_assoc] at H
   exact ⟨⟨by omega,by omega⟩,aR b w3 H⟩
 ·intro again b w2 H
  rw [List.take_length] at H
  exact ite_false (decide_eq_false (by omega)) ⟨b,rfl,H.mC 0 rfl,H.mod⟩
def laid (p:List B8):List B8:=be (p.length:Int) ++ p
def iq (ps:List (List B8)):List B8:=(ps.map laid).flatten
theorem XL (a b:List (List B8)):iq (a ++ b)=iq a ++ iq b:=by simp [iq]
theorem NK:∀ (ps:List (List B8)) (k:Nat),(∀ p∈ps,p.length≤k)→(iq ps).length≤ps.length * (k+8)
 | [],_,_=>by simp [iq]
 | p :: r,k,h=>by
  have h1:=NK r k fun q hq=>h q (List.mem_cons_of_mem _ hq)
  have h2:=h p List.mem_cons_self
  show (laid p ++ iq r).length≤_
  rw [List.length_append,laid,List.length_append,pE,List.length_cons,Nat.add_mul]
  omega
theorem Sq (n:Int):cG [n]=be n:=by simp [cG]
theorem _root_.Go.Ev.aq.yG {w0 w:World} {S:List Nat} {L:List aB} (H:aq w0 S w L) (k:Nat) {b:Nat} {l:List Int} {t:TypeId} (hk:L[k]? = some (.av b (dw l) t)):jX w ⟨some ⟨b,0,none⟩,l.length,l.length⟩ l:=by
 have:=(H.av k hk).sl 1 l.length l.length (by simp) (Nat.le_refl _)
 rw [Nat.mul_one,List.take_of_length_le (by simp)] at this
 exact this
theorem IX (x:ah) (l:List B8) (y:ah) (ps:List (List B8)) (hl:l.length≤100000) (hn:ps.length≤10) (rI:∀ p∈ps,p.length≤10000) (w:World) (hx:Bytes w x l) (hy:lz w [] y ps) :
  Ok Pr fV [.slice x.a x.n x.c,.slice y.a y.n y.c] w fun v w'=>qA w w' v (l ++ iq ps):=by
 refine agu ?_
 unfold PB
 have gW:=hy.len
 refine aC (D9 x l (by omega) w hx) ?_
 rintro _ w1 ⟨z,rfl,hz,m⟩
 have H:=(aq.start w).gG m hz
 refine dP (qq 0 ps.length (fun i (b:ah) w'=>aq w [] w' [.row aM 1 b (aL (l ++ iq (ps.take i)))]) rfl (by omega) (by simpa [iq] using H) ?_ ?_)
 ·intro again i b w2 _ hi H aR
  have nS:=NK (ps.take i) 10000 fun p hp=>rI p (List.mem_of_mem_take hp)
  rw [List.length_take] at nS
  have kY:iq (ps.take (i+1))=iq (ps.take i) ++ laid (ps.getD i []):=by rw [qN _ _ hi [],XL]; simp [iq]
  have vS:=rI (ps.getD i []) (by simp [hi])
  rw [kY] at aR
  have TM:min i ps.length * (10000+8)≤10 * (10000+8):=Nat.mul_le_mul_right _ (by omega)
  refine ite_true (decide_eq_true (by omega)) (hy.ld0 H.mod hi fun u hu _=>H.nw fun p w3 H _=>?_)
  have BC:=hu.len
  generalize ps.getD i []=pt at *
  have G9:=(H.bytes 0 rfl).len
  simp only [List.length_append] at G9
  refine aC (IM b _ ⟨some ⟨p,0,none⟩,1,1⟩ [((u.n:Nat):Int)] (by rw [List.length_append]; omega) (by simp) _ (H.bytes 0 rfl) (H.yG 1 (l:=[((u.n:Nat):Int)]) rfl)) ?_
  rintro _ w4 ⟨q,rfl,hq,m4⟩
  have H:=H.gG m4 hq
  have He:=hq.bytes.len
  simp only [List.length_append,kS,List.length_cons,List.length_nil] at He
  refine dP (H.Dy 2 hO rfl (hu.aI H.mod) (by omega) fun b' w5 H _=>⟨⟨by omega,by omega⟩,aR b' w5 ?_⟩)
  have H:=H.only 2 rfl
  rw [Sq,← BC,List.append_assoc,List.append_assoc] at H
  exact H
 ·intro again b w2 H
  rw [List.take_length] at H
  exact ite_false (decide_eq_false (by omega)) ⟨b,rfl,H.mC 0 rfl,H.mod⟩
theorem PD (x:ah) (l:List B8) (s:ByteArray) (hl:l.length≤100000) (hs:s.size≤10000) (w:World) (hx:Bytes w x l) :
  Ok Pr Cq [.slice x.a x.n x.c,.string s] w fun v w'=>qA w w' v (l ++ laid (eF s)):=by
 refine ag2 ?_
 unfold Qt
 refine (aq.start w).s2b Rg ajO amK fun b c zs w1 H hc _=>H.nw fun p w2 H _=>?_
 have hb:Bytes w2 ⟨some ⟨b,0,none⟩,s.size,c⟩ (eF s):=Fz.bytes (H.get 0 rfl) hc
 refine aC (IX x l ⟨some ⟨p,0,none⟩,1,1⟩ [eF s] hl (by simp) (fun q hq=>by rw [List.mem_singleton.1 hq,qp]; exact hs) _ (hx.aI H.mod) (lz.Uw (H.av 1 rfl) (by simp) hb (sq _))) ?_
 rintro _ w3 ⟨y,rfl,hy,m3⟩
 have H:=H.gG m3 hy
 rw [show iq [eF s]=laid (eF s) by simp [iq]] at H
 exact dP ⟨y,rfl,H.mC 2 rfl,H.mod⟩
theorem IG (x:ah) (l:List B8) (y:ah) (ns:List Int) (hl:l.length≤1000000) (hn:ns.length≤1000000) (w:World) (hx:Bytes w x l) (hy:jX w y ns) :
  Ok Pr BY [.slice x.a x.n x.c,.slice y.a y.n y.c] w fun v w'=>qA w w' v (l ++ cG ns):=by
 refine afs ?_
 unfold N3
 have cH:=hx.len
 have gW:=hy.len
 refine (aq.start w).CZ hO hx (by omega) fun z w1 H _=>?_
 refine qq 0 ns.length (fun i (b:ah) w'=>aq w [] w' [.row aM 1 b (aL (l ++ cG (ns.take i)))]) rfl (by omega) (by simpa [cG] using H) ?_ ?_
 ·intro again i b w2 _ hi H aR
  refine ite_true (decide_eq_true (by omega)) ?_
  have kY:cG (ns.take (i+1))=cG (ns.take i) ++ be (ns.getD i 0):=by rw [qN _ _ hi 0,Rh]; simp [cG]
  have nS:=kS (ns.take i)
  rw [List.length_take,Nat.min_eq_left (by omega)] at nS
  rw [kY] at aR
  have nV:=pE (ns.getD i 0)
  refine tG (fun (b:ah) (s:Int) w'=>∃ j:Nat,j≤8∧s=7 - (j:Int)∧aq w [] w' [.row aM 1 b (aL (l ++ cG (ns.take i) ++ (be (ns.getD i 0)).take j))]) (fun _ s _=>(s+8).toNat) ⟨0,by omega,by omega,by simpa using H⟩ ?_
  rintro AJ b s w3 ⟨j,hj,rfl,H⟩ um
  have hb:=(H.bytes 0 rfl).len
  rw [List.length_append,List.length_append,List.length_take,Nat.min_eq_left (by omega)] at hb
  refine cN (fun hc=>?_) (fun hc=>?_)
  ·have hc:=of_decide_eq_true hc
   refine (hy.aI H.mod).ld hi rfl ⟨⟨by omega,by omega⟩,su (by omega) (H.E5 0 ((be (ns.getD i 0)).getD j 0) hO rfl (aac _ j (by omega) _ (by omega)) (by omega) fun b' w4 H _=>⟨⟨by omega,by omega⟩,um _ _ w4 ⟨j+1,by omega,by omega,?_⟩ (by omega)⟩)⟩
   rw [qN _ _ (by omega) 0,← List.append_assoc]
   exact H
  ·have hc:=of_decide_eq_false hc
   rw [List.take_of_length_le (l:=be (ns.getD i 0)) (by omega),List.append_assoc] at H
   exact ⟨⟨by omega,by omega⟩,aR b w3 H⟩
 ·intro again b w2 H
  rw [List.take_length] at H
  exact ite_false (decide_eq_false (by omega)) ⟨b,rfl,H.mC 0 rfl,H.mod⟩
theorem N4 (x:ah) (l:List B8) (y:ah) (ps:List (List B8)) (hl:l.length≤100000) (hn:ps.length≤10) (rI:∀ p∈ps,p.length≤10000) (w:World) (hx:Bytes w x l) (hy:lz w [] y ps) :
  Ok Pr zY [.slice x.a x.n x.c,.slice y.a y.n y.c] w fun v w'=>qA w w' v (l ++ iq ps):=by
 refine afJ ?_
 unfold OK
 have cH:=hx.len
 have gW:=hy.len
 refine (aq.start w).CZ hO hx (by omega) fun z w1 H _=>?_
 refine qq 0 ps.length (fun i (b:ah) w'=>aq w [] w' [.row aM 1 b (aL (l ++ iq (ps.take i)))]) rfl (by omega) (by simpa [iq] using H) ?_ ?_
 ·intro again i b w2 _ hi H aR
  have nS:=NK (ps.take i) 10000 fun p hp=>rI p (List.mem_of_mem_take hp)
  rw [List.length_take] at nS
  have kY:iq (ps.take (i+1))=iq (ps.take i) ++ laid (ps.getD i []):=by rw [qN _ _ hi [],XL]; simp [iq]
  have vS:=rI (ps.getD i []) (by simp [hi])
  rw [kY] at aR
  have TM:min i ps.length * (10000+8)≤10 * (10000+8):=Nat.mul_le_mul_right _ (by omega)
  have H:=H.drew
  obtain ⟨u,hu,nu,mG⟩:=hy.at hi
  have BC:=hu.len
  have sR:=mG _ H.mod
  refine ite_true (decide_eq_true (by omega)) ⟨⟨nu,by omega,by omega⟩,u,sR,⟨nu,by omega,by omega⟩,u,sR,H.nw fun p w3 H _=>?_⟩
  generalize ps.getD i []=pt at *
  have G9:=(H.bytes 0 rfl).len
  simp only [List.length_append] at G9
  refine ⟨KH sR (mG _ H.mod),?_⟩
  refine aC (IG b _ ⟨some ⟨p,0,none⟩,1,1⟩ [((u.n:Nat):Int)] (by rw [List.length_append]; omega) (by simp) _ (H.bytes 0 rfl) (H.yG 1 (l:=[((u.n:Nat):Int)]) rfl)) ?_
  rintro _ w4 ⟨q,rfl,hq,m4⟩
  have T8:=mG _ H.mod
  have H:=H.gG m4 hq
  have He:=hq.bytes.len
  simp only [List.length_append,kS,List.length_cons,List.length_nil] at He
  refine dP ⟨KH T8 (mG _ H.mod),H.Dy 2 hO rfl (hu.aI H.mod) (by omega) fun b' w5 H _=>⟨⟨by omega,by omega⟩,aR b' w5 ?_⟩⟩
  have H:=H.only 2 rfl
  rw [Sq,← BC,List.append_assoc,List.append_assoc] at H
  exact H
 ·intro again b w2 H
  rw [List.take_length] at H
  exact ite_false (decide_eq_false (by omega)) ⟨b,rfl,H.mC 0 rfl,H.mod⟩
theorem ahI (x:ah) (l:List B8) (s:ByteArray) (hl:l.length≤100000) (hs:s.size≤10000) (w:World) (hx:Bytes w x l) :
  Ok Pr EC [.slice x.a x.n x.c,.string s] w fun v w'=>qA w w' v (l ++ laid (eF s)):=by
 refine agv ?_
 unfold PC
 refine (aq.start w).nw fun p w1 H _=>?_
 refine aC (IG x l ⟨some ⟨p,0,none⟩,1,1⟩ [((s.size:Nat):Int)] (by omega) (by simp) _ (hx.aI H.mod) (H.yG 0 (l:=[((s.size:Nat):Int)]) rfl)) ?_
 rintro _ w2 ⟨q,rfl,hq,m2⟩
 have H:=H.gG m2 hq
 have He:=hq.bytes.len
 simp only [List.length_append,kS,List.length_cons,List.length_nil] at He
 refine dP (H.amC 1 hO Rg rfl (by omega) fun y w3 H _=>⟨y,rfl,?_,H.mod⟩)
 have e:l ++ laid (eF s)=l ++ be ((s.size:Nat):Int) ++ eF s:=by unfold laid; rw [qp,List.append_assoc]
 rw [Sq] at H
 rw [e]
 exact H.mC 1 rfl
end Go.Proofs.YtpchgbolambkcaaGreatDoor
end
section
set_option linter.unusedVariables false
set_option linter.unusedSimpArgs false
namespace Go.Proofs.YtpchgbolambkcaaGreatDoor
open Go Go.Ev
set_option maxRecDepth 100000
set_option linter.unusedVariables false
def NL (bD bE:Int) (bF bG:Int) (bS bT:Int) (cB cC:Int) (cD cE cx:Int) (cy:ByteArray) (cz cA:ah) (w:World) (R:Value→World→Prop):Prop:=
 nw dx (dW bD bE bF bG bS bT cB cC cD cE cx cy cz cA) w fun a b=>
 dR (Addr.add a 11) b fun c=>
 ay (Addr.add a 12) b fun d=>
 ay (Addr.add a 13) b fun e=>
 R (.bool (((decide (400<((ByteArray.size c:Nat):Int))) || (decide (3000<(d.n:Int)))) || (decide (200<(e.n:Int))))) b
theorem afa {bD bE:Int} {bF bG:Int} {bS bT:Int} {cB cC:Int} {cD cE cx:Int} {cy:ByteArray} {cz cA:ah} {w:World} {R:Value→World→Prop} (h:NL bD bE bF bG bS bT cB cC cD cE cx cy cz cA w R):Ok Pr NA [.agg ⟨dW bD bE bF bG bS bT cB cC cD cE cx cy cz cA⟩] w R:=
 aP (m:=⟨true,true⟩) (J:=[]) (L:=[]) aN Tryz.func9 (by kernel_rfl) ((by kernel_rfl:aO Pr _ _ _ Tryz.f9 _ w R=NL bD bE bF bG bS bT cB cC cD cE cx cy cz cA w R).mpr h)
def N5 (bD bE:Int) (bF bG:Int) (bS bT:Int) (cB cC:Int) (cD cE cx:Int) (cy:ByteArray) (cz cA:ah) (gI gJ:Int) (gK gL:Int) (kZ lp:Int) (Hf Hg:Int) (Hh Hi FW:Int) (FX:ByteArray) (FY FZ:ah) (w:World) (R:Value→World→Prop):Prop:=
 nw dx (dW bD bE bF bG bS bT cB cC cD cE cx cy cz cA) w fun a b=>
 nw dx (dW gI gJ gK gL kZ lp Hf Hg Hh Hi FW FX FY FZ) b fun c d=>
 au .i64 (Addr.add a 0) d fun e=>
 au .i64 (Addr.add c 0) d fun f=>
 au .i64 (Addr.add a 1) d fun g=>
 au .i64 (Addr.add c 1) d fun i=>
 au .i64 (Addr.add a 2) d fun j=>
 au .i64 (Addr.add c 2) d fun k=>
 au .i64 (Addr.add a 3) d fun l=>
 au .i64 (Addr.add c 3) d fun m=>
 au .i64 (Addr.add a 4) d fun n=>
 au .i64 (Addr.add c 4) d fun o=>
 au .i64 (Addr.add a 5) d fun p=>
 au .i64 (Addr.add c 5) d fun q=>
 au .i64 (Addr.add a 6) d fun s=>
 au .i64 (Addr.add c 6) d fun t=>
 au .i64 (Addr.add a 7) d fun u=>
 au .i64 (Addr.add c 7) d fun v=>
 au .i64 (Addr.add a 8) d fun x=>
 au .i64 (Addr.add c 8) d fun y=>
 au .i64 (Addr.add a 9) d fun z=>
 au .i64 (Addr.add c 9) d fun A=>
 au .i64 (Addr.add a 10) d fun B=>
 au .i64 (Addr.add c 10) d fun C=>
 dR (Addr.add a 11) d fun D=>
 dR (Addr.add c 11) d fun E=>
 ay (Addr.add a 12) d fun F=>
 ay (Addr.add c 12) d fun G=>
 az ((((((((((((decide (e=f)) && (decide (g=i))) && (decide (j=k))) && (decide (l=m))) && (decide (n=o))) && (decide (p=q))) && (decide (s=t))) && (decide (u=v))) && (decide (x=y))) && (decide (z=A))) && (decide (B=C))) && (decide (D=E)))
 (ax Pr th [.slice F.a F.n F.c,.slice G.a G.n G.c] d fun I J=>
 aQ I fun L=>
 ay (Addr.add a 13) J fun M=>
 ay (Addr.add c 13) J fun N=>
 az L
 (ax Pr th [.slice M.a M.n M.c,.slice N.a N.n N.c] J fun O Q=>
 aQ O fun S=>
 R (.bool S) Q)
 (R (.bool false) J))
 (ay (Addr.add a 13) d fun T=>
 ay (Addr.add c 13) d fun U=>
 R (.bool false) d)
theorem aft {bD bE:Int} {bF bG:Int} {bS bT:Int} {cB cC:Int} {cD cE cx:Int} {cy:ByteArray} {cz cA:ah} {gI gJ:Int} {gK gL:Int} {kZ lp:Int} {Hf Hg:Int} {Hh Hi FW:Int} {FX:ByteArray} {FY FZ:ah} {w:World} {R:Value→World→Prop} (h:N5 bD bE bF bG bS bT cB cC cD cE cx cy cz cA gI gJ gK gL kZ lp Hf Hg Hh Hi FW FX FY FZ w R):Ok Pr II [.agg ⟨dW bD bE bF bG bS bT cB cC cD cE cx cy cz cA⟩,.agg ⟨dW gI gJ gK gL kZ lp Hf Hg Hh Hi FW FX FY FZ⟩] w R:=
 aP (m:=⟨true,true⟩) (J:=[]) (L:=[]) aN Tryz.func17 (by kernel_rfl) ((by kernel_rfl:aO Pr _ _ _ Tryz.f17 _ w R=N5 bD bE bF bG bS bT cB cC cD cE cx cy cz cA gI gJ gK gL kZ lp Hf Hg Hh Hi FW FX FY FZ w R).mpr h)
def M9 (bz:Int) (bA bB:ah) (bH bI bJ:ah) (w:World) (R:Value→World→Prop):Prop:=
 nw aA (aT bz bA bB bH bI bJ) w fun a b=>
 ay (Addr.add a 1) b fun c=>
 ay (Addr.add a 2) b fun d=>
 ay (Addr.add a 3) b fun e=>
 ay (Addr.add a 4) b fun f=>
 ay (Addr.add a 5) b fun g=>
 az (((((decide (100<(c.n:Int))) || (decide (12<(d.n:Int)))) || (decide (12<(e.n:Int)))) || (decide (12<(f.n:Int)))) || (decide (12<(g.n:Int))))
 (R (.bool true) b)
 (dX (fun (i:Int)=>[(3,some (.int .i64 i))])
 (fun j i k=>ay (Addr.add a 2) k fun l=>
 az (decide (i<(l.n:Int)))
 (ay (Addr.add a 2) k fun m=>
 aZ m.a i m.n
 (dR (Addr.add (Addr.add (base m.a) (Int.toNat i * 3)) 2) k fun n=>
 az (decide (400<((ByteArray.size n:Nat):Int)))
 (R (.bool true) k)
 ((aH (i+1)∧
 j (i+1) k))))
 (dX (fun (o:Int)=>[(4,some (.int .i64 o))])
 (fun p o q=>ay (Addr.add a 3) q fun s=>
 az (decide (o<(s.n:Int)))
 (ay (Addr.add a 3) q fun t=>
 aZ t.a o t.n
 (ay (Addr.add (Addr.add (base t.a) (Int.toNat o * 5)) 2) q fun u=>
 az (decide (3000<(u.n:Int)))
 (R (.bool true) q)
 ((aH (o+1)∧
 p (o+1) q))))
 (dX (fun (v:Int)=>[(5,some (.int .i64 v))])
 (fun x v y=>ay (Addr.add a 4) y fun z=>
 az (decide (v<(z.n:Int)))
 (ay (Addr.add a 4) y fun A=>
 aZ A.a v A.n
 (iI (Addr.add (base A.a) (Int.toNat v * 4)) y fun B C D E=>
 ax Pr NB [.agg ⟨fu B C D E⟩] y fun F G=>
 aQ F fun I=>
 az I
 (R (.bool true) G)
 ((aH (v+1)∧
 x (v+1) G))))
 (R (.bool false) y))
 0 q))
 0 k))
 0 b)
theorem aeA {bz:Int} {bA bB:ah} {bH bI bJ:ah} {w:World} {R:Value→World→Prop} (h:M9 bz bA bB bH bI bJ w R):Ok Pr BU [.agg ⟨aT bz bA bB bH bI bJ⟩] w R:=
 aP (m:=⟨true,true⟩) (J:=[]) (L:=[(4,[(3,.int .i64)]),(9,[(4,.int .i64)]),(14,[(5,.int .i64)])]) aN Tryz.func19 (by kernel_rfl) ((by kernel_rfl:aO Pr _ _ _ Tryz.f19 _ w R=M9 bz bA bB bH bI bJ w R).mpr h)
def Nu (bD:Int) (bE bF:ah) (bG bS bT:ah) (gI:Int) (gJ gK:ah) (gL kZ lp:ah) (w:World) (R:Value→World→Prop):Prop:=
 nw aA (aT bD bE bF bG bS bT) w fun a b=>
 nw aA (aT gI gJ gK gL kZ lp) b fun c d=>
 iJ []
 (fun e=>dX (fun (f:Int)=>[(5,some (.int .i64 f))])
 (fun g f i=>ay (Addr.add a 4) i fun j=>
 az (decide (f<(j.n:Int)))
 (ay (Addr.add a 4) (World.drew i) fun k=>
 aZ k.a f k.n
 (iI (Addr.add (base k.a) (Int.toNat f * 4)) (World.drew i) fun l m n o=>
 ay (Addr.add c 4) (World.drew i) fun p=>
 aZ p.a f p.n
 (iI (Addr.add (base p.a) (Int.toNat f * 4)) (World.drew i) fun q s t u=>
 ax Pr NZ [.agg ⟨fu l m n o⟩,.agg ⟨fu q s t u⟩] (World.drew i) fun v x=>
 aQ v fun y=>
 az (!y)
 (R (.bool false) x)
 ((aH (f+1)∧
 g (f+1) x)))))
 (R (.bool true) i))
 0 e)
 (fun z=>
 au .i64 (Addr.add a 0) d fun A=>
 au .i64 (Addr.add c 0) d fun B=>
 ay (Addr.add a 1) d fun C=>
 ay (Addr.add c 1) d fun D=>
 az (!decide (A=B))
 (ay (Addr.add a 2) d fun E=>
 ay (Addr.add c 2) d fun F=>
 ay (Addr.add a 3) d fun G=>
 ay (Addr.add c 3) d fun I=>
 ay (Addr.add a 4) d fun J=>
 ay (Addr.add c 4) d fun L=>
 ay (Addr.add a 5) d fun M=>
 ay (Addr.add c 5) d fun N=>
 R (.bool false) d)
 (ax Pr th [.slice C.a C.n C.c,.slice D.a D.n D.c] d fun O Q=>
 aQ O fun S=>
 ay (Addr.add a 2) Q fun T=>
 ay (Addr.add c 2) Q fun U=>
 az (!S)
 (ay (Addr.add a 3) Q fun V=>
 ay (Addr.add c 3) Q fun X=>
 ay (Addr.add a 4) Q fun Y=>
 ay (Addr.add c 4) Q fun Z=>
 ay (Addr.add a 5) Q fun aa=>
 ay (Addr.add c 5) Q fun ba=>
 R (.bool false) Q)
 (ax Pr MK [.slice T.a T.n T.c,.slice U.a U.n U.c] Q fun ca da=>
 aQ ca fun ea=>
 ay (Addr.add a 3) da fun fa=>
 ay (Addr.add c 3) da fun ga=>
 az (!ea)
 (ay (Addr.add a 4) da fun ia=>
 ay (Addr.add c 4) da fun ja=>
 ay (Addr.add a 5) da fun ka=>
 ay (Addr.add c 5) da fun la=>
 R (.bool false) da)
 (ax Pr M3 [.slice fa.a fa.n fa.c,.slice ga.a ga.n ga.c] da fun ma na=>
 aQ ma fun oa=>
 ay (Addr.add a 4) na fun pa=>
 ay (Addr.add c 4) na fun qa=>
 ay (Addr.add a 5) na fun sa=>
 ay (Addr.add c 5) na fun ta=>
 az ((!oa) || (!decide ((pa.n:Int)=(qa.n:Int))))
 (R (.bool false) na)
 (ax Pr M4 [.slice sa.a sa.n sa.c,.slice ta.a ta.n ta.c] na fun ua va=>
 aQ ua fun xa=>
 az (!xa)
 (R (.bool false) va)
 (z va))))))
theorem aeN {bD:Int} {bE bF:ah} {bG bS bT:ah} {gI:Int} {gJ gK:ah} {gL kZ lp:ah} {w:World} {R:Value→World→Prop} (h:Nu bD bE bF bG bS bT gI gJ gK gL kZ lp w R):Ok Pr tq [.agg ⟨aT bD bE bF bG bS bT⟩,.agg ⟨aT gI gJ gK gL kZ lp⟩] w R:=
 aP (m:=⟨true,true⟩) (J:=[(3,[])]) (L:=[(4,[(5,.int .i64)])]) aN Tryz.func25 (by kernel_rfl) ((by kernel_rfl:aO Pr _ _ _ Tryz.f25 _ w R=Nu bD bE bF bG bS bT gI gJ gK gL kZ lp w R).mpr h)
def Nv (bz:Int) (bA bB:ah) (bH bI bJ:ah) (w:World) (R:Value→World→Prop):Prop:=
 nw aA (aT bz bA bB bH bI bJ) w fun a b=>
 ay (Addr.add a 1) b fun c=>
 ax Pr zV [.slice c.a c.n c.c] b fun d e=>
 ay (Addr.add a 2) e fun f=>
 ax Pr ML [.slice f.a f.n f.c] e fun g i=>
 ay (Addr.add a 5) i fun j=>
 ax Pr M5 [.slice j.a j.n j.c] i fun k l=>
 dX (fun (m:Int)=>[(2,some (.int .i64 m))])
 (fun n m o=>ay (Addr.add a 3) o fun p=>
 az (decide (m<(p.n:Int)))
 (ay (Addr.add a 3) o fun q=>
 aZ q.a m q.n
 (ay (Addr.add (Addr.add (base q.a) (Int.toNat m * 5)) 2) o fun s=>
 ax Pr zV [.slice s.a s.n s.c] o fun t u=>
 ay (Addr.add a 3) u fun v=>
 aZ v.a m v.n
 (p9 (Addr.add (base v.a) (Int.toNat m * 5)) (-9:Int) 0 ⟨none,0,0⟩ 0 0 u fun x=>
 (aH (m+1)∧
 n (m+1) x))))
 (dX (fun (y:Int)=>[(3,some (.int .i64 y))])
 (fun z y A=>ay (Addr.add a 4) A fun B=>
 az (decide (y<(B.n:Int)))
 (ay (Addr.add a 4) A fun C=>
 aZ C.a y C.n
 (iI (Addr.add (base C.a) (Int.toNat y * 4)) A fun D E F G=>
 ax Pr N0 [.agg ⟨fu D E F G⟩] A fun I J=>
 ay (Addr.add a 4) J fun L=>
 aZ L.a y L.n
 (kR (Addr.add (base L.a) (Int.toNat y * 4)) (-9:Int) 0 0 ⟨none,0,0⟩ J fun M=>
 (aH (y+1)∧
 z (y+1) M))))
 (R (.tuple ⟨[]⟩) A))
 0 o))
 0 l
theorem aeO {bz:Int} {bA bB:ah} {bH bI bJ:ah} {w:World} {R:Value→World→Prop} (h:Nv bz bA bB bH bI bJ w R):Ok Pr Ns [.agg ⟨aT bz bA bB bH bI bJ⟩] w R:=
 aP (m:=⟨true,true⟩) (J:=[]) (L:=[(5,[(2,.int .i64)]),(10,[(3,.int .i64)])]) aN Tryz.func26 (by kernel_rfl) ((by kernel_rfl:aO Pr _ _ _ Tryz.f26 _ w R=Nv bz bA bB bH bI bJ w R).mpr h)
def NM (iR iS iT:Int) (iU:ah) (w:World) (R:Value→World→Prop):Prop:=
 nw bW (fu iR iS iT iU) w fun a b=>
 dX (fun (c:Int)=>[(3,some (.int .i64 c))])
 (fun d c e=>ay (Addr.add a 3) e fun f=>
 ay (Addr.add a 3) e fun g=>
 az ((decide (c<(f.n:Int))) && (decide ((g.n:Int)≤8)))
 (ay (Addr.add a 3) e fun i=>
 aZ i.a c i.n
 (ay (Addr.add (Addr.add (base i.a) (Int.toNat c * 4)) 3) e fun j=>
 az (decide (100<(j.n:Int)))
 (R (.bool true) e)
 ((aH (c+1)∧
 d (c+1) e))))
 (ay (Addr.add a 3) e fun k=>
 R (.bool (decide (8<(k.n:Int)))) e))
 0 b
theorem afb {iR iS iT:Int} {iU:ah} {w:World} {R:Value→World→Prop} (h:NM iR iS iT iU w R):Ok Pr NB [.agg ⟨fu iR iS iT iU⟩] w R:=
 aP (m:=⟨true,true⟩) (J:=[]) (L:=[(2,[(3,.int .i64)])]) aN Tryz.func55 (by kernel_rfl) ((by kernel_rfl:aO Pr _ _ _ Tryz.f55 _ w R=NM iR iS iT iU w R).mpr h)
def MR (a b:ah) (w:World) (R:Value→World→Prop):Prop:=
 az (!decide ((a.n:Int)=(b.n:Int)))
 (R (.bool false) w)
 (dX (fun (c:Int)=>[(5,some (.int .i64 c))])
 (fun d c e=>az (decide (c<(a.n:Int)))
 (aZ a.a c a.n
 (Am (Addr.add (base a.a) (Int.toNat c * 3)) (World.drew e) fun f g i=>
 aZ b.a c b.n
 (Am (Addr.add (base b.a) (Int.toNat c * 3)) (World.drew e) fun j k l=>
 Gu Pr .neq cZ (tQ f g i) (tQ j k l) (World.drew e) fun m n=>
 az m
 (R (.bool false) n)
 ((aH (c+1)∧
 d (c+1) n)))))
 (R (.bool true) e))
 0 w)
theorem ael {a b:ah} {w:World} {R:Value→World→Prop} (h:MR a b w R):Ok Pr MK [.slice a.a a.n a.c,.slice b.a b.n b.c] w R:=
 aP (m:=⟨true,true⟩) (J:=[]) (L:=[(4,[(5,.int .i64)])]) aN Tryz.func65 (by kernel_rfl) ((by kernel_rfl:aO Pr _ _ _ Tryz.f65 _ w R=MR a b w R).mpr h)
def Nd (a b:ah) (w:World) (R:Value→World→Prop):Prop:=
 az (!decide ((a.n:Int)=(b.n:Int)))
 (R (.bool false) w)
 (dX (fun (c:Int)=>[(5,some (.int .i64 c))])
 (fun d c e=>az (decide (c<(a.n:Int)))
 (aZ a.a c a.n
 (au .i64 (Addr.add (Addr.add (base a.a) (Int.toNat c * 5)) 0) (World.drew e) fun f=>
 aZ b.a c b.n
 (au .i64 (Addr.add (Addr.add (base b.a) (Int.toNat c * 5)) 0) (World.drew e) fun g=>
 az (!decide (f=g))
 (R (.bool false) (World.drew e))
 (aZ a.a c a.n
 (au .i64 (Addr.add (Addr.add (base a.a) (Int.toNat c * 5)) 1) (World.drew e) fun i=>
 aZ b.a c b.n
 (au .i64 (Addr.add (Addr.add (base b.a) (Int.toNat c * 5)) 1) (World.drew e) fun j=>
 az (!decide (i=j))
 (R (.bool false) (World.drew e))
 (aZ a.a c a.n
 (au .i64 (Addr.add (Addr.add (base a.a) (Int.toNat c * 5)) 3) (World.drew e) fun k=>
 aZ b.a c b.n
 (au .i64 (Addr.add (Addr.add (base b.a) (Int.toNat c * 5)) 3) (World.drew e) fun l=>
 az (!decide (k=l))
 (R (.bool false) (World.drew e))
 (aZ a.a c a.n
 (au .u64 (Addr.add (Addr.add (base a.a) (Int.toNat c * 5)) 4) (World.drew e) fun m=>
 aZ b.a c b.n
 (au .u64 (Addr.add (Addr.add (base b.a) (Int.toNat c * 5)) 4) (World.drew e) fun n=>
 az (!decide (m=n))
 (R (.bool false) (World.drew e))
 (aZ a.a c a.n
 (ay (Addr.add (Addr.add (base a.a) (Int.toNat c * 5)) 2) (World.drew e) fun o=>
 aZ b.a c b.n
 (ay (Addr.add (Addr.add (base b.a) (Int.toNat c * 5)) 2) (World.drew e) fun p=>
 ax Pr th [.slice o.a o.n o.c,.slice p.a p.n p.c] (World.drew e) fun q s=>
 aQ q fun t=>
 az (!t)
 (R (.bool false) s)
 ((aH (c+1)∧
 d (c+1) s)))))))))))))))))
 (R (.bool true) e))
 0 w)
theorem aeB {a b:ah} {w:World} {R:Value→World→Prop} (h:Nd a b w R):Ok Pr M3 [.slice a.a a.n a.c,.slice b.a b.n b.c] w R:=
 aP (m:=⟨true,true⟩) (J:=[]) (L:=[(4,[(5,.int .i64)])]) aN Tryz.func66 (by kernel_rfl) ((by kernel_rfl:aO Pr _ _ _ Tryz.f66 _ w R=Nd a b w R).mpr h)
def Nh (a b:ah) (w:World) (R:Value→World→Prop):Prop:=
 az (!decide ((a.n:Int)=(b.n:Int)))
 (R (.bool false) w)
 (dX (fun (c:Int)=>[(5,some (.int .i64 c))])
 (fun d c e=>az (decide (c<(a.n:Int)))
 (aZ a.a c a.n
 (qm (Addr.add (base a.a) (Int.toNat c * 6)) (World.drew e) fun f g i j k l=>
 aZ b.a c b.n
 (qm (Addr.add (base b.a) (Int.toNat c * 6)) (World.drew e) fun m n o p q s=>
 Gu Pr .neq dJ (pz f g i j k l) (pz m n o p q s) (World.drew e) fun t u=>
 az t
 (R (.bool false) u)
 ((aH (c+1)∧
 d (c+1) u)))))
 (R (.bool true) e))
 0 w)
theorem aeC {a b:ah} {w:World} {R:Value→World→Prop} (h:Nh a b w R):Ok Pr M4 [.slice a.a a.n a.c,.slice b.a b.n b.c] w R:=
 aP (m:=⟨true,true⟩) (J:=[]) (L:=[(4,[(5,.int .i64)])]) aN Tryz.func67 (by kernel_rfl) ((by kernel_rfl:aO Pr _ _ _ Tryz.f67 _ w R=Nh a b w R).mpr h)
def N6 (bD bE bF:Int) (bG:ah) (gI gJ gK:Int) (gL:ah) (w:World) (R:Value→World→Prop):Prop:=
 nw bW (fu bD bE bF bG) w fun a b=>
 nw bW (fu gI gJ gK gL) b fun c d=>
 au .i64 (Addr.add a 0) d fun e=>
 au .i64 (Addr.add c 0) d fun f=>
 au .i64 (Addr.add a 1) d fun g=>
 au .i64 (Addr.add c 1) d fun i=>
 au .i64 (Addr.add a 2) d fun j=>
 au .i64 (Addr.add c 2) d fun k=>
 ay (Addr.add a 3) d fun l=>
 ay (Addr.add c 3) d fun m=>
 az ((((!decide (e=f)) || (!decide (g=i))) || (!decide (j=k))) || (!decide ((l.n:Int)=(m.n:Int))))
 (R (.bool false) d)
 (dX (fun (n:Int)=>[(5,some (.int .i64 n))])
 (fun o n p=>ay (Addr.add a 3) p fun q=>
 az (decide (n<(q.n:Int)))
 (ay (Addr.add a 3) (World.drew p) fun s=>
 aZ s.a n s.n
 (uV (Addr.add (base s.a) (Int.toNat n * 4)) (World.drew p) fun t u v x=>
 ay (Addr.add c 3) (World.drew p) fun y=>
 aZ y.a n y.n
 (uV (Addr.add (base y.a) (Int.toNat n * 4)) (World.drew p) fun z A B C=>
 ax Pr MM [.agg ⟨fu t u v x⟩,.agg ⟨fu z A B C⟩] (World.drew p) fun D E=>
 aQ D fun F=>
 az (!F)
 (R (.bool false) E)
 ((aH (n+1)∧
 o (n+1) E)))))
 (R (.bool true) p))
 0 d)
theorem afu {bD bE bF:Int} {bG:ah} {gI gJ gK:Int} {gL:ah} {w:World} {R:Value→World→Prop} (h:N6 bD bE bF bG gI gJ gK gL w R):Ok Pr NZ [.agg ⟨fu bD bE bF bG⟩,.agg ⟨fu gI gJ gK gL⟩] w R:=
 aP (m:=⟨true,true⟩) (J:=[]) (L:=[(4,[(5,.int .i64)])]) aN Tryz.func68 (by kernel_rfl) ((by kernel_rfl:aO Pr _ _ _ Tryz.f68 _ w R=N6 bD bE bF bG gI gJ gK gL w R).mpr h)
def MS (l:ah) (w:World) (R:Value→World→Prop):Prop:=
 dX (fun (a:Int)=>[(2,some (.int .i64 a))])
 (fun b a c=>az (decide (a<(l.n:Int)))
 (aZ l.a a l.n
 (uX (Addr.add (base l.a) (Int.toNat a * 3)) (-9:Int) 0 eO c fun d=>
 (aH (a+1)∧
 b (a+1) d)))
 (nw cZ (tQ (-9:Int) 0 eO) c fun e f=>
 cS Pr [jU,jU] jU [.slice l.a l.n l.c,.slice (some e) 1 1] f fun g i=>
 R (.tuple ⟨[]⟩) i))
 0 w
theorem aem {l:ah} {w:World} {R:Value→World→Prop} (h:MS l w R):Ok Pr ML [.slice l.a l.n l.c] w R:=
 aP (m:=⟨true,true⟩) (J:=[]) (L:=[(1,[(2,.int .i64)])]) aN Tryz.func70 (by kernel_rfl) ((by kernel_rfl:aO Pr _ _ _ Tryz.f70 _ w R=MS l w R).mpr h)
def Nm (l:ah) (w:World) (R:Value→World→Prop):Prop:=
 dX (fun (a:Int)=>[(2,some (.int .i64 a))])
 (fun b a c=>az (decide (a<(l.n:Int)))
 (aZ l.a a l.n
 (tw (Addr.add (base l.a) (Int.toNat a * 6)) (-9:Int) 0 0 0 0 false c fun d=>
 (aH (a+1)∧
 b (a+1) d)))
 (nw dJ (pz (-9:Int) 0 0 0 0 false) c fun e f=>
 cS Pr [nF,nF] nF [.slice l.a l.n l.c,.slice (some e) 1 1] f fun g i=>
 R (.tuple ⟨[]⟩) i))
 0 w
theorem aeD {l:ah} {w:World} {R:Value→World→Prop} (h:Nm l w R):Ok Pr M5 [.slice l.a l.n l.c] w R:=
 aP (m:=⟨true,true⟩) (J:=[]) (L:=[(1,[(2,.int .i64)])]) aN Tryz.func71 (by kernel_rfl) ((by kernel_rfl:aO Pr _ _ _ Tryz.f71 _ w R=Nm l w R).mpr h)
def N7 (iR iS iT:Int) (iU:ah) (w:World) (R:Value→World→Prop):Prop:=
 nw bW (fu iR iS iT iU) w fun a b=>
 dX (fun (c:Int)=>[(2,some (.int .i64 c))])
 (fun d c e=>ay (Addr.add a 3) e fun f=>
 az (decide (c<(f.n:Int)))
 (ay (Addr.add a 3) e fun g=>
 aZ g.a c g.n
 (ay (Addr.add (Addr.add (base g.a) (Int.toNat c * 4)) 3) e fun i=>
 ax Pr zV [.slice i.a i.n i.c] e fun j k=>
 ay (Addr.add a 3) k fun l=>
 aZ l.a c l.n
 (rT (Addr.add (base l.a) (Int.toNat c * 4)) (-9:Int) 0 0 ⟨none,0,0⟩ k fun m=>
 (aH (c+1)∧
 d (c+1) m))))
 (R (.tuple ⟨[]⟩) e))
 0 b
theorem afv {iR iS iT:Int} {iU:ah} {w:World} {R:Value→World→Prop} (h:N7 iR iS iT iU w R):Ok Pr N0 [.agg ⟨fu iR iS iT iU⟩] w R:=
 aP (m:=⟨true,true⟩) (J:=[]) (L:=[(2,[(2,.int .i64)])]) aN Tryz.func72 (by kernel_rfl) ((by kernel_rfl:aO Pr _ _ _ Tryz.f72 _ w R=N7 iR iS iT iU w R).mpr h)
def MT (bD bE bF:Int) (bG:ah) (gI gJ gK:Int) (gL:ah) (w:World) (R:Value→World→Prop):Prop:=
 nw eW (fu bD bE bF bG) w fun a b=>
 nw eW (fu gI gJ gK gL) b fun c d=>
 au .i64 (Addr.add a 0) d fun e=>
 au .i64 (Addr.add c 0) d fun f=>
 au .i64 (Addr.add a 1) d fun g=>
 au .i64 (Addr.add c 1) d fun i=>
 au .i64 (Addr.add a 2) d fun j=>
 au .i64 (Addr.add c 2) d fun k=>
 ay (Addr.add a 3) d fun l=>
 ay (Addr.add c 3) d fun m=>
 az (((decide (e=f)) && (decide (g=i))) && (decide (j=k)))
 (ax Pr th [.slice l.a l.n l.c,.slice m.a m.n m.c] d fun n o=>
 aQ n fun p=>
 R (.bool p) o)
 (R (.bool false) d)
theorem aen {bD bE bF:Int} {bG:ah} {gI gJ gK:Int} {gL:ah} {w:World} {R:Value→World→Prop} (h:MT bD bE bF bG gI gJ gK gL w R):Ok Pr MM [.agg ⟨fu bD bE bF bG⟩,.agg ⟨fu gI gJ gK gL⟩] w R:=
 aP (m:=⟨true,true⟩) (J:=[]) (L:=[]) aN Tryz.func106 (by kernel_rfl) ((by kernel_rfl:aO Pr _ _ _ Tryz.f106 _ w R=MT bD bE bF bG gI gJ gK gL w R).mpr h)
end Go.Proofs.YtpchgbolambkcaaGreatDoor
end
section
set_option linter.unusedVariables false
set_option linter.unusedSimpArgs false
namespace Go.Proofs.YtpchgbolambkcaaGreatDoor
open Go Go.Ev
set_option maxRecDepth 20000
set_option linter.unusedVariables false
structure bL where
 (n0 n1 n2 n3 n4 n5 n6 n7 n8 n9 l7:Int)
 name:ByteArray
 (dG tok:ah)
@[reducible] def bL.cells (q:bL):List Value:=Cy q.n0 q.n1 q.n2 q.n3 q.n4 q.n5 q.n6 q.n7 q.n8 q.n9 q.l7 q.name q.dG q.tok
def bL.dz (q:bL):List Int:=[q.n0,q.n1,q.n2,q.n3,q.n4,q.n5,q.n6,q.n7,q.n8,q.n9,q.l7]
def bL.rest (q:bL):List Int:=[q.n3,q.n4,q.n5,q.n6,q.n7,q.n8,q.n9,q.l7]
def aW (lo hi n:Int):Bool:=decide (lo≤n) && decide (n≤hi)
def iP (q:bL):Bool:=aW 1 6 q.n0 && (aW 1 1099511627776 q.n1 && (aW 1 13 q.n2 && (q.rest.all (aW 0 1099511627776) && (decide (q.name.size≤300) && (decide (q.dG.n≤2000) && decide (q.tok.n≤100))))))
theorem JG (n lo hi:Int) (w:World):Ok Pr CH [.int .i64 n,.int .i64 lo,.int .i64 hi] w fun v w'=>v=.bool (aW lo hi n)∧w'=w:=by
 refine aiG ?_
 unfold RS
 exact ⟨rfl,rfl⟩
theorem aie (n:Int) (w:World):Ok Pr EM [.int .i64 n] w fun v w'=>v=.bool (!aW 0 1099511627776 n)∧w'=w:=by
 refine ag1 ?_
 unfold Qs
 refine aC (JG n 0 1099511627776 w) ?_
 rintro _ w1 ⟨rfl,hw⟩
 subst hw
 exact bh ⟨rfl,rfl⟩
theorem afL (g:FuncId) (p:Int→Bool) (hb:pH Pr g=true) (hg:∀ n w,Ok Pr g [.int .i64 n] w fun v w'=>v=.bool (p n)∧w'=w) (x:ah) (l:List Int) (hl:l.length≤1000000) (w:World) (hx:jX w x l) :
  Ok Pr Mt [.slice x.a x.n x.c,.func (.func g) #[] #[]] w fun v w'=>∃ n:Int,v=.int .i64 n∧(decide (0≤n)=l.any p)∧w'=w:=by
 refine ad0 ?_
 unfold Mu
 have cH:=hx.len
 refine ep 0 l.length (fun i w'=>w'=w∧(l.take i).any p=false) rfl (by omega) ⟨rfl,rfl⟩ ?_ ?_
 ·rintro again i w1 _ hi ⟨vY,ha⟩ aR
  have DO:jX w1 x l:=by rw [vY]; exact hx
  refine ite_true (decide_eq_true (by omega)) (DO.ld hi rfl ?_)
  have key:ax Pr g [.int .i64 (l.getD i 0)] w1 fun v w2=>aQ v fun t16=>az t16 ((fun (v:Value) (w':World)=>∃ n:Int,v=.int .i64 n∧(decide (0≤n)=l.any p)∧w'=w) (.int .i64 (i:Int)) w2) (aH ((i:Int)+1)∧again ((i:Int)+1) w2):=by
   refine aC (hg _ _) ?_
   rintro _ w2 ⟨rfl,DP⟩
   have FP:l.getD i 0∈l:=by simp [hi]
   refine bh (cN (fun h=>?_) (fun h=>?_))
   ·refine ⟨_,rfl,?_,DP.trans vY⟩
    rw [decide_eq_true (by omega)]
    exact (List.any_eq_true.2 ⟨_,FP,h⟩).symm
   ·refine ⟨⟨by omega,by omega⟩,aR _ ⟨DP.trans vY,?_⟩⟩
    rw [qN _ _ hi 0,List.any_append,ha,List.any_cons,h]
    rfl
  show cond (pH Pr g) _ False
  rw [hb]
  exact key
 ·rintro again w1 ⟨vY,ha⟩
  rw [List.take_length] at ha
  exact ite_false (decide_eq_false (by omega)) ⟨_,rfl,by rw [ha]; rfl,vY⟩
theorem aeP (g:FuncId) (p:Int→Bool) (hb:pH Pr g=true) (hg:∀ n w,Ok Pr g [.int .i64 n] w fun v w'=>v=.bool (p n)∧w'=w) (x:ah) (l:List Int) (hl:l.length≤1000000) (w:World) (hx:jX w x l) :
  Ok Pr Mp [.slice x.a x.n x.c,.func (.func g) #[] #[]] w fun v w'=>v=.bool (l.any p)∧w'=w:=by
 refine adY ?_
 unfold Mq
 refine aC (afL g p hb hg x l hl w hx) ?_
 rintro _ w1 ⟨n,rfl,hn,hw⟩
 subst hw
 exact cr ⟨by rw [hn],rfl⟩
theorem ag3 (q:bL) (w:World):Ok Pr OF [.agg ⟨q.cells⟩] w fun v w'=>∃ y:ah,v=.slice y.a y.n y.c∧Own w' w.heap.size bn 1 y (dw q.dz)∧Mod [] w w':=by
 refine afH ?_
 unfold OJ
 refine (aq.start w).nw fun p w1 H _=>?_
 refine H.au 0 rfl (an p 0) rfl (H.au 0 rfl (an p 1) rfl (H.au 0 rfl (an p 2) rfl (H.au 0 rfl (an p 3) rfl (H.au 0 rfl (an p 4) rfl (H.au 0 rfl (an p 5) rfl ?_)))))
 refine H.au 0 rfl (an p 6) rfl (H.au 0 rfl (an p 7) rfl (H.au 0 rfl (an p 8) rfl (H.au 0 rfl (an p 9) rfl (H.au 0 rfl (an p 10) rfl (H.nw fun p1 w2 H _=>?_)))))
 have H:=H.tW 1 1 11 11 rfl rfl (Nat.le_refl _) (by simp only [maxLen]; omega)
 exact ⟨⟨some ⟨p1,0,none⟩,11,11⟩,rfl,H.mC 1 rfl,H.mod⟩
theorem ajP:pH Pr EM=true:=by kernel_rfl
theorem aja (q:bL) (w:World):Ok Pr RC [.agg ⟨q.cells⟩] w fun v w'=>v=.bool (iP q)∧Mod [] w w':=by
 refine aia ?_
 unfold RD
 refine (aq.start w).nw fun p w1 H _=>?_
 refine H.au 0 rfl (an p 0) rfl (aC (JG _ _ _ _) ?_)
 rintro _ w2 ⟨rfl,hw⟩
 subst hw
 refine bh (H.au 0 rfl (an p 1) rfl ?_)
 unfold iP
 refine cN (fun h1=>?_) (fun h1=>?_)
 ·rw [h1,Bool.true_and]
  refine aC (JG _ _ _ _) ?_
  rintro _ w3 ⟨rfl,hw⟩
  subst hw
  refine bh (H.au 0 rfl (an p 2) rfl ?_)
  refine cN (fun h2=>?_) (fun h2=>?_)
  ·rw [h2,Bool.true_and]
   refine aC (JG _ _ _ _) ?_
   rintro _ w4 ⟨rfl,hw⟩
   subst hw
   refine bh (H.dD 0 rfl ?_)
   refine cN (fun h3=>?_) (fun h3=>?_)
   ·rw [h3,Bool.true_and]
    refine aC (ag3 q _) ?_
    rintro _ w5 ⟨y,rfl,hy,m5⟩
    have H:=H.gG m5 hy
    have gW:=hy.dz.len
    refine dP (Sl.l (H.dz 1 rfl) (by omega) 3 rfl (by rw [← gW]; show 3≤11; omega) fun z hz qF _=>?_)
    have UE:jX w5 z q.rest:=qF
    refine aC (aeP EM _ ajP aie z q.rest (by show 8≤1000000; omega) _ UE) ?_
    rintro _ w6 ⟨rfl,hw⟩
    subst hw
    refine bh (H.dR 0 rfl (an p 11) rfl (H.ay 0 rfl (an p 12) rfl (H.ay 0 rfl (an p 13) rfl ⟨?_,H.mod⟩)))
    congr 1
    have e:(!q.rest.any fun n=>!aW 0 1099511627776 n)=q.rest.all (aW 0 1099511627776):=by
     rw [List.not_any_eq_all_not]
     simp
    rw [e]
    have e1:∀ a b:Nat,decide (((a:Nat):Int)≤(b:Int))=decide (a≤b):=fun a b=>by simp
    have TO:=e1 q.name.size 300
    have Tm:=e1 q.dG.n 2000
    have TP:=e1 q.tok.n 100
    simp only [Bool.and_assoc]
    rw [← TO,← Tm,← TP]
    rfl
   ·rw [h3,Bool.false_and]
    exact H.dR 0 rfl (an p 11) rfl (H.ay 0 rfl (an p 12) rfl (H.ay 0 rfl (an p 13) rfl ⟨rfl,H.mod⟩))
  ·rw [h2,Bool.false_and]
   exact H.dD 0 rfl (H.dR 0 rfl (an p 11) rfl (H.ay 0 rfl (an p 12) rfl (H.ay 0 rfl (an p 13) rfl ⟨rfl,H.mod⟩)))
 ·rw [h1,Bool.false_and]
  exact H.au 0 rfl (an p 2) rfl (H.dD 0 rfl (H.dR 0 rfl (an p 11) rfl (H.ay 0 rfl (an p 12) rfl (H.ay 0 rfl (an p 13) rfl ⟨rfl,H.mod⟩))))
@[irreducible] def vw (q:bL) (lb lt:List B8):List B8:=cG q.dz ++ laid (eF q.name) ++ iq [lb,lt]
def S8 (q:bL):Int:=if iP q=true then 0 else 2
end Go.Proofs.YtpchgbolambkcaaGreatDoor
end
section
set_option linter.unusedVariables false
set_option linter.unusedSimpArgs false
namespace Go.Proofs.YtpchgbolambkcaaGreatDoor
open Go Go.Ev
set_option maxRecDepth 20000
set_option linter.unusedVariables false
@[irreducible] def E7 (q:bL) (lb lt:List B8) (r:bL) (mb mt:List B8):Bool:=decide (q.dz=r.dz) && (decide (q.name=r.name) && (decide (lb=mb) && decide (lt=mt)))
theorem W0 (q:bL) (lb lt:List B8) (r:bL) (mb mt:List B8) (h1:lb.length≤1000000000) (h2:lt.length≤1000000000) (w:World) (hb:Bytes w q.dG lb) (ht:Bytes w q.tok lt) (j4:Bytes w r.dG mb) (xw:Bytes w r.tok mt) :
  Ok Pr II [.agg ⟨q.cells⟩,.agg ⟨r.cells⟩] w fun v w'=>v=.bool (E7 q lb lt r mb mt)∧Mod [] w w':=by
 refine aft ?_
 unfold N5
 refine (aq.start w).nw fun p w1 H _=>H.nw fun p1 w2 H _=>?_
 refine H.au 0 rfl (an p 0) rfl (H.au 1 rfl (an p1 0) rfl (H.au 0 rfl (an p 1) rfl (H.au 1 rfl (an p1 1) rfl (H.au 0 rfl (an p 2) rfl (H.au 1 rfl (an p1 2) rfl ?_)))))
 refine H.au 0 rfl (an p 3) rfl (H.au 1 rfl (an p1 3) rfl (H.au 0 rfl (an p 4) rfl (H.au 1 rfl (an p1 4) rfl (H.au 0 rfl (an p 5) rfl (H.au 1 rfl (an p1 5) rfl ?_)))))
 refine H.au 0 rfl (an p 6) rfl (H.au 1 rfl (an p1 6) rfl (H.au 0 rfl (an p 7) rfl (H.au 1 rfl (an p1 7) rfl (H.au 0 rfl (an p 8) rfl (H.au 1 rfl (an p1 8) rfl ?_)))))
 refine H.au 0 rfl (an p 9) rfl (H.au 1 rfl (an p1 9) rfl (H.au 0 rfl (an p 10) rfl (H.au 1 rfl (an p1 10) rfl ?_)))
 refine H.dR 0 rfl (an p 11) rfl (H.dR 1 rfl (an p1 11) rfl (H.ay 0 rfl (an p 12) rfl (H.ay 1 rfl (an p1 12) rfl ?_)))
 have aor:(decide (q.n0=r.n0) && decide (q.n1=r.n1) && decide (q.n2=r.n2) && decide (q.n3=r.n3) && decide (q.n4=r.n4) && decide (q.n5=r.n5) && decide (q.n6=r.n6) && decide (q.n7=r.n7) && decide (q.n8=r.n8) && decide (q.n9=r.n9) && decide (q.l7=r.l7))=decide (q.dz=r.dz):=by
  unfold bL.dz
  simp only [List.cons.injEq,and_true,Bool.decide_and,Bool.and_assoc]
 rw [aor]
 unfold E7
 refine cN (fun h=>?_) (fun h=>?_)
 ·simp only [Bool.and_eq_true] at h
  rw [h.1,h.2,Bool.true_and,Bool.true_and]
  refine aC (BV q.dG r.dG lb mb _ (hb.aI H.mod) (j4.aI H.mod) (by omega)) ?_
  rintro _ w6 ⟨rfl,m6⟩
  have H:=H.frame m6
  refine bh (H.ay 0 rfl (an p 13) rfl (H.ay 1 rfl (an p1 13) rfl (cN (fun h2=>?_) (fun h2=>?_))))
  ·rw [h2,Bool.true_and]
   refine aC (BV q.tok r.tok lt mt _ (ht.aI H.mod) (xw.aI H.mod) (by omega)) ?_
   rintro _ w7 ⟨rfl,m7⟩
   exact bh ⟨rfl,(H.frame m7).mod⟩
  ·rw [h2]
   exact ⟨rfl,H.mod⟩
 ·refine H.ay 0 rfl (an p 13) rfl (H.ay 1 rfl (an p1 13) rfl ⟨?_,H.mod⟩)
  rw [← Bool.and_assoc,h]
  rfl
theorem afM (q:bL) (w:World):Ok Pr NA [.agg ⟨q.cells⟩] w fun v w'=>∃ b,v=.bool b∧Mod [] w w'∧(b=false→q.name.size≤400∧q.dG.n≤3000∧q.tok.n≤200):=by
 refine afa ?_
 unfold NL
 refine (aq.start w).nw fun p w1 H _=>?_
 refine H.dR 0 rfl (an p 11) rfl (H.ay 0 rfl (an p 12) rfl (H.ay 0 rfl (an p 13) rfl ⟨_,rfl,H.mod,fun h=>?_⟩))
 simp only [Bool.or_eq_false_iff,decide_eq_false_iff_not] at h
 omega
theorem WR (q:bL) (w:World):Ok Pr IC [.agg ⟨q.cells⟩] w fun v w'=>∃ y:ah,v=.slice y.a y.n y.c∧Own w' w.heap.size bn 1 y (dw q.rest)∧Mod [] w w':=by
 refine ae9 ?_
 unfold NJ
 refine (aq.start w).nw fun p w1 H _=>?_
 refine H.au 0 rfl (an p 3) rfl (H.au 0 rfl (an p 4) rfl (H.au 0 rfl (an p 5) rfl ?_))
 refine H.au 0 rfl (an p 6) rfl (H.au 0 rfl (an p 7) rfl (H.au 0 rfl (an p 8) rfl (H.au 0 rfl (an p 9) rfl (H.au 0 rfl (an p 10) rfl (H.nw fun p1 w2 H _=>?_)))))
 have H:=H.tW 1 1 8 8 rfl rfl (Nat.le_refl _) (by simp only [maxLen]; omega)
 exact ⟨⟨some ⟨p1,0,none⟩,8,8⟩,rfl,H.mC 1 rfl,H.mod⟩
theorem aif (q:bL) (w:World):Ok Pr Qn [.agg ⟨q.cells⟩] w fun v w'=>v=.bool (iP q)∧Mod [] w w':=by
 refine agZ ?_
 unfold Qq
 refine (aq.start w).nw fun p w1 H _=>H.dD 0 rfl (aC (WR q _) ?_)
 rintro _ w2 ⟨y,rfl,hy,m2⟩
 have H:=H.gG m2 hy
 have gW:=hy.dz.len
 have hr8:q.rest.length=8:=rfl
 have uo:iP q=(q.rest.all (aW 0 1099511627776) && (aW 1 6 q.n0 && (aW 1 1099511627776 q.n1 && (aW 1 13 q.n2 && (decide (q.name.size≤300) && (decide (q.dG.n≤2000) && decide (q.tok.n≤100))))))):=by
  unfold iP
  generalize q.rest.all (aW 0 1099511627776)=a
  generalize aW 1 6 q.n0=b
  generalize aW 1 1099511627776 q.n1=c
  generalize aW 1 13 q.n2=d
  cases a <;> cases b <;> cases c <;> cases d <;> rfl
 have asG:q.rest=q.rest:=rfl
 refine dP ?_
 rw [uo]
 generalize q.rest=l at *
 refine ep 0 8 (fun i w'=>w'=w2∧(l.take i).all (aW 0 1099511627776)=true) rfl (by omega) ⟨rfl,rfl⟩ ?_ ?_
 ·rintro again i w3 _ hi ⟨hw,ha⟩ aR
  subst hw
  have FP:l.getD i 0∈l:=by simp [show i<l.length by omega]
  refine ite_true (decide_eq_true (by omega)) ((H.dz 1 rfl).ld (by omega) rfl ?_)
  have no:aW 0 1099511627776 (l.getD i 0)=false→(l.all (aW 0 1099511627776))=false:=fun h=>by
   cases hh:l.all (aW 0 1099511627776) with
   | false=>rfl
   | true=>
    have:=List.all_eq_true.1 hh _ FP
    rw [h] at this; cases this
  refine cN (fun h=>?_) (fun h=>?_)
  ·have h:=of_decide_eq_true h
   rw [no (by unfold aW; rw [decide_eq_false (by omega)]; rfl)]
   exact ⟨rfl,H.mod⟩
  ·have h:=of_decide_eq_false h
   refine (H.dz 1 rfl).ld (by omega) rfl (cN (fun h2=>?_) (fun h2=>?_))
   ·have h2:=of_decide_eq_true h2
    rw [no (by unfold aW; rw [Bool.and_eq_false_iff]; exact .inr (decide_eq_false (by omega)))]
    exact ⟨rfl,H.mod⟩
   ·have h2:=of_decide_eq_false h2
    refine ⟨⟨by omega,by omega⟩,aR _ ⟨rfl,?_⟩⟩
    rw [qN _ _ (by omega) 0,List.all_append,ha,List.all_cons]
    unfold aW
    rw [decide_eq_true (show (0:Int)≤l.getD i 0 by omega),decide_eq_true (show l.getD i 0≤1099511627776 by omega)]
    rfl
 ·rintro again w3 ⟨hw,ha⟩
  subst hw
  rw [List.take_of_length_le (by omega)] at ha
  rw [ha,Bool.true_and]
  refine ite_false (decide_eq_false (by omega)) ?_
  refine H.au 0 rfl (an p 0) rfl (H.au 0 rfl (an p 0) rfl (H.au 0 rfl (an p 1) rfl (H.au 0 rfl (an p 1) rfl (H.au 0 rfl (an p 2) rfl (H.au 0 rfl (an p 2) rfl ?_)))))
  refine H.dR 0 rfl (an p 11) rfl (H.ay 0 rfl (an p 12) rfl (H.ay 0 rfl (an p 13) rfl ⟨?_,H.mod⟩))
  congr 1
  have e1:∀ a b:Nat,decide (((a:Nat):Int)≤(b:Int))=decide (a≤b):=fun a b=>by simp
  have TO:=e1 q.name.size 300
  have Tm:=e1 q.dG.n 2000
  have TP:=e1 q.tok.n 100
  unfold aW
  simp only [Bool.and_assoc]
  rw [← TO,← Tm,← TP]
  rfl
theorem Xz (q:bL) (lb lt:List B8) (hn:q.name.size≤1000) (h1:lb.length≤10000) (h2:lt.length≤10000) (w:World) (hb:Bytes w q.dG lb) (ht:Bytes w q.tok lt):Ok Pr IZ [.agg ⟨q.cells⟩] w fun v w'=>qA w w' v (vw q lb lt):=by
 refine agq ?_
 unfold Px
 have eb:vw q lb lt=cG q.dz ++ laid (eF q.name) ++ iq [lb,lt]:=by unfold vw; rfl
 have en:cG q.dz=cG [q.n0,q.n1,q.n2] ++ cG q.rest:=(Rh [q.n0,q.n1,q.n2] q.rest).symm ▸ rfl
 rw [eb]
 refine (aq.start w).nw fun p w1 H _=>?_
 refine H.au 0 rfl (an p 0) rfl (H.au 0 rfl (an p 1) rfl (H.au 0 rfl (an p 2) rfl (H.nw fun p1 w2 H _=>?_)))
 refine aC (IG ⟨none,0,0⟩ [] ⟨some ⟨p1,0,none⟩,3,3⟩ [q.n0,q.n1,q.n2] (by simp) (by simp) _ (Bytes.nil _) (H.yG 1 (l:=[q.n0,q.n1,q.n2]) rfl)) ?_
 rintro _ w3 ⟨y,rfl,hy,m3⟩
 rw [List.nil_append] at hy
 have H:=H.gG m3 hy
 refine dP (H.dD 0 rfl (aC (WR q _) ?_))
 rintro _ w4 ⟨z,rfl,hz,m4⟩
 have H:=H.gG m4 hz
 have nS:=kS [q.n0,q.n1,q.n2]
 have aos:=kS q.rest
 have hr8:q.rest.length=8:=rfl
 have h33:[q.n0,q.n1,q.n2].length=3:=rfl
 refine dP (aC (IG y _ z q.rest (by omega) (by omega) _ (H.bytes 2 rfl) (H.dz 3 rfl)) ?_)
 rintro _ w5 ⟨u,rfl,hu,m5⟩
 rw [← en] at hu
 have H:=H.gG m5 hu
 have G9:(cG q.dz).length=88:=kS _
 have H:=H.drew
 refine dP (H.dR 0 rfl (an p 11) rfl (H.ay 0 rfl (an p 12) rfl (H.ay 0 rfl (an p 13) rfl ?_)))
 have zy:(cG q.dz ++ laid (eF q.name)).length≤2000:=by
  rw [List.length_append,G9,laid,List.length_append,pE,qp]; omega
 have last:∀ {w':World} {L:List aB} (i j:Nat) (y:ah) (p1:Nat),aq w [] w' L→L[i]? = some (.row aM 1 y (aL (cG q.dz ++ laid (eF q.name))))→L[j]? = some (.av p1 [q.dG.v,q.tok.v] bp)→
   ax Pr zY [.slice y.a y.n y.c,.slice (some ⟨p1,0,none⟩) 2 2] w' fun v eU=>aK v fun t=>qA w eU (.slice t.a t.n t.c) (cG q.dz ++ laid (eF q.name) ++ iq [lb,lt]):=by
  intro w' L i j y p1 H hi hj
  refine aC (N4 y _ ⟨some ⟨p1,0,none⟩,2,2⟩ [lb,lt] (by omega) (by simp) (fun z hz=>?_) _ (H.bytes i hi) (lz.aof (H.av j hj) (by simp) (hb.aI H.mod) (sq _) (ht.aI H.mod) (sq _))) ?_
  ·simp only [List.mem_cons,List.not_mem_nil,or_false] at hz
   rcases hz with rfl | rfl <;> omega
  ·rintro _ eU ⟨u,rfl,hu,m⟩
   have H:=H.gG m hu
   exact dP ⟨u,rfl,H.mC L.length (by simp),H.mod⟩
 have kp:∀ {w' eU:World} {L L':List aB} {i n:Nat},aq w [] w' L→aq w [] eU L'→L[0]? = some (.av p q.cells dx)→L'[0]? = some (.av p q.cells dx)→kept (Addr.add ⟨p,0,none⟩ i) n w' eU:=fun H H' h h'=>AR (H.av 0 h) (H'.av 0 h') (rZ _ _)
 have text:∀ {w':World} {L:List aB} {K:ah→World→Prop} (i:Nat) (y:ah),aq w [] w' L→L[i]? = some (.row aM 1 y (aL (cG q.dz)))→(∀ z eU,aq w [] eU (L ++ [.row aM 1 z (aL (cG q.dz ++ laid (eF q.name)))])→K z eU)→ax Pr EC [.slice y.a y.n y.c,.string q.name] w' fun v eU=>aK v fun t=>K t eU:=by
  intro w' L K i y H hi hK
  refine aC (ahI y _ q.name (by omega) (by omega) _ (H.bytes i hi)) ?_
  rintro _ eU ⟨z,rfl,hz,m⟩
  exact dP (hK z eU (H.gG m hz))
 refine ⟨?_,?_⟩
 ·refine text 4 u H rfl fun z w6 H6=>⟨kp H H6 rfl rfl,kp H H6 rfl rfl,H6.nw fun p2 w7 H7 _=>⟨kp H6 H7 rfl rfl,?_⟩⟩
  exact last 5 6 z p2 H7 rfl rfl
 ·refine H.nw fun p2 w6 H6 _=>⟨kp H H6 rfl rfl,text 4 u H6 rfl fun z w7 H7=>⟨kp H6 H7 rfl rfl,kp H6 H7 rfl rfl,?_⟩⟩
  exact last 6 5 z p2 H7 rfl rfl
def iK:bL:=⟨0,0,0,0,0,0,0,0,0,0,0,eO,⟨none,0,0⟩,⟨none,0,0⟩⟩
theorem SO:zc Pr dx=iK.cells:=by kernel_rfl
end Go.Proofs.YtpchgbolambkcaaGreatDoor
end
section
set_option linter.unusedVariables false
set_option linter.unusedSimpArgs false
namespace Go.Proofs.YtpchgbolambkcaaGreatDoor
open Go Go.Ev
set_option maxRecDepth 100000
set_option linter.unusedVariables false
def Qu (l:ah) (w:World) (R:Value→World→Prop):Prop:=
 dX (fun (a:Int)=>[(3,some (.int .i64 a))])
 (fun b a c=>az ((decide (a<(l.n:Int))) && (decide ((l.n:Int)≤8)))
 (aZ l.a a l.n
 (au .i64 (Addr.add (Addr.add (base l.a) (Int.toNat a * 6)) 0) c fun d=>
 (aH (a+1)∧
 az (!decide (d=a+1))
 (R (.bool false) c)
 (aZ l.a a l.n
 (qm (Addr.add (base l.a) (Int.toNat a * 6)) c fun e f g i j k=>
 ax Pr P9 [.agg ⟨pz e f g i j k⟩] c fun m n=>
 aQ m fun o=>
 az (!o)
 (R (.bool false) n)
 ((aH (a+1)∧
 b (a+1) n)))))))
 (R (.bool (decide ((l.n:Int)≤8))) c))
 0 w
theorem ag4 {l:ah} {w:World} {R:Value→World→Prop} (h:Qu l w R):Ok Pr P7 [.slice l.a l.n l.c] w R:=
 aP (m:=⟨true,true⟩) (J:=[]) (L:=[(2,[(3,.int .i64)])]) aN Tryz.func63 (by kernel_rfl) ((by kernel_rfl:aO Pr _ _ _ Tryz.f63 _ w R=Qu l w R).mpr h)
def Qv (oh oo:Int) (oq ou oz:Int) (oA:Bool) (w:World) (R:Value→World→Prop):Prop:=
 nw dJ (pz oh oo oq ou oz oA) w fun a b=>
 au .i64 (Addr.add a 1) b fun c=>
 au .i64 (Addr.add a 1) b fun d=>
 au .i64 (Addr.add a 2) b fun e=>
 au .i64 (Addr.add a 2) b fun f=>
 au .i64 (Addr.add a 4) b fun g=>
 au .i64 (Addr.add a 4) b fun i=>
 au .i64 (Addr.add a 3) b fun j=>
 au .i64 (Addr.add a 3) b fun k=>
 R (.bool ((((((((decide (1≤c)) && (decide (d≤6))) && (decide (1≤e))) && (decide (f≤6))) && (decide (1≤g))) && (decide (i≤1099511627776))) && (decide (0<j))) && (decide (wX .i64 k 3584=0)))) b
theorem ag5 {oh oo:Int} {oq ou oz:Int} {oA:Bool} {w:World} {R:Value→World→Prop} (h:Qv oh oo oq ou oz oA w R):Ok Pr P9 [.agg ⟨pz oh oo oq ou oz oA⟩] w R:=
 aP (m:=⟨true,true⟩) (J:=[]) (L:=[]) aN Tryz.func103 (by kernel_rfl) ((by kernel_rfl:aO Pr _ _ _ Tryz.f103 _ w R=Qv oh oo oq ou oz oA w R).mpr h)
def PE (l:ah) (w:World) (R:Value→World→Prop):Prop:=
 dX (fun (a:Int)=>[(7,some (.int .i64 a))])
 (fun b a c=>az (decide (a<(l.n:Int)))
 (aZ l.a a l.n
 (qm (Addr.add (base l.a) (Int.toNat a * 6)) c fun d e f g i j=>
 nw dJ (zc Pr dJ) c fun k m=>
 tw k d e f g i j m fun n=>
 au .i64 (Addr.add k 0) n fun o=>
 (aH (a+1)∧
 qm k n fun p q s t u v=>
 az (!decide (o=a+1))
 (R (.bool false) n)
 (ax Pr OG [.agg ⟨pz p q s t u v⟩] n fun x y=>
 aQ x fun z=>
 az (!z)
 (R (.bool false) y)
 ((aH (a+1)∧
 b (a+1) y))))))
 (R (.bool (decide ((l.n:Int)≤8))) c))
 0 w
theorem agw {l:ah} {w:World} {R:Value→World→Prop} (h:PE l w R):Ok Pr Pm [.slice l.a l.n l.c] w R:=
 aP (m:=⟨true,true⟩) (J:=[]) (L:=[(2,[(7,.int .i64)])]) aN Tryz.func126 (by kernel_rfl) ((by kernel_rfl:aO Pr _ _ _ Tryz.f126 _ w R=PE l w R).mpr h)
def LX (s:ah) (f:Value) (w:World) (R:Value→World→Prop):Prop:=
 ax Pr L0 [.slice s.a s.n s.c,f] w fun a b=>
 aF .i64 a fun c=>
 R (.bool (decide (0≤c))) b
theorem adP {s:ah} {f:Value} {w:World} {R:Value→World→Prop} (h:LX s f w R):Ok Pr LW [.slice s.a s.n s.c,f] w R:=
 aP (m:=⟨true,true⟩) (J:=[]) (L:=[]) aN Tryz.func130 (by kernel_rfl) ((by kernel_rfl:aO Pr _ _ _ Tryz.f130 _ w R=LX s f w R).mpr h)
def OM (oh oo:Int) (oq ou oz:Int) (oA:Bool) (w:World) (R:Value→World→Prop):Prop:=
 nw dJ (pz oh oo oq ou oz oA) w fun a b=>
 au .i64 (Addr.add a 1) b fun c=>
 ax Pr EL (jB c 1 6) b fun d e=>
 aQ d fun f=>
 au .i64 (Addr.add a 2) e fun g=>
 az f
 (ax Pr EL (jB g 1 6) e fun i j=>
 aQ i fun k=>
 au .i64 (Addr.add a 4) j fun l=>
 az k
 (ax Pr EL (jB l 1 1099511627776) j fun m n=>
 aQ m fun o=>
 au .i64 (Addr.add a 3) n fun p=>
 au .i64 (Addr.add a 3) n fun q=>
 R (.bool ((o && (!decide (p=0))) && (decide (wX .i64 q 3584=0)))) n)
 (au .i64 (Addr.add a 3) j fun s=>
 au .i64 (Addr.add a 3) j fun t=>
 R (.bool false) j))
 (au .i64 (Addr.add a 4) e fun u=>
 au .i64 (Addr.add a 3) e fun v=>
 au .i64 (Addr.add a 3) e fun x=>
 R (.bool false) e)
theorem afN {oh oo:Int} {oq ou oz:Int} {oA:Bool} {w:World} {R:Value→World→Prop} (h:OM oh oo oq ou oz oA w R):Ok Pr OG [.agg ⟨pz oh oo oq ou oz oA⟩] w R:=
 aP (m:=⟨true,true⟩) (J:=[]) (L:=[]) aN Tryz.func169 (by kernel_rfl) ((by kernel_rfl:aO Pr _ _ _ Tryz.f169 _ w R=OM oh oo oq ou oz oA w R).mpr h)
def L4 (s:ah) (f:Value) (w:World) (R:Value→World→Prop):Prop:=
 dX (fun (a:Int)=>[(8,some (.int .i64 a))])
 (fun b a c=>az (decide (a<(s.n:Int)))
 (aZ s.a a s.n
 (qm (Addr.add (base s.a) (Int.toNat a * 6)) c fun d e g i j k=>
 qx Pr f [.agg ⟨pz d e g i j k⟩] c fun l m=>
 aQ l fun n=>
 az n
 (R (.int .i64 a) m)
 ((aH (a+1)∧
 b (a+1) m))))
 (R (.int .i64 (-1:Int)) c))
 0 w
theorem adS {s:ah} {f:Value} {w:World} {R:Value→World→Prop} (h:L4 s f w R):Ok Pr L0 [.slice s.a s.n s.c,f] w R:=
 aP (m:=⟨true,true⟩) (J:=[]) (L:=[(2,[(8,.int .i64)])]) aN Tryz.func173 (by kernel_rfl) ((by kernel_rfl:aO Pr _ _ _ Tryz.f173 _ w R=L4 s f w R).mpr h)
def L9 (s:ah) (w:World) (R:Value→World→Prop):Prop:=
 az (Option.isNone (α:=Addr) s.a)
 (R (.slice none 0 0) w)
 (nw dJ [] w fun a b=>
 cS Pr [nF,nF] nF [.slice (some a) 0 0,.slice s.a s.n s.c] b fun c d=>
 R (.slice c.a c.n c.c) d)
theorem adV {s:ah} {w:World} {R:Value→World→Prop} (h:L9 s w R):Ok Pr L8 [.slice s.a s.n s.c] w R:=
 aP (m:=⟨true,true⟩) (J:=[]) (L:=[]) aN Tryz.func196 (by kernel_rfl) ((by kernel_rfl:aO Pr _ _ _ Tryz.f196 _ w R=L9 s w R).mpr h)
def Qw (n lo hi:Int) (w:World) (R:Value→World→Prop):Prop:=
 R (.bool ((decide (lo≤n)) && (decide (n≤hi)))) w
theorem ag6 {n lo hi:Int} {w:World} {R:Value→World→Prop} (h:Qw n lo hi w R):Ok Pr EL (jB n lo hi) w R:=
 aP (m:=⟨true,true⟩) (J:=[]) (L:=[]) aN Tryz.func201 (by kernel_rfl) ((by kernel_rfl:aO Pr _ _ _ Tryz.f201 _ w R=Qw n lo hi w R).mpr h)
end Go.Proofs.YtpchgbolambkcaaGreatDoor
end
section
set_option linter.unusedVariables false
set_option linter.unusedSimpArgs false
namespace Go.Proofs.YtpchgbolambkcaaGreatDoor
open Go Go.Ev
set_option maxRecDepth 20000
set_option linter.unusedVariables false
structure dY where
 (n0 n1 n2 n3 n4:Int)
 rev:Bool
@[reducible] def dY.cells (g:dY):List Value:=qR g.n0 g.n1 g.n2 g.n3 g.n4 g.rev
def gz:dY:=⟨0,0,0,0,0,false⟩
def gX (l:List dY):List Value:=(l.map dY.cells).flatten
theorem ajb (a b:List dY):gX (a ++ b)=gX a ++ gX b:=by simp [gX]
theorem YC (l:List dY):(gX l).length=6 * l.length:=by
 induction l with
 | nil=>rfl
 | cons a r ih=>
  show (a.cells ++ gX r).length=_
  rw [List.length_append,ih]
  show 6+6 * r.length=6 * (r.length+1)
  omega
theorem aad:∀ (l:List dY) (i j:Nat) (v:Value),i<l.length→(l.getD i gz).cells[j]? = some v→(gX l)[i * 6+j]? = some v
 | [],i,j,v,h,_=>by simp at h
 | a :: r,0,j,v,_,h=>by
  show (a.cells ++ gX r)[0 * 6+j]? = _
  have h:a.cells[j]? = some v:=h
  rw [Nat.zero_mul,Nat.zero_add,List.getElem?_append_left (List.getElem?_eq_some_iff.1 h).1]
  exact h
 | a :: r,i+1,j,v,hi,h=>by
  show (a.cells ++ gX r)[(i+1) * 6+j]? = _
  have hl:a.cells.length=6:=rfl
  rw [List.getElem?_append_right (by omega),hl,show (i+1) * 6+j - 6=i * 6+j by omega]
  exact aad r i j v (by simpa using hi) (by simpa using h)
theorem ZE (l:List dY):∀ v∈gX l,fW v=true:=by
 intro v hv
 obtain ⟨c,hc,hv⟩:=List.mem_flatten.1 hv
 obtain ⟨g,-,rfl⟩:=List.mem_map.1 hc
 simp only [List.mem_cons,List.not_mem_nil,or_false] at hv
 rcases hv with rfl | rfl | rfl | rfl | rfl | rfl <;> rfl
def kO (w:World) (s:ah) (l:List dY):Prop:=Sl w s 6 (gX l)
theorem kO.len {w:World} {s:ah} {l:List dY} (h:kO w s l):l.length=s.n:=by
 have:=Sl.len h
 rw [YC] at this
 omega
theorem kO.aI {w w':World} {s:ah} {l:List dY} (h:kO w s l) (m:Mod [] w w'):kO w' s l:=Sl.aI h m
theorem kO.nil (w:World):kO w ⟨none,0,0⟩ []:=Sl.nil w 6
theorem kO.cell {w:World} {s:ah} {l:List dY} (h:kO w s l) {i j:Nat} {v:Value} (hi:i<l.length) (hv:(l.getD i gz).cells[j]? = some v):w.cell? (Addr.add (Addr.add (base s.a) (i * 6)) j)=some v:=by
 rw [add_add]
 exact Sl.cell h _ _ (aad l i j v hi hv)
theorem kO.ld {w:World} {s:ah} {l:List dY} (h:kO w s l) {i:Nat} (hi:i<l.length) {x:Int} (hx:x=(i:Int)) {K:Int→Int→Int→Int→Int→Bool→Prop} (hk:K (l.getD i gz).n0 (l.getD i gz).n1 (l.getD i gz).n2 (l.getD i gz).n3 (l.getD i gz).n4 (l.getD i gz).rev) :
  aZ s.a x s.n (qm (Addr.add (base s.a) (Int.toNat x * 6)) w K):=by
 subst hx
 have hl:=h.len
 refine ⟨⟨Sl.pre h (by omega),by omega,by omega⟩,?_⟩
 rw [Int.toNat_natCast]
 exact WY (fun j v hv=>h.cell hi hv) hk
theorem KB:fQ Pr nF dJ 6 48:=fQ.of (by kernel_rfl)
theorem PF (n lo hi:Int) (w:World):Ok Pr EL [.int .i64 n,.int .i64 lo,.int .i64 hi] w fun v w'=>v=.bool (aW lo hi n)∧w'=w:=by
 refine ag6 ?_
 unfold Qw
 exact ⟨rfl,rfl⟩
def sC (g:dY):Bool:=aW 1 6 g.n1 && (aW 1 6 g.n2 && (aW 1 1099511627776 g.n4 && ((!decide (g.n3=0)) && decide (wX .i64 g.n3 3584=0))))
theorem ag7 (g:dY) (w:World):Ok Pr OG [.agg ⟨g.cells⟩] w fun v w'=>v=.bool (sC g)∧Mod [] w w':=by
 refine afN ?_
 unfold OM
 refine (aq.start w).nw fun p w1 H _=>?_
 unfold sC
 refine H.au 0 rfl (an p 1) rfl (aC (PF _ _ _ _) ?_)
 rintro _ w2 ⟨rfl,hw⟩
 subst hw
 refine bh (H.au 0 rfl (an p 2) rfl (cN (fun h1=>?_) (fun h1=>?_)))
 ·rw [h1,Bool.true_and]
  refine aC (PF _ _ _ _) ?_
  rintro _ w3 ⟨rfl,hw⟩
  subst hw
  refine bh (H.au 0 rfl (an p 4) rfl (cN (fun h2=>?_) (fun h2=>?_)))
  ·rw [h2,Bool.true_and]
   refine aC (PF _ _ _ _) ?_
   rintro _ w4 ⟨rfl,hw⟩
   subst hw
   refine bh (H.au 0 rfl (an p 3) rfl (H.au 0 rfl (an p 3) rfl ⟨?_,H.mod⟩))
   rw [Bool.and_assoc]
  ·rw [h2]
   exact H.au 0 rfl (an p 3) rfl (H.au 0 rfl (an p 3) rfl ⟨rfl,H.mod⟩)
 ·rw [h1]
  exact H.au 0 rfl (an p 4) rfl (H.au 0 rfl (an p 3) rfl (H.au 0 rfl (an p 3) rfl ⟨rfl,H.mod⟩))
theorem alO {x:Int} (h:x<0) (h2:-9223372036854775808≤x):¬ wX .i64 x 3584=0:=by
 intro he
 unfold wX at he
 have hm:(BitVec.ofInt 64 x).msb=true:=by
  rw [BitVec.msb_eq_decide,BitVec.toNat_ofInt]
  refine decide_eq_true ?_
  omega
 have hv:(BitVec.ofInt 64 x &&& ~~~ BitVec.ofInt 64 3584).msb=true:=by
  rw [BitVec.msb_and,hm]
  decide
 have hn:=BitVec.msb_eq_decide (BitVec.ofInt 64 x &&& ~~~ BitVec.ofInt 64 3584)
 rw [hv] at hn
 have hn:=of_decide_eq_true hn.symm
 have cI:=(BitVec.ofInt 64 x &&& ~~~ BitVec.ofInt 64 3584).isLt
 have he:IntKind.wrap .i64 (((BitVec.ofInt 64 x &&& ~~~ BitVec.ofInt 64 3584).toNat:Nat):Int)=0:=he
 generalize (BitVec.ofInt 64 x &&& ~~~ BitVec.ofInt 64 3584).toNat=n at *
 have e:IntKind.wrap .i64 (n:Int)=(n:Int) - 18446744073709551616:=by
  have e:IntKind.wrap .i64 (n:Int)=if (n:Int) % 18446744073709551616 ≥ 9223372036854775808 then (n:Int) % 18446744073709551616 - 18446744073709551616 else (n:Int) % 18446744073709551616:=by
   simp [IntKind.wrap,IntKind.signed,IntKind.bits]
  rw [e,if_pos (by omega)]
  omega
 omega
def dY.fit (g:dY):Prop:=-9223372036854775808≤g.n3
theorem aih (g:dY) (hf:g.fit) (w:World):Ok Pr P9 [.agg ⟨g.cells⟩] w fun v w'=>v=.bool (sC g)∧Mod [] w w':=by
 refine ag5 ?_
 unfold Qv
 refine (aq.start w).nw fun p w1 H _=>?_
 refine H.au 0 rfl (an p 1) rfl (H.au 0 rfl (an p 1) rfl (H.au 0 rfl (an p 2) rfl (H.au 0 rfl (an p 2) rfl (H.au 0 rfl (an p 4) rfl (H.au 0 rfl (an p 4) rfl (H.au 0 rfl (an p 3) rfl (H.au 0 rfl (an p 3) rfl ⟨?_,H.mod⟩)))))))
 congr 1
 unfold sC aW
 have e:(decide ((0:Int)<g.n3) && decide (wX .i64 g.n3 3584=0))=((!decide (g.n3=0)) && decide (wX .i64 g.n3 3584=0)):=by
  rcases Int.lt_trichotomy g.n3 0 with h | h | h
  ·rw [decide_eq_false (alO h hf),Bool.and_false,Bool.and_false]
  ·rw [h]; rfl
  ·rw [decide_eq_true h,decide_eq_false (show ¬ g.n3=0 by omega)]; rfl
 rw [← e]
 simp only [Bool.and_assoc]
def uq (l:List dY):Nat→Bool
 | 0=>true
 | i+1=>uq l i && (decide ((l.getD i gz).n0=(i:Int)+1) && sC (l.getD i gz))
def sE (l:List dY):Bool:=uq l l.length && decide (l.length≤8)
theorem aae {l:List dY} {i:Nat} (hi:i<l.length) (h:(decide ((l.getD i gz).n0=(i:Int)+1) && sC (l.getD i gz))=false):uq l l.length=false:=by
 have:∀ k,i<k→uq l k=false:=by
  intro k hk
  induction k with
  | zero=>omega
  | succ k ih=>
   unfold uq
   rcases Nat.lt_or_ge i k with h1 | h1
   ·rw [ih h1]; rfl
   ·have:k=i:=by omega
    subst this
    rw [h,Bool.and_false]
 exact this _ hi
theorem ahJ (x:ah) (l:List dY) (hl:l.length≤1000000) (w:World) (hx:kO w x l):Ok Pr Pm [.slice x.a x.n x.c] w fun v w'=>v=.bool (sE l)∧Mod [] w w':=by
 refine agw ?_
 unfold PE
 have cH:=hx.len
 have zC:zc Pr dJ=gz.cells:=by kernel_rfl
 rw [zC]
 unfold sE
 refine ep 0 l.length (fun i w'=>aq w [] w' []∧uq l i=true) rfl (by omega) ⟨aq.start w,rfl⟩ ?_ ?_
 ·rintro again i w1 _ hi ⟨H,ho⟩ aR
  refine ite_true (decide_eq_true (by omega)) ((hx.aI H.mod).ld hi rfl (H.nw fun p w2 H _=>H.tw 0 rfl rfl fun w3 H=>?_))
  have jE:=aae (l:=l) hi
  have pO:uq l (i+1)=(uq l i && (decide ((l.getD i gz).n0=(i:Int)+1) && sC (l.getD i gz))):=rfl
  generalize l.getD i gz=g at *
  refine H.au 0 rfl (an p 0) rfl ⟨⟨by omega,by omega⟩,H.qm 0 rfl (cN (fun h=>?_) (fun h=>?_))⟩
  ·have h:decide (g.n0=(i:Int)+1)=false:=by simpa using h
   rw [jE (by rw [h]; rfl)]
   exact ⟨rfl,H.mod⟩
  ·have h:decide (g.n0=(i:Int)+1)=true:=by simpa using h
   refine aC (ag7 g _) ?_
   rintro _ w4 ⟨rfl,m4⟩
   have H:=H.frame m4
   refine bh (cN (fun h2=>?_) (fun h2=>?_))
   ·have h2:sC g=false:=by simpa using h2
    rw [jE (by rw [h2,Bool.and_false])]
    exact ⟨rfl,H.mod⟩
   ·have h2:sC g=true:=by simpa using h2
    refine ⟨⟨by omega,by omega⟩,aR w4 ⟨H.take 0,?_⟩⟩
    rw [pO,ho,h,h2]; rfl
 ·rintro again w1 ⟨H,ho⟩
  refine ite_false (decide_eq_false (by omega)) ⟨?_,H.mod⟩
  rw [ho,Bool.true_and]
  congr 1
  exact decide_eq_decide.2 (by omega)
theorem aii (x:ah) (l:List dY) (hf:∀ g∈l,g.fit) (hl:l.length≤1000000) (w:World) (hx:kO w x l):Ok Pr P7 [.slice x.a x.n x.c] w fun v w'=>v=.bool (sE l)∧Mod [] w w':=by
 refine ag4 ?_
 unfold Qu
 have cH:=hx.len
 unfold sE
 refine ep 0 l.length (fun i w'=>aq w [] w' []∧uq l i=true) rfl (by omega) ⟨aq.start w,rfl⟩ ?_ ?_
 ·rintro again i w1 _ hi ⟨H,ho⟩ aR
  refine cN (fun hc=>?_) (fun hc=>?_)
  ·have DO:=hx.aI H.mod
   have mG:=DO.cell (i:=i) (j:=0) hi rfl
   refine ⟨⟨Sl.pre hx (by omega),by omega,by omega⟩,(l.getD i gz).n0,by rw [Int.toNat_natCast]; exact mG,⟨by omega,by omega⟩,?_⟩
   have jE:=aae (l:=l) hi
   have pO:uq l (i+1)=(uq l i && (decide ((l.getD i gz).n0=(i:Int)+1) && sC (l.getD i gz))):=rfl
   have vL:=hf (l.getD i gz) (by simp [hi])
   refine cN (fun h=>?_) (fun h=>DO.ld hi rfl ?_)
   ·have h:decide ((l.getD i gz).n0=(i:Int)+1)=false:=by simpa using h
    rw [jE (by rw [h]; rfl)]
    exact ⟨rfl,H.mod⟩
   ·have h:decide ((l.getD i gz).n0=(i:Int)+1)=true:=by simpa using h
    refine aC (aih (l.getD i gz) vL _) ?_
    rintro _ w4 ⟨rfl,m4⟩
    have H:=H.frame m4
    refine bh (cN (fun h2=>?_) (fun h2=>?_))
    ·have h2:sC (l.getD i gz)=false:=by simpa using h2
     rw [jE (by rw [h2,Bool.and_false])]
     exact ⟨rfl,H.mod⟩
    ·have h2:sC (l.getD i gz)=true:=by simpa using h2
     refine ⟨⟨by omega,by omega⟩,aR w4 ⟨H,?_⟩⟩
     rw [pO,ho,h,h2]; rfl
  ·have h8:¬ l.length≤8:=by
    intro h8
    simp only [Bool.and_eq_false_iff,decide_eq_false_iff_not] at hc
    omega
   refine ⟨?_,H.mod⟩
   rw [decide_eq_false h8,Bool.and_false]
   congr 1
   exact decide_eq_false (by omega)
 ·rintro again w1 ⟨H,ho⟩
  refine ite_false (by rw [decide_eq_false (show ¬ ((l.length:Nat):Int)<((x.n:Nat):Int) by omega)]; rfl) ⟨?_,H.mod⟩
  rw [ho,Bool.true_and]
  congr 1
  exact decide_eq_decide.2 (by omega)
theorem afc (x:ah) (l:List dY) (hl:l.length≤1000000) (w:World) (hx:kO w x l):Ok Pr L8 [.slice x.a x.n x.c] w fun v w'=>∃ y:ah,v=.slice y.a y.n y.c∧Own w' w.heap.size dJ 6 y (gX l)∧y.n=x.n∧Mod [] w w':=by
 refine adV ?_
 unfold L9
 have cH:=hx.len
 refine cN (fun h=>?_) (fun h=>?_)
 ·have h0:x.n=0:=by
   rcases Nat.eq_zero_or_pos x.n with e | e
   ·exact e
   ·have:=Sl.pre hx e
    cases ha:x.a with
    | none=>rw [ha] at this; cases this
    | some a=>rw [ha] at h; cases h
  obtain rfl:l=[]:=List.eq_nil_of_length_eq_zero (by omega)
  exact ⟨⟨none,0,0⟩,rfl,Own.nil _ _ _ _,h0.symm,Mod.refl _ _⟩
 ·refine (aq.start w).nw fun p w1 H _=>?_
  have H:=H.tW 0 6 0 0 rfl rfl (Nat.le_refl _) (by simp only [maxLen]; omega)
  refine H.app (s:=⟨some ⟨p,0,none⟩,0,0⟩) (vs:=[]) 0 KB rfl (hx.aI H.mod) (ZE l) (by show (0+x.n) * 48≤_; omega) (by show 0+x.n≤_; omega) fun y w2 H hy=>?_
  exact ⟨y,rfl,H.mC 0 rfl,by rw [hy]; exact Nat.zero_add _,H.mod⟩
end Go.Proofs.YtpchgbolambkcaaGreatDoor
end
section
set_option linter.unusedVariables false
set_option linter.unusedSimpArgs false
namespace Go.Proofs.YtpchgbolambkcaaGreatDoor
open Go Go.Ev
set_option maxRecDepth 100000
set_option linter.unusedVariables false
def Qx (bz:Int) (bA bB:ah) (bH bI bJ:ah) (w:World) (R:Value→World→Prop):Prop:=
 nw aA (aT bz bA bB bH bI bJ) w fun a b=>
 iJ []
 (fun c=>dX (fun (d:Int)=>[(3,some (.int .i64 d))])
 (fun e d f=>ay (Addr.add a 5) f fun g=>
 az (decide (d<(g.n:Int)))
 (ay (Addr.add a 5) (World.drew f) fun i=>
 aZ i.a d i.n
 (au .i64 (Addr.add (Addr.add (base i.a) (Int.toNat d * 6)) 1) (World.drew f) fun j=>
 ay (Addr.add a 4) (World.drew f) fun k=>
 ay (Addr.add a 5) (World.drew f) fun l=>
 az (decide ((k.n:Int)<j))
 (R (.bool false) (World.drew f))
 (aZ l.a d l.n
 (au .i64 (Addr.add (Addr.add (base l.a) (Int.toNat d * 6)) 2) (World.drew f) fun m=>
 ay (Addr.add a 3) (World.drew f) fun n=>
 az (decide ((n.n:Int)<m))
 (R (.bool false) (World.drew f))
 ((aH (d+1)∧
 e (d+1) (World.drew f)))))))
 (R (.bool true) f))
 0 c)
 (fun o=>
 au .i64 (Addr.add a 0) b fun p=>
 au .i64 (Addr.add a 0) b fun q=>
 ay (Addr.add a 1) b fun s=>
 ay (Addr.add a 2) b fun t=>
 ay (Addr.add a 2) b fun u=>
 az ((((decide (p<0)) || (decide (1099511627776<q))) || (!decide ((s.n:Int)=32))) || (decide ((t.n:Int)<1)))
 (aG a b fun v x y z A B=>
 aG a b fun C D E F G I=>
 ay (Addr.add a 5) b fun J=>
 R (.bool false) b)
 (ax Pr EI [.slice u.a u.n u.c] b fun L M=>
 aQ L fun N=>
 aG a M fun O Q S T U V=>
 az (!N)
 (aG a M fun X Y Z aa ba ca=>
 ay (Addr.add a 5) M fun da=>
 R (.bool false) M)
 (ax Pr NY [.agg ⟨aT O Q S T U V⟩] M fun ea fa=>
 aQ ea fun ga=>
 aG a fa fun ia ja ka la ma na=>
 az (!ga)
 (ay (Addr.add a 5) fa fun oa=>
 R (.bool false) fa)
 (ax Pr Ph [.agg ⟨aT ia ja ka la ma na⟩] fa fun pa qa=>
 aQ pa fun sa=>
 ay (Addr.add a 5) qa fun ta=>
 az (!sa)
 (R (.bool false) qa)
 (ax Pr P7 [.slice ta.a ta.n ta.c] qa fun ua va=>
 aQ ua fun xa=>
 az (!xa)
 (R (.bool false) va)
 (o va))))))
theorem ag8 {bz:Int} {bA bB:ah} {bH bI bJ:ah} {w:World} {R:Value→World→Prop} (h:Qx bz bA bB bH bI bJ w R):Ok Pr yq [.agg ⟨aT bz bA bB bH bI bJ⟩] w R:=
 aP (m:=⟨true,true⟩) (J:=[(3,[])]) (L:=[(4,[(3,.int .i64)])]) aN Tryz.func23 (by kernel_rfl) ((by kernel_rfl:aO Pr _ _ _ Tryz.f23 _ w R=Qx bz bA bB bH bI bJ w R).mpr h)
def Qy (l:ah) (w:World) (R:Value→World→Prop):Prop:=
 dX (fun (a:Int)=>[(3,some (.int .i64 a))])
 (fun b a c=>az ((decide (a<(l.n:Int))) && (decide ((l.n:Int)≤8)))
 (aZ l.a a l.n
 (Am (Addr.add (base l.a) (Int.toNat a * 3)) c fun d e f=>
 nw cZ (zc Pr cZ) c fun g i=>
 uX g d e f i fun j=>
 au .i64 (Addr.add g 0) j fun k=>
 (aH (a+1)∧
 dR (Addr.add g 2) j fun m=>
 dR (Addr.add g 2) j fun n=>
 au .i64 (Addr.add g 1) j fun o=>
 au .i64 (Addr.add g 1) j fun p=>
 au .i64 (Addr.add g 1) j fun q=>
 az ((((((!decide (k=a+1)) || (decide (((ByteArray.size m:Nat):Int)<1))) || (decide (300<((ByteArray.size n:Nat):Int)))) || (!((decide (o=0)) == (decide (a=0))))) || (decide (p<0))) || (decide (a<q)))
 (R (.bool false) j)
 (dX (fun (s:Int)=>[(5,some (.int .i64 s))])
 (fun t s u=>az (decide (s<a))
 (aZ l.a s l.n
 (au .i64 (Addr.add (Addr.add (base l.a) (Int.toNat s * 3)) 1) (World.drew u) fun v=>
 au .i64 (Addr.add g 1) (World.drew u) fun x=>
 az (decide (v=x))
 (aZ l.a s l.n
 (dR (Addr.add (Addr.add (base l.a) (Int.toNat s * 3)) 2) (World.drew u) fun y=>
 dR (Addr.add g 2) (World.drew u) fun z=>
 az (decide (y=z))
 (R (.bool false) (World.drew u))
 ((aH (s+1)∧
 t (s+1) (World.drew u)))))
 ((aH (s+1)∧
 t (s+1) (World.drew u)))))
 ((aH (a+1)∧
 b (a+1) u)))
 0 j))))
 (R (.bool (decide ((l.n:Int)≤8))) c))
 0 w
theorem ag9 {l:ah} {w:World} {R:Value→World→Prop} (h:Qy l w R):Ok Pr EI [.slice l.a l.n l.c] w R:=
 aP (m:=⟨true,true⟩) (J:=[]) (L:=[(2,[(3,.int .i64)]),(8,[(5,.int .i64)])]) aN Tryz.func60 (by kernel_rfl) ((by kernel_rfl:aO Pr _ _ _ Tryz.f60 _ w R=Qy l w R).mpr h)
def N8 (bz:Int) (bA bB:ah) (bH bI bJ:ah) (w:World) (R:Value→World→Prop):Prop:=
 nw aA (aT bz bA bB bH bI bJ) w fun a b=>
 ax Pr IS [.int .i64 1] b fun c d=>
 bU.bY c fun e=>
 aD e fun f g=>
 aF .i64 f fun i=>
 aD g fun j k=>
 aF .i64 j fun l=>
 aD k fun m n=>
 aF .i64 m fun o=>
 (n=[]∧
 dX (fun (p:Int)=>[(6,some (.int .i64 p))])
 (fun q p s=>ay (Addr.add a 3) s fun t=>
 ay (Addr.add a 3) s fun u=>
 az ((decide (p<(t.n:Int))) && (decide ((u.n:Int)≤6)))
 (ay (Addr.add a 3) s fun v=>
 aZ v.a p v.n
 (B5 (Addr.add (base v.a) (Int.toNat p * 5)) s fun x y z A B=>
 nw ey (zc Pr ey) s fun C D=>
 p9 C x y z A B D fun E=>
 au .i64 (Addr.add C 0) E fun F=>
 (aH (p+1)∧
 ay (Addr.add a 2) E fun G=>
 au .i64 (Addr.add C 1) E fun I=>
 az (!decide (F=p+1))
 (ay (Addr.add C 2) E fun J=>
 au .i64 (Addr.add C 3) E fun L=>
 au .u64 (Addr.add C 4) E fun M=>
 R (.bool false) E)
 (ax Pr zZ [.slice G.a G.n G.c,.int .i64 I] E fun N O=>
 aQ N fun Q=>
 ay (Addr.add C 2) O fun S=>
 au .i64 (Addr.add C 3) O fun T=>
 au .u64 (Addr.add C 4) O fun U=>
 az ((!Q) || (!decide ((S.n:Int)=i)))
 (R (.bool false) O)
 (ax Pr EK [.int .i64 T,.int .u64 U] O fun V X=>
 aQ V fun Y=>
 az (!Y)
 (R (.bool false) X)
 ((aH (p+1)∧
 q (p+1) X)))))))
 (ay (Addr.add a 3) s fun Z=>
 ay (Addr.add a 3) s fun aa=>
 R (.bool ((decide (1≤(Z.n:Int))) && (decide ((aa.n:Int)≤6)))) s))
 0 d)
theorem afw {bz:Int} {bA bB:ah} {bH bI bJ:ah} {w:World} {R:Value→World→Prop} (h:N8 bz bA bB bH bI bJ w R):Ok Pr NY [.agg ⟨aT bz bA bB bH bI bJ⟩] w R:=
 aP (m:=⟨true,true⟩) (J:=[]) (L:=[(3,[(6,.int .i64)])]) aN Tryz.func61 (by kernel_rfl) ((by kernel_rfl:aO Pr _ _ _ Tryz.f61 _ w R=N8 bz bA bB bH bI bJ w R).mpr h)
def PG (bz:Int) (bA bB:ah) (bH bI bJ:ah) (w:World) (R:Value→World→Prop):Prop:=
 nw aA (aT bz bA bB bH bI bJ) w fun a b=>
 dX (fun (c:Int)=>[(3,some (.int .i64 c))])
 (fun d c e=>ay (Addr.add a 4) e fun f=>
 ay (Addr.add a 4) e fun g=>
 az ((decide (c<(f.n:Int))) && (decide ((g.n:Int)≤6)))
 (ay (Addr.add a 4) e fun i=>
 aZ i.a c i.n
 (iI (Addr.add (base i.a) (Int.toNat c * 4)) e fun j k l m=>
 nw bW (zc Pr bW) e fun n o=>
 kR n j k l m o fun p=>
 au .i64 (Addr.add n 0) p fun q=>
 (aH (c+1)∧
 iI n p fun s t u v=>
 az (!decide (q=c+1))
 (ay (Addr.add a 2) p fun x=>
 au .i64 (Addr.add n 1) p fun y=>
 R (.bool false) p)
 (ax Pr P8 [.agg ⟨fu s t u v⟩] p fun z A=>
 aQ z fun B=>
 ay (Addr.add a 2) A fun C=>
 au .i64 (Addr.add n 1) A fun D=>
 az (!B)
 (R (.bool false) A)
 (ax Pr zZ [.slice C.a C.n C.c,.int .i64 D] A fun E F=>
 aQ E fun G=>
 az (!G)
 (R (.bool false) F)
 ((aH (c+1)∧
 d (c+1) F)))))))
 (ay (Addr.add a 4) e fun I=>
 R (.bool (decide ((I.n:Int)≤6))) e))
 0 b
theorem agx {bz:Int} {bA bB:ah} {bH bI bJ:ah} {w:World} {R:Value→World→Prop} (h:PG bz bA bB bH bI bJ w R):Ok Pr Ph [.agg ⟨aT bz bA bB bH bI bJ⟩] w R:=
 aP (m:=⟨true,true⟩) (J:=[]) (L:=[(2,[(3,.int .i64)])]) aN Tryz.func62 (by kernel_rfl) ((by kernel_rfl:aO Pr _ _ _ Tryz.f62 _ w R=PG bz bA bB bH bI bJ w R).mpr h)
def ON (name:ByteArray) (verify fy:ah) (w:World) (R:Value→World→Prop):Prop:=
 nw aA (zc Pr aA) w fun a b=>
 nw cZ (tQ 1 0 name) b fun c d=>
 nw ey (RQ 1 1 verify 0 0) d fun e f=>
 ax Pr I3 [.agg ⟨[.int .i64 0,.slice fy.a fy.n fy.c,.slice (some c) 1 1,.slice (some e) 1 1,.slice none 0 0,.slice none 0 0]⟩] f fun g i=>
 ez g fun j k l m n o=>
 nw aA (zc Pr aA) i fun p q=>
 aV p j k l m n o q fun s=>
 aG p s fun t u v x y z=>
 ax Pr yq [.agg ⟨aT t u v x y z⟩] s fun A B=>
 aQ A fun C=>
 az (!C)
 (aV a 0 ⟨none,0,0⟩ ⟨none,0,0⟩ ⟨none,0,0⟩ ⟨none,0,0⟩ ⟨none,0,0⟩ B fun D=>
 aG a D fun E F G I J L=>
 R (.tuple ⟨[.agg ⟨aT E F G I J L⟩,.int .i64 2]⟩) D)
 (aG p B fun M N O Q S T=>
 aV a M N O Q S T B fun U=>
 aG a U fun V X Y Z aa ba=>
 R (.tuple ⟨[.agg ⟨aT V X Y Z aa ba⟩,.int .i64 0]⟩) U)
theorem afO {name:ByteArray} {verify fy:ah} {w:World} {R:Value→World→Prop} (h:ON name verify fy w R):Ok Pr qP (wP name verify fy) w R:=
 aP (m:=⟨true,true⟩) (J:=[]) (L:=[]) aN Tryz.func73 (by kernel_rfl) ((by kernel_rfl:aO Pr _ _ _ Tryz.f73 _ w R=ON name verify fy w R).mpr h)
def Qz (bz:Int) (bA bB:ah) (bH bI bJ:ah) (w:World) (R:Value→World→Prop):Prop:=
 nw aA (aT bz bA bB bH bI bJ) w fun a b=>
 iJ []
 (fun c=>ax Pr I4 [.int .i64 1] c fun d e=>
 bU.bY d fun f=>
 aD f fun g i=>
 aF .i64 g fun j=>
 aD i fun k l=>
 aF .i64 k fun m=>
 aD l fun n o=>
 aF .i64 n fun p=>
 (o=[]∧
 ay (Addr.add a 3) e fun q=>
 dX (fun (s:Int)=>[(59,some (.int .i64 s))])
 (fun t s u=>az (decide (s<(q.n:Int)))
 (aZ q.a s q.n
 (B5 (Addr.add (base q.a) (Int.toNat s * 5)) u fun v x y z A=>
 nw ey (zc Pr ey) u fun B C=>
 p9 B v x y z A C fun D=>
 au .i64 (Addr.add B 0) D fun E=>
 (aH (s+1)∧
 au .i64 (Addr.add B 1) D fun F=>
 ay (Addr.add a 2) D fun G=>
 az (!decide (E=s+1))
 (ay (Addr.add B 2) D fun I=>
 au .i64 (Addr.add B 3) D fun J=>
 au .u64 (Addr.add B 4) D fun L=>
 R (.bool false) D)
 (ax Pr Cw (jB F 1 (G.n:Int)) D fun M N=>
 aQ M fun O=>
 ay (Addr.add B 2) N fun Q=>
 au .i64 (Addr.add B 3) N fun S=>
 au .u64 (Addr.add B 4) N fun T=>
 az ((!O) || (!decide ((Q.n:Int)=j)))
 (R (.bool false) N)
 (ax Pr EE [.int .i64 S,.int .u64 T] N fun U V=>
 aQ U fun X=>
 az (!X)
 (R (.bool false) V)
 ((aH (s+1)∧
 t (s+1) V)))))))
 (ay (Addr.add a 4) u fun Y=>
 dX (fun (Z:Int)=>[(97,some (.int .i64 Z))])
 (fun aa Z ba=>az (decide (Z<(Y.n:Int)))
 (aZ Y.a Z Y.n
 (iI (Addr.add (base Y.a) (Int.toNat Z * 4)) ba fun ca da ea fa=>
 nw bW (zc Pr bW) ba fun ga ia=>
 kR ga ca da ea fa ia fun ja=>
 au .i64 (Addr.add ga 0) ja fun ka=>
 (aH (Z+1)∧
 au .i64 (Addr.add ga 1) ja fun la=>
 ay (Addr.add a 2) ja fun ma=>
 az (!decide (ka=Z+1))
 (iI ga ja fun na oa pa qa=>
 R (.bool false) ja)
 (ax Pr Cw (jB la 1 (ma.n:Int)) ja fun sa ta=>
 aQ sa fun ua=>
 iI ga ta fun va xa ya za=>
 az (!ua)
 (R (.bool false) ta)
 (ax Pr QZ [.agg ⟨fu va xa ya za⟩] ta fun Aa Ba=>
 aQ Aa fun Ca=>
 az (!Ca)
 (R (.bool false) Ba)
 ((aH (Z+1)∧
 aa (Z+1) Ba)))))))
 (ay (Addr.add a 5) ba fun Da=>
 ax Pr LW [.slice Da.a Da.n Da.c,.func (.func OA) ⟨[]⟩ ⟨[.pointer (some a)]⟩] ba fun Ea Fa=>
 aQ Ea fun Ga=>
 R (.bool (!Ga)) Fa))
 0 u))
 0 e))
 (fun Ia=>
 au .i64 (Addr.add a 0) b fun Ja=>
 ax Pr Cw (jB Ja 0 1099511627776) b fun La Ma=>
 aQ La fun Na=>
 ay (Addr.add a 1) Ma fun Oa=>
 ay (Addr.add a 2) Ma fun Qa=>
 ay (Addr.add a 2) Ma fun Sa=>
 az (((!Na) || (!decide ((Oa.n:Int)=32))) || (decide ((Qa.n:Int)=0)))
 (ay (Addr.add a 3) Ma fun Ta=>
 ay (Addr.add a 4) Ma fun Ua=>
 ay (Addr.add a 5) Ma fun Va=>
 R (.bool false) Ma)
 (ax Pr Ew [.slice Sa.a Sa.n Sa.c] Ma fun Xa Ya=>
 aQ Xa fun Za=>
 ay (Addr.add a 3) Ya fun ab=>
 az (!Za)
 (ay (Addr.add a 4) Ya fun bb=>
 ay (Addr.add a 5) Ya fun cb=>
 R (.bool false) Ya)
 (ax Pr Cw (jB (ab.n:Int) 1 6) Ya fun db eb=>
 aQ db fun fb=>
 ay (Addr.add a 4) eb fun gb=>
 ay (Addr.add a 5) eb fun ib=>
 az ((!fb) || (decide (6<(gb.n:Int))))
 (R (.bool false) eb)
 (ax Pr Pm [.slice ib.a ib.n ib.c] eb fun jb kb=>
 aQ jb fun lb=>
 az (!lb)
 (R (.bool false) kb)
 (Ia kb)))))
theorem aha {bz:Int} {bA bB:ah} {bH bI bJ:ah} {w:World} {R:Value→World→Prop} (h:Qz bz bA bB bH bI bJ w R):Ok Pr EJ [.agg ⟨aT bz bA bB bH bI bJ⟩] w R:=
 aP (m:=⟨true,true⟩) (J:=[(3,[])]) (L:=[(5,[(59,.int .i64)]),(11,[(97,.int .i64)])]) aN Tryz.func91 (by kernel_rfl) ((by kernel_rfl:aO Pr _ _ _ Tryz.f91 _ w R=Qz bz bA bB bH bI bJ w R).mpr h)
def OO (code:Int) (w:World) (R:Value→World→Prop):Prop:=
 nw qo [.int .i64 code,.string alx] w fun a b=>
 R (.iface kH (.pointer (some a))) b
theorem afP {code:Int} {w:World} {R:Value→World→Prop} (h:OO code w R):Ok Pr IQ [.int .i64 code] w R:=
 aP (m:=⟨true,true⟩) (J:=[]) (L:=[]) aN Tryz.func92 (by kernel_rfl) ((by kernel_rfl:aO Pr _ _ _ Tryz.f92 _ w R=OO code w R).mpr h)
def OP (l:ah) (l8:Int) (w:World) (R:Value→World→Prop):Prop:=
 R (.bool ((decide (1≤l8)) && (decide (l8≤(l.n:Int))))) w
theorem afQ {l:ah} {l8:Int} {w:World} {R:Value→World→Prop} (h:OP l l8 w R):Ok Pr zZ [.slice l.a l.n l.c,.int .i64 l8] w R:=
 aP (m:=⟨true,true⟩) (J:=[]) (L:=[]) aN Tryz.func100 (by kernel_rfl) ((by kernel_rfl:aO Pr _ _ _ Tryz.f100 _ w R=OP l l8 w R).mpr h)
def QA (high used:Int) (w:World) (R:Value→World→Prop):Prop:=
 az ((decide (high<0)) || (decide (1099511627776<high)))
 (R (.bool false) w)
 (dX (fun (a:Int)=>[(5,some (.int .i64 a))])
 (fun b a c=>az (decide (a<64))
 (az (decide (high≤a))
 (lD a (az (decide (vI .u64 (shr .u64 used a) 1=1))
 (R (.bool false) c)
 ((aH (a+1)∧
 b (a+1) c))))
 ((aH (a+1)∧
 b (a+1) c)))
 (R (.bool ((decide (high=0)) || (decide (vI .u64 used 1=1)))) c))
 0 w)
theorem ahb {high used:Int} {w:World} {R:Value→World→Prop} (h:QA high used w R):Ok Pr EK [.int .i64 high,.int .u64 used] w R:=
 aP (m:=⟨true,true⟩) (J:=[]) (L:=[(4,[(5,.int .i64)])]) aN Tryz.func101 (by kernel_rfl) ((by kernel_rfl:aO Pr _ _ _ Tryz.f101 _ w R=QA high used w R).mpr h)
def QB (iR iS iT:Int) (iU:ah) (w:World) (R:Value→World→Prop):Prop:=
 nw bW (fu iR iS iT iU) w fun a b=>
 au .i64 (Addr.add a 0) b fun c=>
 au .i64 (Addr.add a 0) b fun d=>
 au .i64 (Addr.add a 1) b fun e=>
 au .i64 (Addr.add a 1) b fun f=>
 au .i64 (Addr.add a 2) b fun g=>
 au .i64 (Addr.add a 2) b fun i=>
 ay (Addr.add a 3) b fun j=>
 ay (Addr.add a 3) b fun k=>
 az ((((((((decide (c<1)) || (decide (6<d))) || (decide (e<1))) || (decide (8<f))) || (decide (g<1))) || (decide (3<i))) || (decide ((j.n:Int)<1))) || (decide (5<(k.n:Int))))
 (R (.bool false) b)
 (dX (fun (l:Int)=>[(3,some (.int .i64 l))])
 (fun m l n=>ay (Addr.add a 3) n fun o=>
 az (decide (l<(o.n:Int)))
 (ay (Addr.add a 3) n fun p=>
 aZ p.a l p.n
 (uV (Addr.add (base p.a) (Int.toNat l * 4)) n fun q s t u=>
 (aH (l+1)∧
 ax Pr ND [.agg ⟨fu q s t u⟩,.int .i64 (l+1)] n fun v x=>
 aQ v fun y=>
 az (!y)
 (R (.bool false) x)
 ((aH (l+1)∧
 m (l+1) x)))))
 (R (.bool true) n))
 0 b)
theorem ahc {iR iS iT:Int} {iU:ah} {w:World} {R:Value→World→Prop} (h:QB iR iS iT iU w R):Ok Pr P8 [.agg ⟨fu iR iS iT iU⟩] w R:=
 aP (m:=⟨true,true⟩) (J:=[]) (L:=[(4,[(3,.int .i64)])]) aN Tryz.func102 (by kernel_rfl) ((by kernel_rfl:aO Pr _ _ _ Tryz.f102 _ w R=QB iR iS iT iU w R).mpr h)
def PI (bz:Int) (bA bB:ah) (bH bI bJ:ah) (w:World) (R:Value→World→Prop):Prop:=
 nw aA (aT bz bA bB bH bI bJ) w fun a b=>
 nw aA (zc Pr aA) b fun c d=>
 ay (Addr.add a 1) d fun e=>
 cS Pr [bp,bp] bp [.slice none 0 0,.slice e.a e.n e.c] d fun f g=>
 st (Addr.add a 1) (.slice f.a f.n f.c) g fun i=>
 ay (Addr.add a 2) i fun j=>
 cS Pr [jU,jU] jU [.slice none 0 0,.slice j.a j.n j.c] i fun k l=>
 st (Addr.add a 2) (.slice k.a k.n k.c) l fun m=>
 ay (Addr.add a 3) m fun n=>
 cS Pr [nE,nE] nE [.slice none 0 0,.slice n.a n.n n.c] m fun o p=>
 st (Addr.add a 3) (.slice o.a o.n o.c) p fun q=>
 dX (fun (s:Int)=>[(3,some (.int .i64 s))])
 (fun t s u=>ay (Addr.add a 3) u fun v=>
 az (decide (s<(v.n:Int)))
 (ay (Addr.add a 3) (World.drew u) fun x=>
 ay (Addr.add a 3) (World.drew u) fun y=>
 aZ y.a s y.n
 (ay (Addr.add (Addr.add (base y.a) (Int.toNat s * 5)) 2) (World.drew u) fun z=>
 cS Pr [bp,bp] bp [.slice none 0 0,.slice z.a z.n z.c] (World.drew u) fun A B=>
 (kept (Addr.add a 3) 1 (World.drew u) B∧
 aZ x.a s x.n
 (st (Addr.add (Addr.add (base x.a) (Int.toNat s * 5)) 2) (.slice A.a A.n A.c) B fun C=>
 (aH (s+1)∧
 t (s+1) C)))))
 (ay (Addr.add a 4) u fun D=>
 cS Pr [nH,nH] nH [.slice none 0 0,.slice D.a D.n D.c] u fun E F=>
 st (Addr.add a 4) (.slice E.a E.n E.c) F fun G=>
 dX (fun (I:Int)=>[(4,some (.int .i64 I))])
 (fun J I L=>ay (Addr.add a 4) L fun M=>
 az (decide (I<(M.n:Int)))
 (ay (Addr.add a 4) (World.drew L) fun N=>
 ay (Addr.add a 4) (World.drew L) fun O=>
 aZ O.a I O.n
 (iI (Addr.add (base O.a) (Int.toNat I * 4)) (World.drew L) fun Q S T U=>
 ax Pr Po [.agg ⟨fu Q S T U⟩] (World.drew L) fun V X=>
 Cx V fun Y Z aa ba=>
 (kept (Addr.add a 4) 1 (World.drew L) X∧
 aZ N.a I N.n
 (kR (Addr.add (base N.a) (Int.toNat I * 4)) Y Z aa ba X fun ca=>
 (aH (I+1)∧
 J (I+1) ca)))))
 (ay (Addr.add a 5) L fun da=>
 cS Pr [nF,nF] nF [.slice none 0 0,.slice da.a da.n da.c] L fun ea fa=>
 st (Addr.add a 5) (.slice ea.a ea.n ea.c) fa fun ga=>
 aG a ga fun ia ja ka la ma na=>
 aV c ia ja ka la ma na ga fun oa=>
 aG c oa fun pa qa sa ta ua va=>
 R (.agg ⟨aT pa qa sa ta ua va⟩) oa))
 0 G))
 0 q
theorem agy {bz:Int} {bA bB:ah} {bH bI bJ:ah} {w:World} {R:Value→World→Prop} (h:PI bz bA bB bH bI bJ w R):Ok Pr I3 [.agg ⟨aT bz bA bB bH bI bJ⟩] w R:=
 aP (m:=⟨true,true⟩) (J:=[]) (L:=[(5,[(3,.int .i64)]),(10,[(4,.int .i64)])]) aN Tryz.func107 (by kernel_rfl) ((by kernel_rfl:aO Pr _ _ _ Tryz.f107 _ w R=PI bz bA bB bH bI bJ w R).mpr h)
def QC (high used n:Int) (w:World) (R:Value→World→Prop):Prop:=
 ax Pr EK [.int .i64 high,.int .u64 used] w fun a b=>
 aQ a fun c=>
 az (!c)
 (R (.tuple ⟨qv 0 0 2⟩) b)
 (ax Pr OE (qv high used n) b fun d e=>
 aQ d fun f=>
 az (!f)
 (R (.tuple ⟨qv 0 0 8⟩) e)
 (az (decide (n≤high))
 ((aH (high - n)∧
 lD (high - n) (R (.tuple ⟨qv high (rC .u64 used (shl .u64 1 (high - n))) 0⟩) (World.drew e))))
 ((aH (n - high)∧
 az (decide (64≤n - high))
 (R (.tuple ⟨qv n 1 0⟩) e)
 ((aH (n - high)∧
 lD (n - high) (R (.tuple ⟨qv n (rC .u64 (shl .u64 used (n - high)) 1) 0⟩) (World.drew e))))))))
theorem ahd {high used n:Int} {w:World} {R:Value→World→Prop} (h:QC high used n w R):Ok Pr Jm (qv high used n) w R:=
 aP (m:=⟨true,true⟩) (J:=[]) (L:=[]) aN Tryz.func112 (by kernel_rfl) ((by kernel_rfl:aO Pr _ _ _ Tryz.f112 _ w R=QC high used n w R).mpr h)
def Ri (n lo hi:Int) (w:World) (R:Value→World→Prop):Prop:=
 R (.bool ((decide (lo≤n)) && (decide (n≤hi)))) w
theorem ahK {n lo hi:Int} {w:World} {R:Value→World→Prop} (h:Ri n lo hi w R):Ok Pr Cw (jB n lo hi) w R:=
 aP (m:=⟨true,true⟩) (J:=[]) (L:=[]) aN Tryz.func124 (by kernel_rfl) ((by kernel_rfl:aO Pr _ _ _ Tryz.f124 _ w R=Ri n lo hi w R).mpr h)
def OQ (l:ah) (w:World) (R:Value→World→Prop):Prop:=
 az (decide (8<(l.n:Int)))
 (R (.bool false) w)
 (dX (fun (a:Int)=>[(11,some (.int .i64 a))])
 (fun b a c=>az (decide (a<(l.n:Int)))
 (aZ l.a a l.n
 (Am (Addr.add (base l.a) (Int.toNat a * 3)) c fun d e f=>
 nw cZ (zc Pr cZ) c fun g i=>
 uX g d e f i fun j=>
 au .i64 (Addr.add g 0) (World.drew j) fun k=>
 (aH (a+1)∧
 au .i64 (Addr.add g 1) (World.drew j) fun m=>
 au .i64 (Addr.add g 1) (World.drew j) fun n=>
 dR (Addr.add g 2) (World.drew j) fun o=>
 az (((!decide (k=a+1)) || (decide (m<min a 1))) || (decide (a<n)))
 (R (.bool false) (World.drew j))
 (ax Pr ID [.string o] (World.drew j) fun p q=>
 aQ p fun s=>
 az (!s)
 (R (.bool false) q)
 (Bt l a fun t=>
 au .i64 (Addr.add g 1) q fun u=>
 dR (Addr.add g 2) q fun v=>
 ax Pr IE (AH t u v) q fun x y=>
 aQ x fun z=>
 az z
 (R (.bool false) y)
 ((aH (a+1)∧
 b (a+1) y)))))))
 (R (.bool true) c))
 0 w)
theorem afR {l:ah} {w:World} {R:Value→World→Prop} (h:OQ l w R):Ok Pr Ew [.slice l.a l.n l.c] w R:=
 aP (m:=⟨true,true⟩) (J:=[]) (L:=[(4,[(11,.int .i64)])]) aN Tryz.func125 (by kernel_rfl) ((by kernel_rfl:aO Pr _ _ _ Tryz.f125 _ w R=OQ l w R).mpr h)
def PJ (high used:Int) (w:World) (R:Value→World→Prop):Prop:=
 iJ []
 (fun a=>R (.bool (decide (vI .u64 used 1=1))) a)
 (fun b=>
 az ((decide (high<0)) || (decide (1099511627776<high)))
 (R (.bool false) w)
 (az (decide (high=0))
 (R (.bool (decide (used=0))) w)
 (az (decide (high<64))
 (lD high (az (!decide (shr .u64 used high=0))
 (R (.bool false) w)
 (b w)))
 (b w))))
theorem agz {high used:Int} {w:World} {R:Value→World→Prop} (h:PJ high used w R):Ok Pr EE [.int .i64 high,.int .u64 used] w R:=
 aP (m:=⟨true,true⟩) (J:=[(7,[])]) (L:=[]) aN Tryz.func128 (by kernel_rfl) ((by kernel_rfl:aO Pr _ _ _ Tryz.f128 _ w R=PJ high used w R).mpr h)
def Rj (iR iS iT:Int) (iU:ah) (w:World) (R:Value→World→Prop):Prop:=
 nw bW (fu iR iS iT iU) w fun a b=>
 iJ []
 (fun c=>ay (Addr.add a 3) c fun d=>
 dX (fun (e:Int)=>[(31,some (.int .i64 e))])
 (fun f e g=>az (decide (e<(d.n:Int)))
 (aZ d.a e d.n
 (uV (Addr.add (base d.a) (Int.toNat e * 4)) g fun i j k l=>
 nw eW (zc Pr eW) g fun m n=>
 rT m i j k l n fun o=>
 uV m o fun p q s t=>
 (aH (e+1)∧
 ax Pr Q6 [.agg ⟨fu p q s t⟩,.int .i64 (e+1)] o fun u v=>
 aQ u fun x=>
 az (!x)
 (R (.bool false) v)
 ((aH (e+1)∧
 f (e+1) v)))))
 (R (.bool true) g))
 0 c)
 (fun y=>
 au .i64 (Addr.add a 0) b fun z=>
 ax Pr Av (jB z 1 6) b fun A B=>
 aQ A fun C=>
 au .i64 (Addr.add a 1) B fun D=>
 az (!C)
 (au .i64 (Addr.add a 2) B fun E=>
 ay (Addr.add a 3) B fun F=>
 R (.bool false) B)
 (ax Pr Av (jB D 1 8) B fun G I=>
 aQ G fun J=>
 au .i64 (Addr.add a 2) I fun L=>
 az (!J)
 (ay (Addr.add a 3) I fun M=>
 R (.bool false) I)
 (ax Pr Av (jB L 1 3) I fun N O=>
 aQ N fun Q=>
 ay (Addr.add a 3) O fun S=>
 az (!Q)
 (R (.bool false) O)
 (ax Pr Av (jB (S.n:Int) 1 5) O fun T U=>
 aQ T fun V=>
 az (!V)
 (R (.bool false) U)
 (y U)))))
theorem ahL {iR iS iT:Int} {iU:ah} {w:World} {R:Value→World→Prop} (h:Rj iR iS iT iU w R):Ok Pr QZ [.agg ⟨fu iR iS iT iU⟩] w R:=
 aP (m:=⟨true,true⟩) (J:=[(3,[])]) (L:=[(4,[(31,.int .i64)])]) aN Tryz.func129 (by kernel_rfl) ((by kernel_rfl:aO Pr _ _ _ Tryz.f129 _ w R=Rj iR iS iT iU w R).mpr h)
def OR (oh oo:Int) (oq ou oz:Int) (oA:Bool) (free:Addr) (w:World) (R:Value→World→Prop):Prop:=
 nw dJ (pz oh oo oq ou oz oA) w fun a b=>
 au .i64 (Addr.add a 1) b fun c=>
 ay (Addr.add free 4) b fun d=>
 au .i64 (Addr.add a 2) b fun e=>
 ay (Addr.add free 3) b fun f=>
 R (.bool ((decide ((d.n:Int)<c)) || (decide ((f.n:Int)<e)))) b
theorem afS {oh oo:Int} {oq ou oz:Int} {oA:Bool} {free:Addr} {w:World} {R:Value→World→Prop} (h:OR oh oo oq ou oz oA free w R):Ok Pr OA [.agg ⟨pz oh oo oq ou oz oA⟩,.pointer (some free)] w R:=
 aP (m:=⟨true,true⟩) (J:=[]) (L:=[]) aN Tryz.func131 (by kernel_rfl) ((by kernel_rfl:aO Pr _ _ _ Tryz.f131 _ w R=OR oh oo oq ou oz oA free w R).mpr h)
def NN (uG uH uI:Int) (uJ:ah) (n:Int) (w:World) (R:Value→World→Prop):Prop:=
 nw eW (fu uG uH uI uJ) w fun a b=>
 au .i64 (Addr.add a 0) b fun c=>
 au .i64 (Addr.add a 1) b fun d=>
 au .i64 (Addr.add a 1) b fun e=>
 az (((!decide (c=n)) || (decide (d<1))) || (decide (4<e)))
 (R (.bool false) b)
 (au .i64 (Addr.add a 1) b fun f=>
 ay (Addr.add a 3) b fun g=>
 au .i64 (Addr.add a 1) b fun i=>
 ay (Addr.add a 3) b fun j=>
 az (((decide (f=4)) && (!decide ((g.n:Int)=0))) || ((!decide (i=4)) && (!decide ((j.n:Int)=64))))
 (R (.bool false) b)
 (au .i64 (Addr.add a 1) b fun k=>
 az (decide (k=3))
 (au .i64 (Addr.add a 2) b fun l=>
 au .i64 (Addr.add a 2) b fun m=>
 R (.bool ((decide (1≤l)) && (decide (m≤1099511627776)))) b)
 (au .i64 (Addr.add a 2) b fun o=>
 R (.bool (decide (o=0))) b)))
theorem afd {uG uH uI:Int} {uJ:ah} {n:Int} {w:World} {R:Value→World→Prop} (h:NN uG uH uI uJ n w R):Ok Pr ND [.agg ⟨fu uG uH uI uJ⟩,.int .i64 n] w R:=
 aP (m:=⟨true,true⟩) (J:=[]) (L:=[]) aN Tryz.func137 (by kernel_rfl) ((by kernel_rfl:aO Pr _ _ _ Tryz.f137 _ w R=NN uG uH uI uJ n w R).mpr h)
def PK (iR iS iT:Int) (iU:ah) (w:World) (R:Value→World→Prop):Prop:=
 nw bW (fu iR iS iT iU) w fun a b=>
 nw bW (zc Pr bW) b fun c d=>
 ay (Addr.add a 3) d fun e=>
 cS Pr [rS,rS] rS [.slice none 0 0,.slice e.a e.n e.c] d fun f g=>
 st (Addr.add a 3) (.slice f.a f.n f.c) g fun i=>
 dX (fun (j:Int)=>[(3,some (.int .i64 j))])
 (fun k j l=>ay (Addr.add a 3) l fun m=>
 az (decide (j<(m.n:Int)))
 (ay (Addr.add a 3) (World.drew l) fun n=>
 ay (Addr.add a 3) (World.drew l) fun o=>
 aZ o.a j o.n
 (ay (Addr.add (Addr.add (base o.a) (Int.toNat j * 4)) 3) (World.drew l) fun p=>
 cS Pr [bp,bp] bp [.slice none 0 0,.slice p.a p.n p.c] (World.drew l) fun q s=>
 (kept (Addr.add a 3) 1 (World.drew l) s∧
 aZ n.a j n.n
 (st (Addr.add (Addr.add (base n.a) (Int.toNat j * 4)) 3) (.slice q.a q.n q.c) s fun t=>
 (aH (j+1)∧
 k (j+1) t)))))
 (iI a l fun u v x y=>
 kR c u v x y l fun z=>
 iI c z fun A B C D=>
 R (.agg ⟨fu A B C D⟩) z))
 0 i
theorem agA {iR iS iT:Int} {iU:ah} {w:World} {R:Value→World→Prop} (h:PK iR iS iT iU w R):Ok Pr Po [.agg ⟨fu iR iS iT iU⟩] w R:=
 aP (m:=⟨true,true⟩) (J:=[]) (L:=[(3,[(3,.int .i64)])]) aN Tryz.func140 (by kernel_rfl) ((by kernel_rfl:aO Pr _ _ _ Tryz.f140 _ w R=PK iR iS iT iU w R).mpr h)
def OS (l:ah) (a b:Int) (w:World) (R:Value→World→Prop):Prop:=
 ax Pr Pq [.slice l.a l.n l.c,.int .i64 b] w fun c d=>
 aK c fun e=>
 dX (fun (f:Int)=>[(8,some (.int .i64 f))])
 (fun g f i=>az (decide (f<(e.n:Int)))
 (aZ e.a f e.n
 (au .i64 (Addr.add (base e.a) (Int.toNat f * 1)) i fun j=>
 az (decide (j=a))
 (R (.bool true) i)
 ((aH (f+1)∧
 g (f+1) i))))
 (R (.bool false) i))
 0 d
theorem afT {l:ah} {a b:Int} {w:World} {R:Value→World→Prop} (h:OS l a b w R):Ok Pr OC (sr l a b) w R:=
 aP (m:=⟨true,true⟩) (J:=[]) (L:=[(3,[(8,.int .i64)])]) aN Tryz.func143 (by kernel_rfl) ((by kernel_rfl:aO Pr _ _ _ Tryz.f143 _ w R=OS l a b w R).mpr h)
def QD (l:ah) (parent:Int) (name:ByteArray) (w:World) (R:Value→World→Prop):Prop:=
 ax Pr EI [.slice l.a l.n l.c] w fun a b=>
 aQ a fun c=>
 az (!c)
 (R (.tuple ⟨sr ⟨none,0,0⟩ 0 2⟩) b)
 (ax Pr zZ [.slice l.a l.n l.c,.int .i64 parent] b fun d e=>
 aQ d fun f=>
 az (!f)
 (R (.tuple ⟨sr ⟨none,0,0⟩ 0 9⟩) e)
 (az ((decide (((ByteArray.size name:Nat):Int)<1)) || (decide (300<((ByteArray.size name:Nat):Int))))
 (R (.tuple ⟨sr ⟨none,0,0⟩ 0 2⟩) e)
 (dX (fun (g:Int)=>[(9,some (.int .i64 g))])
 (fun i g j=>az (decide (g<(l.n:Int)))
 (fD (fun (k:Bool)=>[(50,some (.bool k))])
 (fun k m=>az k
 (R (.tuple ⟨sr ⟨none,0,0⟩ 0 13⟩) m)
 ((aH (g+1)∧
 i (g+1) m)))
 (fun n=>
 aZ l.a g l.n
 (au .i64 (Addr.add (Addr.add (base l.a) (Int.toNat g * 3)) 1) j fun o=>
 az (decide (o=parent))
 (aZ l.a g l.n
 (dR (Addr.add (Addr.add (base l.a) (Int.toNat g * 3)) 2) j fun p=>
 n (decide (p=name)) j))
 (n false j))))
 (az (decide (8≤(l.n:Int)))
 (R (.tuple ⟨sr ⟨none,0,0⟩ 0 12⟩) j)
 (cS Pr [jU,jU] jU [.slice none 0 0,.slice l.a l.n l.c] j fun q s=>
 (aH ((l.n:Int)+1)∧
 nw cZ (tQ ((l.n:Int)+1) parent name) s fun t u=>
 cS Pr [jU,jU] jU [.slice q.a q.n q.c,.slice (some t) 1 1] u fun v x=>
 (aH ((l.n:Int)+1)∧
 R (.tuple ⟨sr v ((l.n:Int)+1) 0⟩) x)))))
 0 e)))
theorem ahe {l:ah} {parent:Int} {name:ByteArray} {w:World} {R:Value→World→Prop} (h:QD l parent name w R):Ok Pr Qo (AH l parent name) w R:=
 aP (m:=⟨true,true⟩) (J:=[(11,[(50,.bool)])]) (L:=[(8,[(9,.int .i64)])]) aN Tryz.func147 (by kernel_rfl) ((by kernel_rfl:aO Pr _ _ _ Tryz.f147 _ w R=QD l parent name w R).mpr h)
def OT (high used n:Int) (w:World) (R:Value→World→Prop):Prop:=
 ax Pr EK [.int .i64 high,.int .u64 used] w fun a b=>
 aQ a fun c=>
 az (((!c) || (decide (n<1))) || (decide (1099511627776<n)))
 (R (.bool false) b)
 (az (decide (high<n))
 (R (.bool true) b)
 (az (decide (IntKind.wrap .i64 (high - n)<64))
 (lD (IntKind.wrap .i64 (high - n)) (R (.bool (decide (vI .u64 (shr .u64 used (IntKind.wrap .i64 (high - n))) 1=0))) b))
 (R (.bool false) b)))
theorem afU {high used n:Int} {w:World} {R:Value→World→Prop} (h:OT high used n w R):Ok Pr OE (qv high used n) w R:=
 aP (m:=⟨true,true⟩) (J:=[]) (L:=[]) aN Tryz.func157 (by kernel_rfl) ((by kernel_rfl:aO Pr _ _ _ Tryz.f157 _ w R=OT high used n w R).mpr h)
def PL (bz:Int) (bA bB:ah) (bH bI bJ:ah) (w:World) (R:Value→World→Prop):Prop:=
 nw aA (aT bz bA bB bH bI bJ) w fun a b=>
 nw aA (zc Pr aA) b fun c d=>
 ay (Addr.add a 1) (World.drew d) fun e=>
 ay (Addr.add a 2) (World.drew d) fun f=>
 ay (Addr.add a 3) (World.drew d) fun g=>
 ay (Addr.add a 4) (World.drew d) fun i=>
 ay (Addr.add a 5) (World.drew d) fun j=>
 ax Pr sY [.slice e.a e.n e.c] (World.drew d) fun k l=>
 aK k fun m=>
 (kept (Addr.add a 5) 1 (World.drew d) l∧
 (kept (Addr.add a 4) 1 (World.drew d) l∧
 (kept (Addr.add a 3) 1 (World.drew d) l∧
 (kept (Addr.add a 2) 1 (World.drew d) l∧
 ax Pr Ip [.slice f.a f.n f.c] l fun n o=>
 aK n fun p=>
 (kept (Addr.add a 5) 1 l o∧
 (kept (Addr.add a 4) 1 l o∧
 (kept (Addr.add a 3) 1 l o∧
 ax Pr L5 [.slice g.a g.n g.c] o fun q s=>
 aK q fun t=>
 (kept (Addr.add a 5) 1 o s∧
 (kept (Addr.add a 4) 1 o s∧
 ax Pr Mn [.slice i.a i.n i.c] s fun u v=>
 aK u fun x=>
 (kept (Addr.add a 5) 1 s v∧
 ax Pr L8 [.slice j.a j.n j.c] v fun y z=>
 aK y fun A=>
 st (Addr.add a 1) (.slice m.a m.n m.c) z fun B=>
 st (Addr.add a 2) (.slice p.a p.n p.c) B fun C=>
 st (Addr.add a 3) (.slice t.a t.n t.c) C fun D=>
 st (Addr.add a 4) (.slice x.a x.n x.c) D fun E=>
 st (Addr.add a 5) (.slice A.a A.n A.c) E fun F=>
 ay (Addr.add a 3) F fun G=>
 dX (fun (I:Int)=>[(30,some (.int .i64 I))])
 (fun J I L=>az (decide (I<(G.n:Int)))
 (ay (Addr.add a 3) (World.drew L) fun M=>
 ay (Addr.add a 3) (World.drew L) fun N=>
 aZ N.a I N.n
 (ay (Addr.add (Addr.add (base N.a) (Int.toNat I * 5)) 2) (World.drew L) fun O=>
 ax Pr sY [.slice O.a O.n O.c] (World.drew L) fun Q S=>
 aK Q fun T=>
 (kept (Addr.add a 3) 1 (World.drew L) S∧
 aZ M.a I M.n
 (st (Addr.add (Addr.add (base M.a) (Int.toNat I * 5)) 2) (.slice T.a T.n T.c) S fun U=>
 (aH (I+1)∧
 J (I+1) U)))))
 (ay (Addr.add a 4) L fun V=>
 dX (fun (X:Int)=>[(49,some (.int .i64 X))])
 (fun Y X Z=>az (decide (X<(V.n:Int)))
 (ay (Addr.add a 4) Z fun aa=>
 aZ aa.a X aa.n
 (ay (Addr.add (Addr.add (base aa.a) (Int.toNat X * 4)) 3) Z fun ba=>
 ax Pr L1 [.slice ba.a ba.n ba.c] Z fun ca da=>
 aK ca fun ea=>
 st (Addr.add (Addr.add (base aa.a) (Int.toNat X * 4)) 3) (.slice ea.a ea.n ea.c) da fun fa=>
 ay (Addr.add (Addr.add (base aa.a) (Int.toNat X * 4)) 3) fa fun ga=>
 dX (fun (ia:Int)=>[(69,some (.int .i64 ia))])
 (fun ja ia ka=>az (decide (ia<(ga.n:Int)))
 (ay (Addr.add (Addr.add (base aa.a) (Int.toNat X * 4)) 3) (World.drew ka) fun la=>
 ay (Addr.add (Addr.add (base aa.a) (Int.toNat X * 4)) 3) (World.drew ka) fun ma=>
 aZ ma.a ia ma.n
 (ay (Addr.add (Addr.add (base ma.a) (Int.toNat ia * 4)) 3) (World.drew ka) fun na=>
 ax Pr sY [.slice na.a na.n na.c] (World.drew ka) fun oa pa=>
 aK oa fun qa=>
 (kept (Addr.add (Addr.add (base aa.a) (Int.toNat X * 4)) 3) 1 (World.drew ka) pa∧
 aZ la.a ia la.n
 (st (Addr.add (Addr.add (base la.a) (Int.toNat ia * 4)) 3) (.slice qa.a qa.n qa.c) pa fun sa=>
 (aH (ia+1)∧
 ja (ia+1) sa)))))
 ((aH (X+1)∧
 Y (X+1) ka)))
 0 fa))
 (aG a Z fun ta ua va xa ya za=>
 aV c ta ua va xa ya za Z fun Aa=>
 aG c Aa fun Ba Ca Da Ea Fa Ga=>
 R (.agg ⟨aT Ba Ca Da Ea Fa Ga⟩) Aa))
 0 L))
 0 F))))))))))
theorem agB {bz:Int} {bA bB:ah} {bH bI bJ:ah} {w:World} {R:Value→World→Prop} (h:PL bz bA bB bH bI bJ w R):Ok Pr Pp [.agg ⟨aT bz bA bB bH bI bJ⟩] w R:=
 aP (m:=⟨true,true⟩) (J:=[]) (L:=[(3,[(30,.int .i64)]),(8,[(49,.int .i64)]),(13,[(69,.int .i64)])]) aN Tryz.func165 (by kernel_rfl) ((by kernel_rfl:aO Pr _ _ _ Tryz.f165 _ w R=PL bz bA bB bH bI bJ w R).mpr h)
def NO (s:ByteArray) (w:World) (R:Value→World→Prop):Prop:=
 R (.bool ((decide (1≤((ByteArray.size s:Nat):Int))) && (decide (((ByteArray.size s:Nat):Int)≤300)))) w
theorem afe {s:ByteArray} {w:World} {R:Value→World→Prop} (h:NO s w R):Ok Pr ID [.string s] w R:=
 aP (m:=⟨true,true⟩) (J:=[]) (L:=[]) aN Tryz.func167 (by kernel_rfl) ((by kernel_rfl:aO Pr _ _ _ Tryz.f167 _ w R=NO s w R).mpr h)
def NP (l:ah) (parent:Int) (name:ByteArray) (w:World) (R:Value→World→Prop):Prop:=
 nw bn [.int .i64 parent] w fun a b=>
 nw so [.string name] b fun c d=>
 ax Pr LU [.slice l.a l.n l.c,.func (.func M6) ⟨[]⟩ ⟨[.pointer (some a),.pointer (some c)]⟩] d fun e f=>
 aQ e fun g=>
 R (.bool g) f
theorem aff {l:ah} {parent:Int} {name:ByteArray} {w:World} {R:Value→World→Prop} (h:NP l parent name w R):Ok Pr IE (AH l parent name) w R:=
 aP (m:=⟨true,true⟩) (J:=[]) (L:=[]) aN Tryz.func168 (by kernel_rfl) ((by kernel_rfl:aO Pr _ _ _ Tryz.f168 _ w R=NP l parent name w R).mpr h)
def RE (n lo hi:Int) (w:World) (R:Value→World→Prop):Prop:=
 R (.bool ((decide (lo≤n)) && (decide (n≤hi)))) w
theorem aij {n lo hi:Int} {w:World} {R:Value→World→Prop} (h:RE n lo hi w R):Ok Pr Av (jB n lo hi) w R:=
 aP (m:=⟨true,true⟩) (J:=[]) (L:=[]) aN Tryz.func171 (by kernel_rfl) ((by kernel_rfl:aO Pr _ _ _ Tryz.f171 _ w R=RE n lo hi w R).mpr h)
def Rk (uG uH uI:Int) (uJ:ah) (n:Int) (w:World) (R:Value→World→Prop):Prop:=
 nw eW (fu uG uH uI uJ) w fun a b=>
 au .i64 (Addr.add a 2) (World.drew b) fun c=>
 ay (Addr.add a 3) (World.drew b) fun d=>
 lt (A:=Bool) (decide ((d.n:Int)=64)) fun e=>
 AQ (fun (f g:Bool)=>[(5,some (.bool f)),(6,some (.bool g))])
 (fun f g i=>au .i64 (Addr.add a 0) i fun j=>
 R (.bool (((decide (j=n)) && f) && g)) i)
 (fun k=>
 au .i64 (Addr.add a 1) (World.drew b) fun l=>
 az (decide (l=3))
 (au .i64 (Addr.add a 2) (World.drew b) fun m=>
 ax Pr Av (jB m 1 1099511627776) (World.drew b) fun o p=>
 aQ o fun q=>
 k q e p)
 (az (decide (l=4))
 (ay (Addr.add a 3) (World.drew b) fun s=>
 lt (A:=Bool) (decide ((s.n:Int)=0)) fun t=>
 k (decide (c=0)) t (World.drew b))
 (az (decide (l=1))
 (az (decide (l=1))
 (k (decide (c=0)) e (World.drew b))
 (R (.bool false) (World.drew b)))
 (az (decide (l=2))
 (k (decide (c=0)) e (World.drew b))
 (R (.bool false) (World.drew b))))))
theorem ahM {uG uH uI:Int} {uJ:ah} {n:Int} {w:World} {R:Value→World→Prop} (h:Rk uG uH uI uJ n w R):Ok Pr Q6 [.agg ⟨fu uG uH uI uJ⟩,.int .i64 n] w R:=
 aP (m:=⟨true,true⟩) (J:=[(10,[(5,.bool),(6,.bool)])]) (L:=[]) aN Tryz.func172 (by kernel_rfl) ((by kernel_rfl:aO Pr _ _ _ Tryz.f172 _ w R=Rk uG uH uI uJ n w R).mpr h)
def PM (l:ah) (a:Int) (w:World) (R:Value→World→Prop):Prop:=
 ko (fun (b:Int) (c:ah)=>[(1,some (.int .i64 b)),(5,some (.slice c.a c.n c.c))])
 (fun d b c e=>iJ []
 (fun f=>nw bn [.int .i64 b] f fun g i=>
 cS Pr [nJ,nJ] nJ [.slice c.a c.n c.c,.slice (some g) 1 1] i fun j k=>
 (aH (b - 1)∧
 aZ l.a (b - 1) l.n
 (au .i64 (Addr.add (Addr.add (base l.a) (Int.toNat (b - 1) * 3)) 1) k fun m=>
 d m j k)))
 (fun n=>
 ax Pr EI [.slice l.a l.n l.c] e fun o p=>
 aQ o fun q=>
 az q
 (ax Pr zZ [.slice l.a l.n l.c,.int .i64 b] p fun s t=>
 aQ s fun u=>
 az u
 (n t)
 (R (.slice c.a c.n c.c) t))
 (R (.slice c.a c.n c.c) p)))
 a ⟨none,0,0⟩ w
theorem agC {l:ah} {a:Int} {w:World} {R:Value→World→Prop} (h:PM l a w R):Ok Pr Pq [.slice l.a l.n l.c,.int .i64 a] w R:=
 aP (m:=⟨true,true⟩) (J:=[(3,[])]) (L:=[(2,[(1,.int .i64),(5,.sl)])]) aN Tryz.func176 (by kernel_rfl) ((by kernel_rfl:aO Pr _ _ _ Tryz.f176 _ w R=PM l a w R).mpr h)
def PN (high used n:Int) (w:World) (R:Value→World→Prop):Prop:=
 ax Pr EE [.int .i64 high,.int .u64 used] w fun a b=>
 aQ a fun c=>
 az (!c)
 (nw qo [.int .i64 2,.string RP] b fun d e=>
 R (.tuple ⟨[.int .i64 0,.int .u64 0,.iface kH (.pointer (some d))]⟩) e)
 (ax Pr N1 (qv high used n) b fun f g=>
 aQ f fun i=>
 az (!i)
 (nw qo [.int .i64 8,.string RP] g fun j k=>
 R (.tuple ⟨[.int .i64 0,.int .u64 0,.iface kH (.pointer (some j))]⟩) k)
 (az (decide (high<n))
 ((aH (n - high)∧
 lD (min (n - high) 64) (R (.tuple ⟨[.int .i64 n,.int .u64 (rC .u64 (shl .u64 used (min (n - high) 64)) 1),.nilIface]⟩) (World.drew g))))
 ((aH (high - n)∧
 lD (high - n) (R (.tuple ⟨[.int .i64 high,.int .u64 (rC .u64 used (shl .u64 1 (high - n))),.nilIface]⟩) (World.drew g))))))
theorem agD {high used n:Int} {w:World} {R:Value→World→Prop} (h:PN high used n w R):Ok Pr Pt (qv high used n) w R:=
 aP (m:=⟨true,true⟩) (J:=[]) (L:=[]) aN Tryz.func184 (by kernel_rfl) ((by kernel_rfl:aO Pr _ _ _ Tryz.f184 _ w R=PN high used n w R).mpr h)
def Nn (bz bA:Int) (bB:ByteArray) (free Fx:Addr) (w:World) (R:Value→World→Prop):Prop:=
 nw cZ (tQ bz bA bB) w fun a b=>
 au .i64 (Addr.add a 1) b fun c=>
 au .i64 free b fun d=>
 dR (Addr.add a 2) b fun e=>
 dR Fx b fun f=>
 R (.bool ((decide (c=d)) && (decide (e=f)))) b
theorem aeE {bz bA:Int} {bB:ByteArray} {free Fx:Addr} {w:World} {R:Value→World→Prop} (h:Nn bz bA bB free Fx w R):Ok Pr M6 [.agg ⟨tQ bz bA bB⟩,.pointer (some free),.pointer (some Fx)] w R:=
 aP (m:=⟨true,true⟩) (J:=[]) (L:=[]) aN Tryz.func200 (by kernel_rfl) ((by kernel_rfl:aO Pr _ _ _ Tryz.f200 _ w R=Nn bz bA bB free Fx w R).mpr h)
def N9 (high used n:Int) (w:World) (R:Value→World→Prop):Prop:=
 ax Pr EE [.int .i64 high,.int .u64 used] w fun a b=>
 aQ a fun c=>
 az ((((!c) || (decide (n<1))) || (decide (1099511627776<n))) || (decide (64≤IntKind.wrap .i64 (high - n))))
 (R (.bool false) b)
 (az (decide (high<n))
 (R (.bool true) b)
 (lD (IntKind.wrap .i64 (high - n)) (R (.bool (decide (vI .u64 (shr .u64 used (IntKind.wrap .i64 (high - n))) 1=0))) b)))
theorem afx {high used n:Int} {w:World} {R:Value→World→Prop} (h:N9 high used n w R):Ok Pr N1 (qv high used n) w R:=
 aP (m:=⟨true,true⟩) (J:=[]) (L:=[]) aN Tryz.func217 (by kernel_rfl) ((by kernel_rfl:aO Pr _ _ _ Tryz.f217 _ w R=N9 high used n w R).mpr h)
def NQ (l:ah) (a b:Int) (w:World) (R:Value→World→Prop):Prop:=
 ax Pr N2 [.slice l.a l.n l.c,.int .i64 b] w fun c d=>
 aK c fun e=>
 ax Pr Wx [.slice e.a e.n e.c,.int .i64 a] d fun f g=>
 aQ f fun i=>
 R (.bool i) g
theorem afg {l:ah} {a b:Int} {w:World} {R:Value→World→Prop} (h:NQ l a b w R):Ok Pr NF (sr l a b) w R:=
 aP (m:=⟨true,true⟩) (J:=[]) (L:=[]) aN Tryz.func219 (by kernel_rfl) ((by kernel_rfl:aO Pr _ _ _ Tryz.f219 _ w R=NQ l a b w R).mpr h)
def OU (l:ah) (parent:Int) (name:ByteArray) (w:World) (R:Value→World→Prop):Prop:=
 ax Pr Ew [.slice l.a l.n l.c] w fun a b=>
 aQ a fun c=>
 az (!c)
 (ax Pr xX [.int .i64 2] b fun d e=>
 R (.tuple ⟨[.slice none 0 0,.int .i64 0,d]⟩) e)
 (ax Pr IF [.slice l.a l.n l.c,.int .i64 parent] b fun f g=>
 aQ f fun i=>
 az (!i)
 (ax Pr xX [.int .i64 9] g fun j k=>
 R (.tuple ⟨[.slice none 0 0,.int .i64 0,j]⟩) k)
 (ax Pr ID [.string name] g fun m n=>
 aQ m fun o=>
 az (!o)
 (ax Pr xX [.int .i64 2] n fun p q=>
 R (.tuple ⟨[.slice none 0 0,.int .i64 0,p]⟩) q)
 (ax Pr IE (AH l parent name) n fun s t=>
 aQ s fun u=>
 az u
 (ax Pr xX [.int .i64 13] t fun v x=>
 R (.tuple ⟨[.slice none 0 0,.int .i64 0,v]⟩) x)
 (az (decide ((l.n:Int)=8))
 (ax Pr xX [.int .i64 12] t fun y z=>
 R (.tuple ⟨[.slice none 0 0,.int .i64 0,y]⟩) z)
 ((aH ((l.n:Int)+1)∧
 lt (A:=Int) ((l.n:Int)+1) fun B=>
 ax Pr Ip [.slice l.a l.n l.c] t fun C D=>
 aK C fun E=>
 nw cZ (tQ B parent name) D fun F G=>
 cS Pr [jU,jU] jU [.slice E.a E.n E.c,.slice (some F) 1 1] G fun I J=>
 R (.tuple ⟨[.slice I.a I.n I.c,.int .i64 B,.nilIface]⟩) J))))))
theorem afV {l:ah} {parent:Int} {name:ByteArray} {w:World} {R:Value→World→Prop} (h:OU l parent name w R):Ok Pr OH (AH l parent name) w R:=
 aP (m:=⟨true,true⟩) (J:=[]) (L:=[]) aN Tryz.func222 (by kernel_rfl) ((by kernel_rfl:aO Pr _ _ _ Tryz.f222 _ w R=OU l parent name w R).mpr h)
def Oh (l:ah) (a:Int) (w:World) (R:Value→World→Prop):Prop:=
 ax Pr Ew [.slice l.a l.n l.c] w fun b c=>
 aQ b fun d=>
 az (!d)
 (R (.slice none 0 0) c)
 (ko (fun (e:Int) (f:ah)=>[(1,some (.int .i64 e)),(5,some (.slice f.a f.n f.c))])
 (fun g e f i=>ax Pr IF [.slice l.a l.n l.c,.int .i64 e] i fun j k=>
 aQ j fun m=>
 az m
 (nw bn [.int .i64 e] k fun n o=>
 cS Pr [nJ,nJ] nJ [.slice f.a f.n f.c,.slice (some n) 1 1] o fun p q=>
 (aH (e - 1)∧
 aZ l.a (e - 1) l.n
 (au .i64 (Addr.add (Addr.add (base l.a) (Int.toNat (e - 1) * 3)) 1) q fun s=>
 g s p q)))
 (R (.slice f.a f.n f.c) k))
 a ⟨none,0,0⟩ c)
theorem afy {l:ah} {a:Int} {w:World} {R:Value→World→Prop} (h:Oh l a w R):Ok Pr N2 [.slice l.a l.n l.c,.int .i64 a] w R:=
 aP (m:=⟨true,true⟩) (J:=[]) (L:=[(4,[(1,.int .i64),(5,.sl)])]) aN Tryz.func255 (by kernel_rfl) ((by kernel_rfl:aO Pr _ _ _ Tryz.f255 _ w R=Oh l a w R).mpr h)
def NR (code:Int) (w:World) (R:Value→World→Prop):Prop:=
 nw qo [.int .i64 code,.string ajE] w fun a b=>
 R (.iface kH (.pointer (some a))) b
theorem afh {code:Int} {w:World} {R:Value→World→Prop} (h:NR code w R):Ok Pr xX [.int .i64 code] w R:=
 aP (m:=⟨true,true⟩) (J:=[]) (L:=[]) aN Tryz.func258 (by kernel_rfl) ((by kernel_rfl:aO Pr _ _ _ Tryz.f258 _ w R=NR code w R).mpr h)
def NS (l:ah) (l8:Int) (w:World) (R:Value→World→Prop):Prop:=
 R (.bool ((decide (1≤l8)) && (decide (l8≤(l.n:Int))))) w
theorem afi {l:ah} {l8:Int} {w:World} {R:Value→World→Prop} (h:NS l l8 w R):Ok Pr IF [.slice l.a l.n l.c,.int .i64 l8] w R:=
 aP (m:=⟨true,true⟩) (J:=[]) (L:=[]) aN Tryz.func259 (by kernel_rfl) ((by kernel_rfl:aO Pr _ _ _ Tryz.f259 _ w R=NS l l8 w R).mpr h)
end Go.Proofs.YtpchgbolambkcaaGreatDoor
end
section
set_option linter.unusedVariables false
set_option linter.unusedSimpArgs false
namespace Go.Proofs.YtpchgbolambkcaaGreatDoor
open Go Go.Ev
set_option maxRecDepth 20000
set_option linter.unusedVariables false
structure cJ where
 n:Int
 st:Int
 due:Int
 bV:List B8
def vz:cJ:=⟨0,0,0,[]⟩
def cJ.cs (v:cJ) (x:ah):List Value:=zX v.n v.st v.due x
theorem cJ.eo (v:cJ) (x:ah):(v.cs x).length=4:=rfl
def pI (w:World) (x:ah) (v:cJ):Prop:=Bytes w x v.bV
theorem pI.aI {w w':World} {x:ah} {v:cJ} (m:Mod [] w w') (h:pI w x v):pI w' x v:=Bytes.aI h m
def oQ (w:World) (s:ah) (vs:List cJ):Prop:=Dv cJ.cs 4 pI w s vs
theorem oQ.aI {w w':World} {s:ah} {vs:List cJ} (h:oQ w s vs) (m:Mod [] w w'):oQ w' s vs:=Dv.aI (E:=pI) (fun m h=>pI.aI m h) h m
theorem oQ.len {w:World} {s:ah} {vs:List cJ} (h:oQ w s vs):vs.length=s.n:=Dv.len cJ.eo (by omega) h
structure ct where
 id:Int
 ten:Int
 set:Int
 bu:List cJ
def kz:ct:=⟨0,0,0,[]⟩
def ct.cs (k:ct) (x:ah):List Value:=mP k.id k.ten k.set x
theorem ct.eo (k:ct) (x:ah):(k.cs x).length=4:=rfl
def vH (w:World) (x:ah) (v:cJ):Prop:=Own w 0 aM 1 x (aL v.bV)
theorem vH.r {w:World} {x:ah} {v:cJ} (h:vH w x v):pI w x v:=Own.bytes h
theorem akv {w:World} {xs:List ah} {vs:List cJ} (h:br vH w xs vs):br pI w xs vs:=⟨h.1,fun i x v hx hv=>(h.2 i x v hx hv).r⟩
def KJ (w:World) (s:ah) (vs:List cJ):Prop:=∃ ys,Own w 0 eW 4 s (bP cJ.cs vs ys)∧br vH w ys vs
theorem KJ.bu {w:World} {s:ah} {vs:List cJ} (h:KJ w s vs):oQ w s vs:=by
 obtain ⟨ys,h1,h2⟩:=h
 exact ⟨ys,h1.sl,akv h2⟩
def TQ (w w':World) (y:ah) (vs:List cJ):Prop:=∃ ys fp,aq w [] w' [.row eW 4 y (bP cJ.cs vs ys),.box fp fun w=>br vH w ys vs]
theorem TQ.box {w w':World} {y:ah} {vs:List cJ} (h:TQ w w' y vs):oN w w' fun w=>KJ w y vs:=by
 obtain ⟨ys,fp,H⟩:=h
 refine H.boxed fun w' k=>⟨ys,k 0 _ rfl,?_⟩
 have h2:(aB.box fp fun w=>br vH w ys vs).ok w':=k 1 _ rfl
 exact h2.2 w' fun _ _=>rfl
theorem ET (n lo hi:Int) (w:World):Ok Pr Av [.int .i64 n,.int .i64 lo,.int .i64 hi] w fun v w'=>v=.bool (aW lo hi n)∧w'=w:=by
 refine aij ?_
 unfold RE
 exact ⟨rfl,rfl⟩
def lO (v:cJ) (n:Int):Bool:=decide (v.n=n) && (if v.st=3 then aW 1 1099511627776 v.due && decide (v.bV.length=64) else if v.st=4 then decide (v.due=0) && decide (v.bV.length=0) else if v.st=1∨v.st=2 then decide (v.due=0) && decide (v.bV.length=64) else false)
theorem aiJ (v:cJ) (x:ah) (n:Int) (w:World) (hx:pI w x v):Ok Pr Q6 [.agg ⟨v.cs x⟩,.int .i64 n] w fun r w'=>r=.bool (lO v n)∧Mod [] w w':=by
 refine ahM ?_
 unfold Rk
 have cH:=Bytes.len hx
 refine (aq.start w).nw fun p w1 H _=>?_
 have H:aq w [] w1.drew [.av p (zX v.n v.st v.due x) eW]:=H.drew
 refine H.au 0 rfl (an p 2) rfl (H.ay 0 rfl (an p 3) rfl (yS (EZ fun go bX=>H.au 0 rfl (an p 1) rfl ?_)))
 have fin:∀ (d s:Bool),lO v n=(decide (v.n=n) && (d && s))→go d s w1.drew:=fun d s e=>by
  refine bX _ _ _ (H.au 0 rfl (an p 0) rfl ⟨?_,H.mod⟩)
  rw [e,Bool.and_assoc]
 have UF:decide (((x.n:Nat):Int)=64)=decide (v.bV.length=64):=decide_eq_decide.2 (by omega)
 have e0:decide (((x.n:Nat):Int)=0)=decide (v.bV.length=0):=decide_eq_decide.2 (by omega)
 rw [UF]
 refine cN (fun hc=>?_) (fun hc=>?_)
 ·have hc:=of_decide_eq_true hc
  refine H.au 0 rfl (an p 2) rfl (aC (ET _ _ _ _) ?_)
  rintro _ w2 ⟨rfl,hw⟩
  subst hw
  exact bh (fin _ _ (by unfold lO; rw [if_pos hc]))
 ·have h3:=of_decide_eq_false hc
  refine cN (fun hc=>?_) (fun hc=>?_)
  ·have hc:=of_decide_eq_true hc
   refine H.ay 0 rfl (an p 3) rfl (yS ?_)
   rw [e0]
   exact fin _ _ (by unfold lO; rw [if_neg h3,if_pos hc])
  ·have h4:=of_decide_eq_false hc
   have no:¬ (v.st=1∨v.st=2)→lO v n=false:=fun h=>by unfold lO; rw [if_neg h3,if_neg h4,if_neg h,Bool.and_false]
   refine cN (fun hc=>?_) (fun hc=>?_)
   ·refine ite_true hc ?_
    have hc:=of_decide_eq_true hc
    exact fin _ _ (by unfold lO; rw [if_neg h3,if_neg h4,if_pos (.inl hc)])
   ·have h1:=of_decide_eq_false hc
    refine cN (fun hc=>?_) (fun hc=>?_)
    ·have hc:=of_decide_eq_true hc
     exact fin _ _ (by unfold lO; rw [if_neg h3,if_neg h4,if_pos (.inr hc)])
    ·have h2:=of_decide_eq_false hc
     exact ⟨by rw [no (fun h=>h.elim h1 h2)],H.mod⟩
def qG (vs:List cJ):Nat→Bool
 | 0=>true
 | i+1=>qG vs i && lO (vs.getD i vz) ((i:Int)+1)
theorem SP {vs:List cJ} {i:Nat} (h:lO (vs.getD i vz) ((i:Int)+1)=false):∀ n,i<n→qG vs n=false
 | 0,hn=>by omega
 | n+1,hn=>by
  show (qG vs n && _)=false
  rcases Nat.lt_or_ge i n with h2 | h2
  ·rw [SP h n h2,Bool.false_and]
  ·rw [show n=i by omega,h,Bool.and_false]
def lX (k:ct):Bool:=aW 1 6 k.id && (aW 1 8 k.ten && (aW 1 3 k.set && (aW 1 5 (k.bu.length:Int) && qG k.bu k.bu.length)))
theorem aiK (k:ct) (x:ah) (hl:k.bu.length≤1000000) (w:World) (hx:oQ w x k.bu):Ok Pr QZ [.agg ⟨k.cs x⟩] w fun r w'=>r=.bool (lX k)∧Mod [] w w':=by
 refine ahL ?_
 unfold Rj
 have cH:=hx.len
 refine (aq.start w).nw fun p w1 H _=>?_
 have H:aq w [] w1 [.av p (mP k.id k.ten k.set x) bW]:=H
 refine iB fun go bX=>H.au 0 rfl (an p 0) rfl (aC (ET _ _ _ _) ?_)
 rintro _ w2 ⟨rfl,hw⟩
 subst hw
 refine bh (H.au 0 rfl (an p 1) rfl ?_)
 unfold lX
 cases h1:aW 1 6 k.id with
 | false=>exact ite_true rfl (H.au 0 rfl (an p 2) rfl (H.ay 0 rfl (an p 3) rfl ⟨rfl,H.mod⟩))
 | true=>
  refine ite_false rfl (aC (ET _ _ _ _) ?_)
  rintro _ w2 ⟨rfl,hw⟩
  subst hw
  refine bh (H.au 0 rfl (an p 2) rfl ?_)
  cases h2:aW 1 8 k.ten with
  | false=>exact ite_true rfl (H.ay 0 rfl (an p 3) rfl ⟨rfl,H.mod⟩)
  | true=>
   refine ite_false rfl (aC (ET _ _ _ _) ?_)
   rintro _ w2 ⟨rfl,hw⟩
   subst hw
   refine bh (H.ay 0 rfl (an p 3) rfl ?_)
   cases h3:aW 1 3 k.set with
   | false=>exact ite_true rfl ⟨rfl,H.mod⟩
   | true=>
    refine ite_false rfl (aC (ET _ _ _ _) ?_)
    rintro _ w2 ⟨rfl,hw⟩
    subst hw
    rw [show ((x.n:Nat):Int)=(k.bu.length:Int) by omega]
    refine bh ?_
    cases h4:aW 1 5 (k.bu.length:Int) with
    | false=>exact ite_true rfl ⟨rfl,H.mod⟩
    | true=>
     have eK:lX k=qG k.bu k.bu.length:=by unfold lX; rw [h1,h2,h3,h4]; rfl
     refine ite_false rfl (bX _ (H.ay 0 rfl (an p 3) rfl ?_))
     refine ep 0 k.bu.length (fun i w'=>qG k.bu i=true∧Mod [] w w') rfl (by omega) ⟨rfl,H.mod⟩ ?_ ?_
     ·rintro again i w3 _ hi ⟨fF,m⟩ aR
      have ha:k.bu[i]? = some (k.bu.getD i vz):=by rw [List.getD_eq_getElem?_getD,List.getElem?_eq_getElem hi]; rfl
      obtain ⟨cU,y,hy,hc⟩:=Dv.at cJ.eo (by omega) (hx.aI m) ha
      have hs:qG k.bu (i+1)=(qG k.bu i && lO (k.bu.getD i vz) ((i:Int)+1)):=rfl
      have jE:=SP (vs:=k.bu) (i:=i)
      generalize k.bu.getD i vz=v at *
      have D:=aq.start w3
      refine ite_true (decide_eq_true (by omega)) ⟨cU,BW hc (D.nw fun p2 w4 D _=>D.rT 0 rfl rfl fun w5 D=>D.uV 0 rfl ⟨⟨by omega,by omega⟩,aC (aiJ v y _ _ (pI.aI D.mod hy)) ?_⟩)⟩
      ·rintro _ w6 ⟨rfl,m6⟩
       refine bh ?_
       cases hv:lO v ((i:Int)+1) with
       | false=>exact ite_true rfl ⟨by rw [eK,jE hv _ hi],m.trans (D.mod.trans m6)⟩
       | true=>exact ite_false rfl ⟨⟨by omega,by omega⟩,aR _ ⟨by rw [hs,fF,hv]; rfl,m.trans (D.mod.trans m6)⟩⟩
     ·rintro again w3 ⟨fF,m⟩
      exact ite_false (decide_eq_false (by omega)) ⟨by rw [eK,fF],m⟩
end Go.Proofs.YtpchgbolambkcaaGreatDoor
end
section
set_option linter.unusedVariables false
set_option linter.unusedSimpArgs false
namespace Go.Proofs.YtpchgbolambkcaaGreatDoor
open Go Go.Ev
set_option maxRecDepth 20000
set_option linter.unusedVariables false
theorem Sr:fQ Pr rS eW 4 48:=fQ.of (by kernel_rfl)
theorem cJ.jM (v:cJ) (x:ah):∀ u∈v.cs x,fW u=true:=by
 intro u hu
 simp only [cJ.cs,zX,List.mem_cons,List.not_mem_nil,or_false] at hu
 rcases hu with rfl | rfl | rfl | rfl <;> rfl
theorem aeQ (x:ah) (vs:List cJ) (xs:List ah) (oV:xs.length=vs.length) (hl:vs.length≤1000000) (w:World) (hx:Sl w x 4 (bP cJ.cs vs xs)):Ok Pr L1 [.slice x.a x.n x.c] w fun v w'=>∃ y:ah,v=.slice y.a y.n y.c∧Own w' w.heap.size eW 4 y (bP cJ.cs vs xs)∧y.n=x.n∧Mod [] w w':=by
 refine adR ?_
 unfold L3
 have cH:=hx.len
 rw [kI cJ.eo vs xs oV] at cH
 refine cN (fun h=>?_) (fun h=>?_)
 ·have h0:x.n=0:=by
   rcases Nat.eq_zero_or_pos x.n with e | e
   ·exact e
   ·have:=Sl.pre hx e
    cases ha:x.a with
    | none=>rw [ha] at this; cases this
    | some a=>rw [ha] at h; cases h
  obtain rfl:vs=[]:=List.eq_nil_of_length_eq_zero (by omega)
  exact ⟨⟨none,0,0⟩,rfl,Own.nil _ _ _ _,h0.symm,Mod.refl _ _⟩
 ·refine (aq.start w).nw fun p w1 H _=>?_
  have H:=H.tW 0 4 0 0 rfl rfl (Nat.le_refl _) (by simp only [maxLen]; omega)
  refine H.app (s:=⟨some ⟨p,0,none⟩,0,0⟩) (vs:=[]) 0 Sr rfl (hx.aI H.mod) (vo cJ.jM vs xs) (by show (0+x.n) * 48≤_; omega) (by show 0+x.n≤_; omega) fun y w2 H hy=>?_
  exact ⟨y,rfl,H.mC 0 rfl,by rw [hy]; exact Nat.zero_add _,H.mod⟩
theorem CQ:zc Pr bW=[.int .i64 0,.int .i64 0,.int .i64 0,.slice none 0 0]:=by kernel_rfl
theorem alP:zc Pr eW=[.int .i64 0,.int .i64 0,.int .i64 0,.slice none 0 0]:=by kernel_rfl
theorem ZF (a:cJ) (x z:ah):a.cs z=(a.cs x).set 3 z.v:=rfl
theorem qA.ab2 {w w':World} {v:Value} {l:List B8} (h:qA w w' v l):∃ y:ah,v=.slice y.a y.n y.c∧oN w w' fun w=>Own w 0 aM 1 y (aL l):=by
 obtain ⟨y,rfl,hy,m⟩:=h
 exact ⟨y,rfl,oN.amE hy m fun w2 h=>h⟩
end Go.Proofs.YtpchgbolambkcaaGreatDoor
end
section
set_option linter.unusedVariables false
set_option linter.unusedSimpArgs false
namespace Go.Proofs.YtpchgbolambkcaaGreatDoor
open Go Go.Ev
set_option maxRecDepth 20000
set_option linter.unusedVariables false
theorem SQ {vs:List cJ}:∀ n,qG vs n=true→∀ i,i<n→lO (vs.getD i vz) ((i:Int)+1)=true
 | 0,_,i,hi=>by omega
 | n+1,h,i,hi=>by
  change (qG vs n && lO (vs.getD n vz) ((n:Int)+1))=true at h
  rw [Bool.and_eq_true] at h
  rcases Nat.lt_or_ge i n with h2 | h2
  ·exact SQ n h.1 i h2
  ·rw [show i=n by omega]; exact h.2
theorem alQ {k:ct} (h:lX k=true):(1≤k.id∧k.id≤6)∧(1≤k.ten∧k.ten≤8)∧(1≤k.set∧k.set≤3)∧(1≤k.bu.length∧k.bu.length≤5)∧∀ i,i<k.bu.length→lO (k.bu.getD i vz) ((i:Int)+1)=true:=by
 unfold lX aW at h
 simp only [Bool.and_eq_true,decide_eq_true_eq] at h
 obtain ⟨h1,h2,h3,h4,h5⟩:=h
 exact ⟨h1,h2,h3,⟨by omega,by omega⟩,SQ _ h5⟩
end Go.Proofs.YtpchgbolambkcaaGreatDoor
end
section
set_option linter.unusedVariables false
set_option linter.unusedSimpArgs false
namespace Go.Ev
open Go Go.RowKit
theorem aq.E8 {w0 w:World} {S:List Nat} {L:List aB} (H:aq w0 S w L) (k:Nat) {fp:List Nat} {Q Q':World→Prop} (hk:L[k]? = some (.box fp Q)) (h:∀ w,Q w→Q' w):aq w0 S w (L.set k (.box fp Q')):=
 H.less k hk (by
  have h2:(aB.box fp Q).ok w:=H.ok k _ hk
  exact ⟨h2.1,fun w' hw=>h w' (h2.2 w' hw)⟩) fun b hb=>hb
end Go.Ev
namespace Go.Proofs.YtpchgbolambkcaaGreatDoor
open Go Go.Ev
set_option maxRecDepth 20000
set_option linter.unusedVariables false
end Go.Proofs.YtpchgbolambkcaaGreatDoor
end
section
set_option linter.unusedVariables false
set_option linter.unusedSimpArgs false
namespace Go.Proofs.YtpchgbolambkcaaGreatDoor
open Go Go.Ev
set_option maxRecDepth 20000
set_option linter.unusedVariables false
theorem br.put {A:Type} {E:World→ah→A→Prop} {w:World} {xs:List ah} {ls:List A} (h:br E w xs ls) {i:Nat} {x:ah} {a:A} (hE:E w x a):br E w (xs.set i x) (ls.set i a):=by
 refine ⟨by rw [List.length_set,List.length_set]; exact h.1,fun j y b hy hb=>?_⟩
 rw [List.getElem?_set] at hy hb
 by_cases e:i=j
 ·subst e
  rw [if_pos rfl] at hy hb
  split at hy
  ·split at hb
   ·cases hy; cases hb; exact hE
   ·cases hb
  ·cases hy
 ·rw [if_neg e] at hy hb
  exact h.2 j y b hy hb
end Go.Proofs.YtpchgbolambkcaaGreatDoor
end
section
set_option linter.unusedVariables false
set_option linter.unusedSimpArgs false
namespace Go.Proofs.YtpchgbolambkcaaGreatDoor
open Go Go.Ev
set_option maxRecDepth 20000
set_option linter.unusedVariables false
def bt (u:bw) (k:Nat):bw:=(u >>> k) &&& 1
def iD (high:Int) (u:bw):Bool:=if high<0∨1099511627776<high then false else if high=0 then decide (u=0) else decide (high<64→u >>> high.toNat=0) && decide (u &&& 1=1)
def kT (high:Int) (u:bw) (n:Int):Bool:=if iD high u=true∧1≤n∧n≤1099511627776∧high - n<64 then decide (high<n) || decide (bt u (high - n).toNat=0) else false
def kU (high:Int) (u:bw) (n:Int):Int:=if iD high u=true then (if kT high u n=true then 0 else 8) else 2
def ur (high:Int) (u:bw) (n:Int):Int:=if kU high u n=0 then (if high<n then n else high) else 0
def A8 (high:Int) (u:bw) (n:Int):bw:=if kU high u n=0 then (if high<n then (u <<< (min (n - high) 64).toNat) ||| 1 else u ||| ((1:bw) <<< (high - n).toNat)) else 0
theorem JQ {high:Int} {u:bw} (h:iD high u=true):0≤high∧high≤1099511627776:=by
 unfold iD at h
 split at h
 ·cases h
 ·omega
theorem AB {x y:bw}:((x.toNat:Int)=(y.toNat:Int))↔x=y:=by
 rw [Int.ofNat_inj]
 exact ⟨BitVec.eq_of_toNat_eq,fun h=>by rw [h]⟩
theorem FK:(1:Int)=((1:bw).toNat:Int):=rfl
theorem amL:(0:Int)=((0:bw).toNat:Int):=rfl
theorem F1 (u:bw):vI .u64 (u.toNat:Int) 1=((u &&& 1).toNat:Int):=by
 have:=ann u 1
 rw [← FK] at this
 exact this
theorem OV (high:Int) (u:bw) (w:World):Ok Pr EE [.int .i64 high,.int .u64 (u.toNat:Int)] w fun r w'=>r=.bool (iD high u)∧w'=w:=by
 refine agz ?_
 unfold PJ
 refine iB fun go bX=>?_
 by_cases h:high<0∨1099511627776<high
 ·exact ite_true (by simpa using h) ⟨by unfold iD; rw [if_pos h],rfl⟩
 refine ite_false (by simpa using h) ?_
 by_cases h0:high=0
 ·refine ite_true (decide_eq_true h0) ⟨?_,rfl⟩
  unfold iD
  rw [if_neg h,if_pos h0]
  congr 1
  exact decide_eq_decide.2 (AB (y:=0))
 refine ite_false (decide_eq_false h0) ?_
 have last:iD high u=decide (u &&& 1=1)→go w:=fun e=>by
  refine bX _ ⟨?_,rfl⟩
  rw [e,F1]
  congr 1
  exact decide_eq_decide.2 (AB (y:=1))
 by_cases j7:high<64
 ·refine ite_true (decide_eq_true j7) (su (by omega) ?_)
  obtain ⟨k,rfl⟩:∃ k:Nat,high=(k:Int):=⟨high.toNat,by omega⟩
  rw [Dn]
  have hM:iD (k:Int) u=(decide (u >>> k=0) && decide (u &&& 1=1)):=by
   unfold iD
   rw [if_neg h,if_neg h0,Int.toNat_natCast]
   congr 1
   exact decide_eq_decide.2 ⟨fun f=>f j7,fun f _=>f⟩
  by_cases hz:u >>> k=0
  ·exact ite_false (by rw [decide_eq_true (show ((u >>> k).toNat:Int)=0 by rw [hz]; rfl)]; rfl) (last (by rw [hM,decide_eq_true hz]; rfl))
  ·exact ite_true (by rw [decide_eq_false (show ¬ ((u >>> k).toNat:Int)=0 from fun f=>hz (AB.1 (f.trans amL)))]; rfl) ⟨by rw [hM,decide_eq_false hz]; rfl,rfl⟩
 ·refine ite_false (decide_eq_false j7) (last ?_)
  unfold iD
  rw [if_neg h,if_neg h0,decide_eq_true (fun f=>absurd f j7),Bool.true_and]
theorem abE {a b:Int} (ha:0≤a∧a≤1099511627776) (hb:1≤b∧b≤1099511627776):IntKind.wrap .i64 (a - b)=a - b:=wrap_i64 (by omega) (by omega)
theorem agE (high:Int) (u:bw) (n:Int) (w:World):Ok Pr N1 [.int .i64 high,.int .u64 (u.toNat:Int),.int .i64 n] w fun r w'=>r=.bool (kT high u n)∧w'=w:=by
 refine afx ?_
 unfold N9
 refine aC (OV high u w) ?_
 rintro _ w1 ⟨rfl,hw⟩
 subst hw
 refine bh ?_
 by_cases h:iD high u=true∧1≤n∧n≤1099511627776
 case neg=>
  have e:kT high u n=false:=by unfold kT; rw [if_neg fun f=>h ⟨f.1,f.2.1,f.2.2.1⟩]
  refine ite_true ?_ ⟨by rw [e],rfl⟩
  cases hm:iD high u with
  | false=>rfl
  | true=>
   rw [hm] at h
   by_cases h1:n<1
   ·rw [decide_eq_true h1]; rfl
   ·rw [decide_eq_true (show 1099511627776<n from Decidable.byContradiction fun f=>h ⟨rfl,by omega,by omega⟩)]; simp
 obtain ⟨hm,h1,h2⟩:=h
 rw [abE (JQ hm) ⟨h1,h2⟩]
 by_cases j7:high - n<64
 case neg=>
  have e:kT high u n=false:=by unfold kT; rw [if_neg fun f=>j7 f.2.2.2]
  exact ite_true (by rw [decide_eq_true (show (64:Int)≤high - n by omega)]; simp) ⟨by rw [e],rfl⟩
 have e:kT high u n=(decide (high<n) || decide (bt u (high - n).toNat=0)):=by unfold kT; rw [if_pos ⟨hm,h1,h2,j7⟩]
 refine ite_false (by rw [hm,decide_eq_false (show ¬ n<1 by omega),decide_eq_false (show ¬ 1099511627776<n by omega),decide_eq_false (show ¬ (64:Int)≤high - n by omega)]; rfl) ?_
 by_cases hh:high<n
 ·exact ite_true (decide_eq_true hh) ⟨by rw [e,decide_eq_true hh]; rfl,rfl⟩
 ·refine ite_false (decide_eq_false hh) (su (by omega) ⟨?_,rfl⟩)
  rw [e,decide_eq_false hh,Bool.false_or]
  obtain ⟨k,hk⟩:∃ k:Nat,high - n=(k:Int):=⟨(high - n).toNat,by omega⟩
  rw [hk,Int.toNat_natCast,Dn,F1]
  congr 1
  exact decide_eq_decide.2 (AB (y:=0))
theorem ahN (high:Int) (u:bw) (n:Int) (w:World):Ok Pr Pt [.int .i64 high,.int .u64 (u.toNat:Int),.int .i64 n] w fun r w'=>∃ er:Value,r=.tuple ⟨[.int .i64 (ur high u n),.int .u64 ((A8 high u n).toNat:Int),er]⟩∧gy w w' er (kU high u n)∧Mod [] w w':=by
 refine agD ?_
 unfold PN
 have hC:kU high u n=if iD high u=true then (if kT high u n=true then 0 else 8) else 2:=rfl
 have hH:ur high u n=if kU high u n=0 then (if high<n then n else high) else 0:=rfl
 have hU:A8 high u n=if kU high u n=0 then (if high<n then (u <<< (min (n - high) 64).toNat) ||| 1 else u ||| ((1:bw) <<< (high - n).toNat)) else 0:=rfl
 generalize kU high u n=C at *
 generalize ur high u n=A at *
 generalize A8 high u n=B at *
 have no:∀ c:Int,c≠0→C=c→nw qo [.int .i64 c,.string RP] w fun p w2=>∃ er:Value,Value.tuple ⟨[.int .i64 0,.int .u64 0,.iface kH (.pointer (some p))]⟩=.tuple ⟨[.int .i64 A,.int .u64 (B.toNat:Int),er]⟩∧gy w w2 er C∧Mod [] w w2:=by
  intro c hc zI
  rw [zI,if_neg hc] at hH hU
  subst hH hU
  rw [zI]
  exact oL fun b w' hb h1 h2 _=>⟨_,rfl,gy.mk h1 (by omega) hc,h2⟩
 refine aC (OV high u w) ?_
 rintro _ w1 ⟨rfl,hw⟩
 subst hw
 refine bh ?_
 cases hm:iD high u with
 | false=>
  rw [hm,if_neg (by decide)] at hC
  exact ite_true rfl (no 2 (by decide) hC)
 | true=>
  rw [hm,if_pos rfl] at hC
  refine ite_false rfl (aC (agE high u n w1) ?_)
  rintro _ w2 ⟨rfl,hw⟩
  subst hw
  refine bh ?_
  cases hf:kT high u n with
  | false=>
   rw [hf,if_neg (by decide)] at hC
   exact ite_true rfl (no 8 (by decide) hC)
  | true=>
   rw [hf,if_pos rfl] at hC
   rw [hC,if_pos rfl] at hH hU
   subst hH hU
   rw [hC]
   have hr:=JQ hm
   have hn:1≤n∧n≤1099511627776:=by
    unfold kT at hf
    split at hf
    ·rename_i hc; exact ⟨hc.2.1,hc.2.2.1⟩
    ·cases hf
   refine ite_false rfl ?_
   by_cases hh:high<n
   ·rw [if_pos hh,if_pos hh]
    obtain ⟨k,hk⟩:∃ k:Nat,min (n - high) 64=(k:Int):=⟨(min (n - high) 64).toNat,by omega⟩
    rw [hk,Int.toNat_natCast]
    refine ite_true (decide_eq_true hh) ⟨⟨by omega,by omega⟩,su (by omega) ⟨.nilIface,?_,gy.zero _ _,Mod.drew _ _⟩⟩
    rw [FJ,FK,FT]
   ·rw [if_neg hh,if_neg hh]
    obtain ⟨k,hk⟩:∃ k:Nat,high - n=(k:Int):=⟨(high - n).toNat,by omega⟩
    rw [hk,Int.toNat_natCast]
    refine ite_false (decide_eq_false hh) ⟨⟨by omega,by omega⟩,su (by omega) ⟨.nilIface,?_,gy.zero _ _,Mod.drew _ _⟩⟩
    rw [FK,FJ,FT]
end Go.Proofs.YtpchgbolambkcaaGreatDoor
end
section
set_option linter.unusedVariables false
set_option linter.unusedSimpArgs false
namespace Go.Proofs.YtpchgbolambkcaaGreatDoor
open Go Go.Ev
set_option maxRecDepth 20000
set_option linter.unusedVariables false
structure bZ where
 id:Int
 par:Int
 name:ByteArray
def tz:bZ:=⟨0,0,ByteArray.empty⟩
def bZ.cs (t:bZ) (_:ah):List Value:=lK t.id t.par t.name
theorem bZ.eo (t:bZ) (x:ah):(t.cs x).length=3:=rfl
def UG (_:World) (_:ah) (_:bZ):Prop:=True
def fE (w:World) (s:ah) (ts:List bZ):Prop:=Dv bZ.cs 3 UG w s ts
theorem fE.aI {w w':World} {s:ah} {ts:List bZ} (h:fE w s ts) (m:Mod [] w w'):fE w' s ts:=Dv.aI (E:=UG) (fun _ _=>trivial) h m
theorem fE.len {w:World} {s:ah} {ts:List bZ} (h:fE w s ts):ts.length=s.n:=Dv.len bZ.eo (by omega) h
theorem fE.at {w:World} {s:ah} {ts:List bZ} (h:fE w s ts) {i:Nat} (hi:i<ts.length) :
  (s.a.isSome=true∧(0:Int)≤(i:Int)∧(i:Int)<(s.n:Int))∧∀ (j:Nat) (v:Value),(lK (ts.getD i tz).id (ts.getD i tz).par (ts.getD i tz).name)[j]? = some v→w.cell? (Addr.add (Addr.add (base s.a) (Int.toNat (i:Int) * 3)) j)=some v:=by
 have ha:ts[i]? = some (ts.getD i tz):=by rw [List.getD_eq_getElem?_getD,List.getElem?_eq_getElem hi]; rfl
 obtain ⟨h1,x,_,h2⟩:=Dv.at bZ.eo (by omega) h ha
 exact ⟨h1,h2⟩
theorem afW (c:Int) (hc:c≠0) (w:World):Ok Pr xX [.int .i64 c] w fun v w'=>gy w w' v c∧Mod [] w w':=by
 refine afh ?_
 unfold NR
 exact oL fun b w' hb h1 h2 _=>⟨gy.mk h1 (by omega) hc,h2⟩
def mD (s:ByteArray):Bool:=aW 1 300 (s.size:Int)
theorem WS (s:ByteArray) (w:World):Ok Pr ID [.string s] w fun v w'=>v=.bool (mD s)∧w'=w:=by
 refine afe ?_
 unfold NO
 exact ⟨rfl,rfl⟩
theorem WT (x:ah) (ts:List bZ) (id:Int) (w:World) (hx:fE w x ts):Ok Pr IF [.slice x.a x.n x.c,.int .i64 id] w fun v w'=>v=.bool (aW 1 (ts.length:Int) id)∧w'=w:=by
 refine afi ?_
 unfold NS
 have:=hx.len
 refine ⟨?_,rfl⟩
 rw [this]; rfl
def aaS (w:World) (g:Value) (p:bZ→Bool):Prop:=∀ (t:bZ) (w':World),Mod [] w w'→qx Pr g [.agg ⟨lK t.id t.par t.name⟩] w' fun v eU=>v=.bool (p t)∧Mod [] w' eU
theorem aeb (g:Value) (p:bZ→Bool) (x:ah) (ts:List bZ) (hl:ts.length≤1000000000) (w:World) (hx:fE w x ts) (hg:aaS w g p) :
  Ok Pr LY [.slice x.a x.n x.c,g] w fun v w'=>∃ z:Int,v=.int .i64 z∧decide (0≤z)=ts.any p∧Mod [] w w':=by
 refine adQ ?_
 unfold LZ
 have cH:=hx.len
 refine ep 0 ts.length (fun i w'=>(ts.take i).any p=false∧Mod [] w w') rfl (by omega) ⟨rfl,Mod.refl _ _⟩ ?_ ?_
 ·rintro again i w1 _ hi ⟨hn,m⟩ aR
  obtain ⟨cU,hc⟩:=(hx.aI m).at hi
  refine ite_true (decide_eq_true (by omega)) ⟨cU,BX hc (Re (hg _ w1 m) ?_)⟩
  rintro _ w2 ⟨rfl,m2⟩
  refine bh (cN (fun hc=>?_) (fun hc=>?_))
  ·exact ⟨_,rfl,by rw [yh p ts i hi tz hc]; exact decide_eq_true (by omega),m.trans m2⟩
  ·exact ⟨⟨by omega,by omega⟩,aR w2 ⟨by rw [xZ p ts i hi tz,hn,hc]; rfl,m.trans m2⟩⟩
 ·rintro again w1 ⟨hn,m⟩
  rw [List.take_of_length_le (Nat.le_refl _)] at hn
  exact ite_false (decide_eq_false (by omega)) ⟨_,rfl,by rw [hn]; rfl,m⟩
theorem ad4 (g:Value) (p:bZ→Bool) (x:ah) (ts:List bZ) (hl:ts.length≤1000000000) (w:World) (hx:fE w x ts) (hg:aaS w g p) :
  Ok Pr LU [.slice x.a x.n x.c,g] w fun v w'=>v=.bool (ts.any p)∧Mod [] w w':=by
 refine adO ?_
 unfold LV
 refine aC (aeb g p x ts hl w hx hg) ?_
 rintro _ w1 ⟨z,rfl,hz,m⟩
 exact cr ⟨by rw [hz],m⟩
def jK (par:Int) (name:ByteArray) (t:bZ):Bool:=decide (t.par=par) && decide (t.name=name)
theorem ajc:pH Pr M6=true:=by kernel_rfl
theorem WU (x:ah) (ts:List bZ) (hl:ts.length≤1000000000) (par:Int) (name:ByteArray) (w:World) (hx:fE w x ts):Ok Pr IE [.slice x.a x.n x.c,.int .i64 par,.string name] w fun v w'=>v=.bool (ts.any (jK par name))∧Mod [] w w':=by
 refine aff ?_
 unfold NP
 refine (aq.start w).nw fun p w1 H _=>H.nw fun p1 w2 H _=>?_
 refine aC (ad4 _ (jK par name) x ts hl w2 (hx.aI H.mod) fun t w3 m=>?_) ?_
 ·refine RU ajc (aeE ?_)
  unfold Nn
  have b1:bQ w3 p [.int .i64 par] bn:=(H.frame m).av 0 rfl
  have b2:bQ w3 p1 [.string name] so:=(H.frame m).av 1 rfl
  have K:=((aq.start w3).frame (Mod.refl [] w3))
  refine K.nw fun q w4 K _=>?_
  have c1:=b1.aI K.mod
  have c2:=b2.aI K.mod
  exact K.au 0 rfl (an q 1) rfl (c1.au rfl rfl (K.dR 0 rfl (an q 2) rfl ⟨_,by rw [c2.cell]; rfl,rfl,K.mod⟩))
 ·rintro _ w3 ⟨rfl,m⟩
  exact bh ⟨rfl,H.mod.trans m⟩
end Go.Proofs.YtpchgbolambkcaaGreatDoor
end
section
set_option linter.unusedVariables false
set_option linter.unusedSimpArgs false
namespace Go.Proofs.YtpchgbolambkcaaGreatDoor
open Go Go.Ev
set_option maxRecDepth 20000
set_option linter.unusedVariables false
theorem Ss:zc Pr cZ=[.int .i64 0,.int .i64 0,.string ByteArray.empty]:=by kernel_rfl
def sF (ts:List bZ) (i:Nat):Bool:=
 decide ((ts.getD i tz).id=(i:Int)+1) && (decide (min (i:Int) 1≤(ts.getD i tz).par) && (decide ((ts.getD i tz).par≤(i:Int)) && (mD (ts.getD i tz).name && !(ts.take i).any (jK (ts.getD i tz).par (ts.getD i tz).name))))
def qH (ts:List bZ):Nat→Bool
 | 0=>true
 | i+1=>qH ts i && sF ts i
def iw (ts:List bZ):Bool:=decide (ts.length≤8) && qH ts ts.length
theorem SR {ts:List bZ} {i:Nat} (h:sF ts i=false):∀ n,i<n→qH ts n=false
 | 0,hn=>by omega
 | n+1,hn=>by
  show (qH ts n && _)=false
  rcases Nat.lt_or_ge i n with h2 | h2
  ·rw [SR h n h2,Bool.false_and]
  ·rw [show n=i by omega,h,Bool.and_false]
theorem fE.TL {w:World} {s:ah} {ts:List bZ} (h:fE w s ts) (k:Nat) (hk:k≤ts.length):fE w ⟨s.a,k,s.c⟩ (ts.take k):=by
 have hn:=h.len
 obtain ⟨xs,h1,h2⟩:=h
 have cH:=h2.1
 refine ⟨xs.take k,?_,by simp [cH],fun i x t _ _=>trivial⟩
 have e:bP bZ.cs (ts.take k) (xs.take k)=(bP bZ.cs ts xs).take (k * 3):=by
  have:=Cz (C:=bZ.cs) (ts.take k) (xs.take k) (by simp [cH]) (ts.drop k) (xs.drop k)
  rw [List.take_append_drop,List.take_append_drop] at this
  have hd:(bP bZ.cs (ts.take k) (xs.take k)).length=k * 3:=by
   rw [kI bZ.eo _ _ (by simp [cH]),List.length_take,Nat.min_eq_left hk]
  rw [this,List.take_append_of_le_length (by omega)]
  exact (List.take_of_length_le (by omega)).symm
 rw [e]
 have hc:=h1.cap
 have hl:=h1.len
 rw [kI bZ.eo _ _ cH] at hl
 refine ⟨by rw [List.length_take,kI bZ.eo _ _ cH]; show min (k * 3) _=k * 3; omega,by show k≤s.c; omega,fun h0=>h1.pre (by have:0<k:=h0; omega),fun i v hv=>?_⟩
 rw [List.getElem?_take] at hv
 split at hv
 ·exact h1.cell i v hv
 ·cases hv
theorem Om (x:ah) (ts:List bZ) (hl:ts.length≤1000000) (w:World) (hx:fE w x ts):Ok Pr Ew [.slice x.a x.n x.c] w fun v w'=>v=.bool (iw ts)∧Mod [] w w':=by
 refine afR ?_
 unfold OQ
 rw [Ss]
 have cH:=hx.len
 have DH:x.n≤x.c:=by obtain ⟨xs,h1,_⟩:=hx; exact h1.cap
 by_cases h8:ts.length≤8
 case neg=>exact ite_true (decide_eq_true (by omega)) ⟨by unfold iw; rw [decide_eq_false h8]; rfl,Mod.refl _ _⟩
 have eM:iw ts=qH ts ts.length:=by unfold iw; rw [decide_eq_true h8]; rfl
 refine ite_false (decide_eq_false (by omega)) ?_
 refine ep 0 ts.length (fun i w'=>qH ts i=true∧Mod [] w w') rfl (by omega) ⟨rfl,Mod.refl _ _⟩ ?_ ?_
 ·rintro again i w1 _ hi ⟨fF,m⟩ aR
  obtain ⟨cU,hc⟩:=(hx.aI m).at hi
  have hs:qH ts (i+1)=(qH ts i && sF ts i):=rfl
  have hF:sF ts i=(decide ((ts.getD i tz).id=(i:Int)+1) && (decide (min (i:Int) 1≤(ts.getD i tz).par) && (decide ((ts.getD i tz).par≤(i:Int)) && (mD (ts.getD i tz).name && !(ts.take i).any (jK (ts.getD i tz).par (ts.getD i tz).name))))):=rfl
  have no:∀ {w2:World},Mod [] w w2→sF ts i=false→(fun v w'=>v=Value.bool (iw ts)∧Mod [] w w') (.bool false) w2:=fun m h=>⟨by rw [eM,SR h _ hi],m⟩
  generalize ts.getD i tz=t at *
  refine ite_true (decide_eq_true (by omega)) ⟨cU,BX hc ((aq.start w1).nw fun p w2 D _=>D.uX 0 rfl rfl fun w3 D=>?_)⟩
  have D:=D.drew
  refine D.au 0 rfl (an p 0) rfl ⟨⟨by omega,by omega⟩,D.au 0 rfl (an p 1) rfl (D.au 0 rfl (an p 1) rfl (D.dR 0 rfl (an p 2) rfl ?_))⟩
  by_cases hg:t.id=(i:Int)+1∧min (i:Int) 1≤t.par∧t.par≤(i:Int)
  case neg=>
   refine ite_true ?_ (no (m.trans D.mod) ?_)
   ·simp only [Bool.or_eq_true,Bool.not_eq_true',decide_eq_true_eq,decide_eq_false_iff_not]
    omega
   ·rw [hF]
    simp only [Bool.and_eq_false_iff,decide_eq_false_iff_not]
    by_cases q1:t.id=(i:Int)+1
    ·by_cases q2:min (i:Int) 1≤t.par
     ·exact .inr (.inr (.inl fun q3=>hg ⟨q1,q2,q3⟩))
     ·exact .inr (.inl q2)
    ·exact .inl q1
  obtain ⟨g1,g2,g3⟩:=hg
  rw [decide_eq_true g1,decide_eq_true g2,decide_eq_true g3,Bool.true_and,Bool.true_and,Bool.true_and] at hF
  refine ite_false ?_ (aC (WS _ _) ?_)
  ·rw [decide_eq_true g1,decide_eq_false (show ¬ t.par<min (i:Int) 1 by omega),decide_eq_false (show ¬ (i:Int)<t.par by omega)]; rfl
  rintro _ w4 ⟨rfl,hw⟩
  subst hw
  refine bh ?_
  cases hn:mD t.name with
  | false=>exact ite_true rfl (no (m.trans D.mod) (by rw [hF,hn]; rfl))
  | true=>
   rw [hn,Bool.true_and] at hF
   refine ite_false rfl ⟨⟨by omega,by omega⟩,D.au 0 rfl (an p 1) rfl (D.dR 0 rfl (an p 2) rfl ?_)⟩
   rw [Int.toNat_natCast]
   refine aC (WU ⟨x.a,i,x.c⟩ (ts.take i) (by rw [List.length_take]; omega) t.par t.name _ ((hx.aI (m.trans D.mod)).TL i (by omega))) ?_
   rintro _ w5 ⟨rfl,m5⟩
   refine bh ?_
   cases ht:(ts.take i).any (jK t.par t.name) with
   | true=>exact ite_true rfl (no (m.trans (D.mod.trans m5)) (by rw [hF,ht]; rfl))
   | false=>exact ite_false rfl ⟨⟨by omega,by omega⟩,aR _ ⟨by rw [hs,fF,hF,ht]; rfl,m.trans (D.mod.trans m5)⟩⟩
 ·rintro again w1 ⟨fF,m⟩
  exact ite_false (decide_eq_false (by omega)) ⟨by rw [eM,fF],m⟩
end Go.Proofs.YtpchgbolambkcaaGreatDoor
end
section
set_option linter.unusedVariables false
set_option linter.unusedSimpArgs false
namespace Go.Proofs.YtpchgbolambkcaaGreatDoor
open Go Go.Ev
set_option maxRecDepth 20000
set_option linter.unusedVariables false
theorem AD:fQ Pr jU cZ 3 32:=fQ.of (by kernel_rfl)
theorem bZ.jM (t:bZ) (x:ah):∀ u∈t.cs x,fW u=true:=by
 intro u hu
 simp only [bZ.cs,lK,List.mem_cons,List.not_mem_nil,or_false] at hu
 rcases hu with rfl | rfl | rfl <;> rfl
def gM (ts:List bZ):List Value:=bP bZ.cs ts (List.replicate ts.length ⟨none,0,0⟩)
theorem aaf {ts:List bZ} {xs:List ah} (h:xs.length=ts.length):bP bZ.cs ts xs=gM ts:=by
 unfold gM
 induction ts generalizing xs with
 | nil=>simp [bP]
 | cons t r ih=>
  cases xs with
  | nil=>simp at h
  | cons x xs=>
   rw [List.length_cons,List.replicate_succ,tH,tH,ih (by simpa using h)]
   rfl
theorem fE.sl {w:World} {s:ah} {ts:List bZ} (h:fE w s ts):Sl w s 3 (gM ts):=by
 obtain ⟨xs,h1,h2⟩:=h
 rw [aaf h2.1] at h1
 exact h1
theorem fE.of {w:World} {s:ah} {ts:List bZ} (h:Sl w s 3 (gM ts)):fE w s ts:=⟨_,h,by simp,fun _ _ _ _ _=>trivial⟩
theorem RV (ts:List bZ) (t:bZ):gM (ts ++ [t])=gM ts ++ lK t.id t.par t.name:=by
 have:=Cz (C:=bZ.cs) ts (List.replicate ts.length ⟨none,0,0⟩) (by simp) [t] [⟨none,0,0⟩]
 rw [aaf (by simp)] at this
 rw [this,E6]; rfl
theorem WE (x:ah) (ts:List bZ) (hl:ts.length≤1000000) (w:World) (hx:fE w x ts):Ok Pr Ip [.slice x.a x.n x.c] w fun v w'=>∃ y:ah,v=.slice y.a y.n y.c∧Own w' w.heap.size cZ 3 y (gM ts)∧y.n=x.n∧Mod [] w w':=by
 refine adT ?_
 unfold L6
 have cH:=hx.len
 have hs:=hx.sl
 refine cN (fun h=>?_) (fun h=>?_)
 ·have h0:x.n=0:=by
   rcases Nat.eq_zero_or_pos x.n with e | e
   ·exact e
   ·have:=Sl.pre hs e
    cases ha:x.a with
    | none=>rw [ha] at this; cases this
    | some a=>rw [ha] at h; cases h
  obtain rfl:ts=[]:=List.eq_nil_of_length_eq_zero (by omega)
  exact ⟨⟨none,0,0⟩,rfl,Own.nil _ _ _ _,h0.symm,Mod.refl _ _⟩
 ·refine (aq.start w).nw fun p w1 H _=>?_
  have H:=H.tW 0 3 0 0 rfl rfl (Nat.le_refl _) (by simp only [maxLen]; omega)
  refine H.app (s:=⟨some ⟨p,0,none⟩,0,0⟩) (vs:=[]) 0 AD rfl (hs.aI H.mod) (vo bZ.jM _ _) (by show (0+x.n) * 32≤_; omega) (by show 0+x.n≤_; omega) fun y w2 H hy=>?_
  exact ⟨y,rfl,H.mC 0 rfl,by rw [hy]; exact Nat.zero_add _,H.mod⟩
def kV (ts:List bZ) (par:Int) (name:ByteArray):Int:=if iw ts=true then (if aW 1 (ts.length:Int) par=true then (if mD name=true then (if ts.any (jK par name)=true then 13 else if ts.length=8 then 12 else 0) else 2) else 9) else 2
def vM (ts:List bZ) (par:Int) (name:ByteArray):List bZ:=if kV ts par name=0 then ts ++ [⟨(ts.length:Int)+1,par,name⟩] else []
def yV (ts:List bZ) (par:Int) (name:ByteArray):Int:=if kV ts par name=0 then (ts.length:Int)+1 else 0
theorem ahf (x:ah) (ts:List bZ) (hl:ts.length≤1000000) (par:Int) (name:ByteArray) (w:World) (hx:fE w x ts):Ok Pr OH [.slice x.a x.n x.c,.int .i64 par,.string name] w fun v w'=>∃ (y:ah) (er:Value),v=.tuple ⟨[.slice y.a y.n y.c,.int .i64 (yV ts par name),er]⟩∧aq w [] w' [.row cZ 3 y (gM (vM ts par name)),aB.err er (kV ts par name)]:=by
 refine afV ?_
 unfold OU
 have cH:=hx.len
 have hC:kV ts par name=if iw ts=true then (if aW 1 (ts.length:Int) par=true then (if mD name=true then (if ts.any (jK par name)=true then 13 else if ts.length=8 then 12 else 0) else 2) else 9) else 2:=rfl
 have hT:vM ts par name=if kV ts par name=0 then ts ++ [⟨(ts.length:Int)+1,par,name⟩] else []:=rfl
 have hI:yV ts par name=if kV ts par name=0 then (ts.length:Int)+1 else 0:=rfl
 generalize kV ts par name=C at *
 generalize vM ts par name=T at *
 generalize yV ts par name=I at *
 have no:∀ {w3:World} (c:Int),Mod [] w w3→c≠0→C=c→ax Pr xX [.int .i64 c] w3 fun v w4=>∃ (y:ah) (er:Value),Value.tuple ⟨[.slice none 0 0,.int .i64 0,v]⟩=.tuple ⟨[.slice y.a y.n y.c,.int .i64 I,er]⟩∧aq w [] w4 [.row cZ 3 y (gM T),aB.err er C]:=by
  intro w3 c m hc zI
  rw [zI,if_neg hc] at hT hI
  subst hT hI
  rw [zI]
  refine aC (afW c hc w3) ?_
  rintro e w4 ⟨h,m4⟩
  exact ⟨⟨none,0,0⟩,e,rfl,(((aq.start w).jC cZ 3).frame m).jY m4 h⟩
 refine aC (Om x ts hl w hx) ?_
 rintro _ w1 ⟨rfl,m1⟩
 refine bh ?_
 cases h1:iw ts with
 | false=>
  rw [h1,if_neg (by decide)] at hC
  exact ite_true rfl (no 2 m1 (by decide) hC)
 | true=>
  rw [h1,if_pos rfl] at hC
  refine ite_false rfl (aC (WT x ts par _ (hx.aI m1)) ?_)
  rintro _ w2 ⟨rfl,hw⟩
  subst hw
  refine bh ?_
  cases h2:aW 1 (ts.length:Int) par with
  | false=>
   rw [h2,if_neg (by decide)] at hC
   exact ite_true rfl (no 9 m1 (by decide) hC)
  | true=>
   rw [h2,if_pos rfl] at hC
   refine ite_false rfl (aC (WS name _) ?_)
   rintro _ w3 ⟨rfl,hw⟩
   subst hw
   refine bh ?_
   cases h3:mD name with
   | false=>
    rw [h3,if_neg (by decide)] at hC
    exact ite_true rfl (no 2 m1 (by decide) hC)
   | true=>
    rw [h3,if_pos rfl] at hC
    refine ite_false rfl (aC (WU x ts (by omega) par name _ (hx.aI m1)) ?_)
    rintro _ w4 ⟨rfl,m4⟩
    have m4:=m1.trans m4
    refine bh ?_
    cases h4:ts.any (jK par name) with
    | true=>
     rw [h4,if_pos rfl] at hC
     exact ite_true rfl (no 13 m4 (by decide) hC)
    | false=>
     rw [h4,if_neg (by decide)] at hC
     refine ite_false rfl ?_
     by_cases h8:ts.length=8
     ·rw [if_pos h8] at hC
      exact ite_true (decide_eq_true (by omega)) (no 12 m4 (by decide) hC)
     rw [if_neg h8] at hC
     rw [hC,if_pos rfl] at hT hI
     subst hT hI
     rw [hC]
     refine ite_false (decide_eq_false (by omega)) ⟨⟨by omega,by omega⟩,yS (aC (WE x ts hl _ (hx.aI m4)) ?_)⟩
     rintro _ w5 ⟨y,rfl,hy,UH,m5⟩
     have H:=((aq.start w).frame m4).gG m5 hy
     rw [show ((x.n:Nat):Int)+1=(ts.length:Int)+1 by omega]
     refine dP (H.vJ 0 AD rfl rfl (by intro u hu; exact bZ.jM ⟨(ts.length:Int)+1,par,name⟩ ⟨none,0,0⟩ u hu) (by omega) (by omega) fun y' w6 H _=>⟨y',.nilIface,rfl,?_⟩)
     rw [RV]
     exact H.jY (Mod.refl _ _) (gy.zero _ _)
end Go.Proofs.YtpchgbolambkcaaGreatDoor
end
section
set_option linter.unusedVariables false
set_option linter.unusedSimpArgs false
namespace Go.Proofs.YtpchgbolambkcaaGreatDoor
open Go Go.Ev
set_option maxRecDepth 20000
set_option linter.unusedVariables false
theorem SS {ts:List bZ}:∀ n,qH ts n=true→∀ i,i<n→sF ts i=true
 | 0,_,i,hi=>by omega
 | n+1,h,i,hi=>by
  change (qH ts n && sF ts n)=true at h
  rw [Bool.and_eq_true] at h
  rcases Nat.lt_or_ge i n with h2 | h2
  ·exact SS n h.1 i h2
  ·rw [show i=n by omega]; exact h.2
theorem Su {ts:List bZ} (h:iw ts=true):ts.length≤8∧∀ i,i<ts.length→(ts.getD i tz).id=(i:Int)+1∧0≤(ts.getD i tz).par∧(ts.getD i tz).par≤(i:Int):=by
 unfold iw at h
 rw [Bool.and_eq_true,decide_eq_true_eq] at h
 refine ⟨h.1,fun i hi=>?_⟩
 have:=SS _ h.2 i hi
 unfold sF at this
 simp only [Bool.and_eq_true,decide_eq_true_eq] at this
 obtain ⟨a,b,c,_⟩:=this
 exact ⟨a,by omega,c⟩
def lN (ts:List bZ):Nat→Int→List Int
 | 0,_=>[]
 | f+1,a=>if aW 1 (ts.length:Int) a=true then a :: lN ts f (ts.getD (a - 1).toNat tz).par else []
def mT (ts:List bZ) (a:Int):List Int:=if iw ts=true then lN ts (ts.length+1) a else []
theorem JH (ts:List bZ):∀ (f:Nat) (a:Int),(lN ts f a).length≤f
 | 0,_=>by simp [lN]
 | f+1,a=>by
  unfold lN
  split
  ·have:=JH ts f (ts.getD (a - 1).toNat tz).par
   rw [List.length_cons]; omega
  ·simp
theorem agF (x:ah) (ts:List bZ) (hl:ts.length≤1000000) (a:Int) (w:World) (hx:fE w x ts):Ok Pr N2 [.slice x.a x.n x.c,.int .i64 a] w fun v w'=>abC w w' v (mT ts a):=by
 refine afy ?_
 unfold Oh
 have cH:=hx.len
 refine aC (Om x ts hl w hx) ?_
 rintro _ w1 ⟨rfl,m1⟩
 refine bh ?_
 cases hm:iw ts with
 | false=>exact ite_true rfl ⟨⟨none,0,0⟩,rfl,by unfold mT; rw [hm]; exact Own.nil _ _ _ _,m1⟩
 | true=>
  obtain ⟨h8,vL⟩:=Su hm
  have hP:mT ts a=lN ts (ts.length+1) a:=by unfold mT; rw [if_pos hm]
  have hPl:=JH ts (ts.length+1) a
  rw [hP]
  generalize To:lN ts (ts.length+1) a=full at *
  refine ite_false rfl ?_
  refine tG (fun (b:Int) (out:ah) w'=>∃ (f:Nat) (pre:List Int),pre ++ lN ts f b=full∧(aW 1 (ts.length:Int) b=true→b.toNat<f)∧aq w [] w' [.row bn 1 out (dw pre)]) (fun b _ _=>b.toNat)
   ⟨ts.length+1,[],To,fun h=>by unfold aW at h; simp only [Bool.and_eq_true,decide_eq_true_eq] at h; omega,by simpa [dw] using ((aq.start w).frame m1).jC bn 1⟩ ?_
  rintro again b out w2 ⟨f,pre,ru,hf,H⟩ aR
  refine aC (WT x ts b _ (hx.aI H.mod)) ?_
  rintro _ w3 ⟨rfl,hw⟩
  subst hw
  refine bh ?_
  cases dM:aW 1 (ts.length:Int) b with
  | false=>
   have e:lN ts f b=[]:=by
    cases f with
    | zero=>rfl
    | succ f=>unfold lN; rw [dM]; rfl
   rw [e,List.append_nil] at ru
   subst ru
   exact ite_false rfl ⟨out,rfl,H.mC 0 rfl,H.mod⟩
  | true=>
   have cI:=hf dM
   obtain ⟨g,rfl⟩:∃ g,f=g+1:=⟨f - 1,by omega⟩
   have e:lN ts (g+1) b=b :: lN ts g (ts.getD (b - 1).toNat tz).par:=by
    show (if aW 1 (ts.length:Int) b=true then b :: lN ts g (ts.getD (b - 1).toNat tz).par else [])=_
    rw [if_pos dM]
   rw [e] at ru
   unfold aW at dM
   simp only [Bool.and_eq_true,decide_eq_true_eq] at dM
   obtain ⟨j,hj⟩:∃ j:Nat,b - 1=(j:Int):=⟨(b - 1).toNat,by omega⟩
   rw [hj,Int.toNat_natCast] at ru
   obtain ⟨q1,q2,q3⟩:=vL j (by omega)
   have Gw:=(H.dz 0 rfl).len
   have anB:pre.length≤full.length:=by rw [← ru]; simp
   refine ite_true rfl (H.aby 0 ZC rfl (by omega) fun TR w4 H _=>⟨⟨by omega,by omega⟩,?_⟩)
   rw [hj]
   obtain ⟨cU,hc⟩:=(hx.aI H.mod).at (i:=j) (by omega)
   refine ⟨cU,_,hc 1 _ rfl,aR _ TR w4 ⟨g,pre ++ [b],by rw [List.append_assoc]; exact ru,fun h=>?_,H⟩ ?_⟩
   ·omega
   ·show ((ts.getD j tz).par).toNat<b.toNat
    omega
end Go.Proofs.YtpchgbolambkcaaGreatDoor
end
section
set_option linter.unusedVariables false
set_option linter.unusedSimpArgs false
namespace Go.Proofs.YtpchgbolambkcaaGreatDoor
open Go Go.Ev
set_option maxRecDepth 20000
set_option linter.unusedVariables false
theorem aeR (x:ah) (l:List Int) (hl:l.length≤1000000) (v:Int) (w:World) (hx:jX w x l):Ok Pr Mx [.slice x.a x.n x.c,.int .i64 v] w fun r w'=>∃ z:Int,r=.int .i64 z∧decide (0≤z)=l.any (fun y=>decide (v=y))∧w'=w:=by
 refine ad7 ?_
 unfold My
 have cH:=hx.len
 refine ep 0 l.length (fun i w'=>(l.take i).any (fun y=>decide (v=y))=false∧w'=w) rfl (by omega) ⟨rfl,rfl⟩ ?_ ?_
 ·rintro again i w1 _ hi ⟨hn,rfl⟩ aR
  refine ite_true (decide_eq_true (by omega)) (hx.ld (i:=i) hi rfl (cN (fun hc=>?_) (fun hc=>?_)))
  ·exact ⟨_,rfl,by rw [yh (fun y=>decide (v=y)) l i hi 0 hc]; exact decide_eq_true (by omega),rfl⟩
  ·exact ⟨⟨by omega,by omega⟩,aR w1 ⟨by rw [xZ (fun y=>decide (v=y)) l i hi 0,hn,hc]; rfl,rfl⟩⟩
 ·rintro again w1 ⟨hn,rfl⟩
  rw [List.take_of_length_le (Nat.le_refl _)] at hn
  exact ite_false (decide_eq_false (by omega)) ⟨_,rfl,by rw [hn]; rfl,rfl⟩
def wR (ts:List bZ) (a b:Int):Bool:=(mT ts b).any fun y=>decide (a=y)
theorem Y3 (ts:List bZ) (a:Int) (h:ts.length≤1000):(mT ts a).length≤1001:=by
 unfold mT
 split
 ·have:=JH ts (ts.length+1) a; omega
 ·simp
theorem afX (x:ah) (ts:List bZ) (hl:ts.length≤1000) (a b:Int) (w:World) (hx:fE w x ts):Ok Pr NF [.slice x.a x.n x.c,.int .i64 a,.int .i64 b] w fun v w'=>v=.bool (wR ts a b)∧Mod [] w w':=by
 refine afg ?_
 unfold NQ
 refine aC (agF x ts (by omega) b w hx) ?_
 rintro _ w1 ⟨y,rfl,hy,m1⟩
 have vS:=Y3 ts b hl
 refine dP (aC (R:=fun v w'=>v=.bool (wR ts a b)∧w'=w1) (ad3 ?_) ?_)
 ·unfold Mv
  refine aC (aeR y (mT ts b) (by omega) a w1 hy.dz) ?_
  rintro _ w2 ⟨z,rfl,hz,hw⟩
  subst hw
  exact cr ⟨by rw [hz]; rfl,rfl⟩
 ·rintro _ w2 ⟨rfl,hw⟩
  subst hw
  exact bh ⟨rfl,m1⟩
end Go.Proofs.YtpchgbolambkcaaGreatDoor
end
section
set_option linter.unusedVariables false
set_option linter.unusedSimpArgs false
namespace Go.Proofs.YtpchgbolambkcaaGreatDoor
open Go Go.Ev
set_option maxRecDepth 20000
set_option linter.unusedVariables false
def dY.five (g:dY):List Int:=[g.n0,g.n1,g.n2,g.n3,g.n4]
@[irreducible] def tok (s:List B8) (g:dY):List B8:=BitVec.ofInt 8 g.n0 :: abx 136 31 (laid s ++ cG g.five) 32
end Go.Proofs.YtpchgbolambkcaaGreatDoor
end
section
set_option linter.unusedVariables false
set_option linter.unusedSimpArgs false
namespace Go.Proofs.YtpchgbolambkcaaGreatDoor
open Go Go.Ev Go.RowKit
set_option maxRecDepth 20000
set_option linter.unusedVariables false
theorem ajQ:((Pr.fieldsOf dJ).toList.map fun f=>(f.type,f.offset,decide (f.name= "_")))=[(bn,0,false),(bn,1,false),(bn,2,false),(bn,3,false),(bn,4,false),(jA,5,false)]:=by kernel_rfl
theorem amM:Pr.underlying dJ=some (.struct (Pr.fieldsOf dJ)):=by kernel_rfl
theorem alR:Pr.stoodInHeld dJ=false:=by kernel_rfl
theorem akw:Pr.eqGuardType Pr.depth dJ=false:=by kernel_rfl
theorem aag:Pr.underlying bn=some (.int .i64):=by kernel_rfl
theorem akx:Pr.underlying jA=some .bool:=by kernel_rfl
theorem OW {P:Program} (d:Nat) (xs ys:Array Value) (w:World):∀ (fs:List Field),(∀ f∈fs,∃ v,f.name≠ "_"∧(part f.type xs f.offset).run P w=.ok v w∧(part f.type ys f.offset).run P w=.ok v w∧(Op.equalIn d f.type v v).run P w=.ok true w)→(Op.eqFields d xs ys fs).run P w=.ok true w
 | [],_=>rfl
 | f :: fs,h=>by
  obtain ⟨v,hn,h1,h2,h3⟩:=h f List.mem_cons_self
  have ih:=OW d xs ys w fs fun g hg=>h g (List.mem_cons_of_mem _ hg)
  unfold Op.eqFields
  rw [if_pos hn]
  simp only [Sem.run_bind,h1,h2,h3,Result.andThen]
  exact ih
theorem aky (g:dY) (w:World):(Op.equalIn 10000 dJ (.agg ⟨g.cells⟩) (.agg ⟨g.cells⟩)).run Pr w=.ok true w:=by
 rw [show 10000=9999+1 from rfl,run_equalIn_struct w 9999 dJ _ _ amM alR]
 refine OW _ _ _ _ _ fun f hf=>?_
 have hm:(f.type,f.offset,decide (f.name= "_"))∈((Pr.fieldsOf dJ).toList.map fun f=>(f.type,f.offset,decide (f.name= "_"))):=List.mem_map_of_mem hf
 rw [ajQ] at hm
 have hI:∀ z:Int,(Op.equalIn 9999 bn (.int .i64 z) (.int .i64 z)).run Pr w=.ok true w:=fun z=>by
  rw [show 9999=9998+1 from rfl,run_equalIn_int w 9998 bn .i64 .i64 z z aag]
  simp
 have hB:∀ z:Bool,(Op.equalIn 9999 jA (.bool z) (.bool z)).run Pr w=.ok true w:=fun z=>by
  rw [show 9999=9998+1 from rfl,run_equalIn_bool' w 9998 jA z z akx]
  simp
 obtain ⟨n0,n1,n2,n3,n4,rv⟩:=g
 have q0:(part bn ⟨qR n0 n1 n2 n3 n4 rv⟩ 0).run Pr w=.ok (.int .i64 n0) w:=by kernel_rfl
 have q1:(part bn ⟨qR n0 n1 n2 n3 n4 rv⟩ 1).run Pr w=.ok (.int .i64 n1) w:=by kernel_rfl
 have q2:(part bn ⟨qR n0 n1 n2 n3 n4 rv⟩ 2).run Pr w=.ok (.int .i64 n2) w:=by kernel_rfl
 have q3:(part bn ⟨qR n0 n1 n2 n3 n4 rv⟩ 3).run Pr w=.ok (.int .i64 n3) w:=by kernel_rfl
 have q4:(part bn ⟨qR n0 n1 n2 n3 n4 rv⟩ 4).run Pr w=.ok (.int .i64 n4) w:=by kernel_rfl
 have q5:(part jA ⟨qR n0 n1 n2 n3 n4 rv⟩ 5).run Pr w=.ok (.bool rv) w:=by kernel_rfl
 simp only [List.mem_cons,List.not_mem_nil,or_false,Prod.mk.injEq,decide_eq_false_iff_not] at hm
 rcases hm with ⟨h1,h2,h3⟩ | ⟨h1,h2,h3⟩ | ⟨h1,h2,h3⟩ | ⟨h1,h2,h3⟩ | ⟨h1,h2,h3⟩ | ⟨h1,h2,h3⟩
 ·rw [h1,h2]; exact ⟨_,h3,q0,q0,hI _⟩
 ·rw [h1,h2]; exact ⟨_,h3,q1,q1,hI _⟩
 ·rw [h1,h2]; exact ⟨_,h3,q2,q2,hI _⟩
 ·rw [h1,h2]; exact ⟨_,h3,q3,q3,hI _⟩
 ·rw [h1,h2]; exact ⟨_,h3,q4,q4,hI _⟩
 ·rw [h1,h2]; exact ⟨_,h3,q5,q5,hB _⟩
theorem amN {g:dY} {w:World} {K:Bool→World→Prop} (h:K false w):Gu Pr .neq dJ g.cells g.cells w K:=by
 refine ⟨.bool false,w,?_,false,rfl,h⟩
 simp only [Sem.run_bind,run_eqGuard_agg w _ _ _ _ _ _ akw,Result.andThen,run_neq_struct,aky]
 rfl
theorem aeF (x y:ah) (l:List dY) (w:World) (hx:kO w x l) (hy:kO w y l) (hl:l.length≤1000000):Ok Pr M4 [.slice x.a x.n x.c,.slice y.a y.n y.c] w fun v w'=>v=.bool true∧Mod [] w w':=by
 refine aeC ?_
 unfold Nh
 have cH:=hx.len
 have gW:=hy.len
 refine ite_false (by rw [← cH,← gW]; simp) ?_
 refine ep 0 l.length (fun i w'=>Mod [] w w') rfl (by omega) (Mod.refl _ _) ?_ ?_
 ·intro again i w1 _ hi m aR
  have m':=m.trans (Mod.drew [] w1)
  refine ite_true (decide_eq_true (by omega)) ((hx.aI m').ld hi rfl ((hy.aI m').ld hi rfl (amN (ite_false rfl ⟨⟨by omega,by omega⟩,aR _ m'⟩))))
 ·intro again w1 m
  exact ite_false (decide_eq_false (by omega)) ⟨rfl,m⟩
theorem abF:zc Pr dJ=gz.cells:=by kernel_rfl
end Go.Proofs.YtpchgbolambkcaaGreatDoor
end
section
set_option linter.unusedVariables false
set_option linter.unusedSimpArgs false
namespace Go.Proofs.YtpchgbolambkcaaGreatDoor
open Go Go.Ev
set_option maxRecDepth 20000
set_option linter.unusedVariables false
structure cv where
 id:Int
 ten:Int
 key:List B8
 high:Int
 used:bw
def eJ:cv:=⟨0,0,[],0,0⟩
def cv.cs (p:cv) (x:ah):List Value:=rU p.id p.ten x p.high (p.used.toNat:Int)
theorem cv.eo (p:cv) (x:ah):(p.cs x).length=5:=rfl
def zJ (w:World) (x:ah) (p:cv):Prop:=Bytes w x p.key
theorem zJ.aI {w w':World} {x:ah} {p:cv} (m:Mod [] w w') (h:zJ w x p):zJ w' x p:=Bytes.aI h m
def we (w:World) (s:ah) (ps:List cv):Prop:=Dv cv.cs 5 zJ w s ps
theorem we.aI {w w':World} {s:ah} {ps:List cv} (h:we w s ps) (m:Mod [] w w'):we w' s ps:=Dv.aI (E:=zJ) (fun m h=>zJ.aI m h) h m
theorem we.len {w:World} {s:ah} {ps:List cv} (h:we w s ps):ps.length=s.n:=Dv.len cv.eo (by omega) h
def xK (w:World) (x:ah) (k:ct):Prop:=oQ w x k.bu
theorem xK.aI {w w':World} {x:ah} {k:ct} (m:Mod [] w w') (h:xK w x k):xK w' x k:=oQ.aI h m
def yW (w:World) (s:ah) (ks:List ct):Prop:=Dv ct.cs 4 xK w s ks
theorem yW.aI {w w':World} {s:ah} {ks:List ct} (h:yW w s ks) (m:Mod [] w w'):yW w' s ks:=Dv.aI (E:=xK) (fun m h=>xK.aI m h) h m
theorem yW.len {w:World} {s:ah} {ks:List ct} (h:yW w s ks):ks.length=s.n:=Dv.len ct.eo (by omega) h
structure aJ where
 clock:Int
 fy:List B8
 bq:List bZ
 aE:List cv
 keys:List ct
 cM:List dY
structure cL where
 sec:ah
 ten:ah
 aE:ah
 key:ah
 gr:ah
def aJ.cs (t:aJ) (s:cL):List Value:=mO t.clock s.sec s.ten s.aE s.key s.gr
structure bN (w:World) (s:cL) (t:aJ):Prop where
 sec:Bytes w s.sec t.fy
 ten:fE w s.ten t.bq
 aE:we w s.aE t.aE
 key:yW w s.key t.keys
 gr:kO w s.gr t.cM
theorem bN.aI {w w':World} {s:cL} {t:aJ} (h:bN w s t) (m:Mod [] w w'):bN w' s t:=⟨Bytes.aI h.sec m,h.ten.aI m,h.aE.aI m,h.key.aI m,h.gr.aI m⟩
structure aJ.small (t:aJ):Prop where
 sec:t.fy.length≤1000000
 ten:t.bq.length≤1000
 aE:t.aE.length≤1000
 key:t.keys.length≤1000
 gr:t.cM.length≤1000
 pk:∀ p∈t.aE,p.key.length≤1000000
 lS:∀ k∈t.keys,k.bu.length≤1000
 bV:∀ k∈t.keys,∀ v∈k.bu,v.bV.length≤1000000
 gf:∀ g∈t.cM,g.fit
theorem Sv:fQ Pr nE ey 5 56:=fQ.of (by kernel_rfl)
theorem Sw:fQ Pr nH bW 4 48:=fQ.of (by kernel_rfl)
theorem cv.jM (p:cv) (x:ah):∀ u∈p.cs x,fW u=true:=by
 intro u hu
 simp only [cv.cs,rU,List.mem_cons,List.not_mem_nil,or_false] at hu
 rcases hu with rfl | rfl | rfl | rfl | rfl <;> rfl
theorem ct.jM (k:ct) (x:ah):∀ u∈k.cs x,fW u=true:=by
 intro u hu
 simp only [ct.cs,mP,List.mem_cons,List.not_mem_nil,or_false] at hu
 rcases hu with rfl | rfl | rfl | rfl <;> rfl
end Go.Proofs.YtpchgbolambkcaaGreatDoor
end
section
set_option linter.unusedVariables false
set_option linter.unusedSimpArgs false
namespace Go.Proofs.YtpchgbolambkcaaGreatDoor
open Go Go.Ev
set_option maxRecDepth 20000
set_option linter.unusedVariables false
theorem aeS (x:ah) (ps:List cv) (xs:List ah) (oV:xs.length=ps.length) (hl:ps.length≤1000000) (w:World) (hx:Sl w x 5 (bP cv.cs ps xs)):Ok Pr L5 [.slice x.a x.n x.c] w fun v w'=>∃ y:ah,v=.slice y.a y.n y.c∧Own w' w.heap.size ey 5 y (bP cv.cs ps xs)∧y.n=x.n∧Mod [] w w':=by
 refine adU ?_
 unfold L7
 have cH:=hx.len
 rw [kI cv.eo ps xs oV] at cH
 refine cN (fun h=>?_) (fun h=>?_)
 ·have h0:x.n=0:=by
   rcases Nat.eq_zero_or_pos x.n with e | e
   ·exact e
   ·have:=Sl.pre hx e
    cases ha:x.a with
    | none=>rw [ha] at this; cases this
    | some a=>rw [ha] at h; cases h
  obtain rfl:ps=[]:=List.eq_nil_of_length_eq_zero (by omega)
  exact ⟨⟨none,0,0⟩,rfl,Own.nil _ _ _ _,h0.symm,Mod.refl _ _⟩
 ·refine (aq.start w).nw fun p w1 H _=>?_
  have H:=H.tW 0 5 0 0 rfl rfl (Nat.le_refl _) (by simp only [maxLen]; omega)
  refine H.app (s:=⟨some ⟨p,0,none⟩,0,0⟩) (vs:=[]) 0 Sv rfl (hx.aI H.mod) (vo cv.jM ps xs) (by show (0+x.n) * 56≤_; omega) (by show 0+x.n≤_; omega) fun y w2 H hy=>?_
  exact ⟨y,rfl,H.mC 0 rfl,by rw [hy]; exact Nat.zero_add _,H.mod⟩
theorem aeT (x:ah) (ks:List ct) (xs:List ah) (oV:xs.length=ks.length) (hl:ks.length≤1000000) (w:World) (hx:Sl w x 4 (bP ct.cs ks xs)):Ok Pr Mn [.slice x.a x.n x.c] w fun v w'=>∃ y:ah,v=.slice y.a y.n y.c∧Own w' w.heap.size bW 4 y (bP ct.cs ks xs)∧y.n=x.n∧Mod [] w w':=by
 refine adX ?_
 unfold Mo
 have cH:=hx.len
 rw [kI ct.eo ks xs oV] at cH
 refine cN (fun h=>?_) (fun h=>?_)
 ·have h0:x.n=0:=by
   rcases Nat.eq_zero_or_pos x.n with e | e
   ·exact e
   ·have:=Sl.pre hx e
    cases ha:x.a with
    | none=>rw [ha] at this; cases this
    | some a=>rw [ha] at h; cases h
  obtain rfl:ks=[]:=List.eq_nil_of_length_eq_zero (by omega)
  exact ⟨⟨none,0,0⟩,rfl,Own.nil _ _ _ _,h0.symm,Mod.refl _ _⟩
 ·refine (aq.start w).nw fun p w1 H _=>?_
  have H:=H.tW 0 4 0 0 rfl rfl (Nat.le_refl _) (by simp only [maxLen]; omega)
  refine H.app (s:=⟨some ⟨p,0,none⟩,0,0⟩) (vs:=[]) 0 Sw rfl (hx.aI H.mod) (vo ct.jM ks xs) (by show (0+x.n) * 48≤_; omega) (by show 0+x.n≤_; omega) fun y w2 H hy=>?_
  exact ⟨y,rfl,H.mC 0 rfl,by rw [hy]; exact Nat.zero_add _,H.mod⟩
theorem Jp (n lo hi:Int) (w:World):Ok Pr Cw [.int .i64 n,.int .i64 lo,.int .i64 hi] w fun v w'=>v=.bool (aW lo hi n)∧w'=w:=by
 refine ahK ?_
 unfold Ri
 exact ⟨rfl,rfl⟩
theorem W5 (c:Int) (hc:c≠0) (w:World):Ok Pr IQ [.int .i64 c] w fun v w'=>gy w w' v c∧Mod [] w w':=by
 refine afP ?_
 unfold OO
 exact oL fun b w' hb h1 h2 _=>⟨gy.mk h1 (by omega) hc,h2⟩
end Go.Proofs.YtpchgbolambkcaaGreatDoor
end
section
set_option linter.unusedVariables false
set_option linter.unusedSimpArgs false
namespace Go.Proofs.YtpchgbolambkcaaGreatDoor
open Go Go.Ev
set_option maxRecDepth 20000
set_option linter.unusedVariables false
theorem aaT (u:bw) (k:Nat):bt u k=1↔u.getLsbD k=true:=by
 unfold bt
 constructor
 ·intro h
  have:=congrArg (fun x=>x.getLsbD 0) h
  simpa using this
 ·intro h
  refine BitVec.eq_of_getLsbD_eq fun i hi=>?_
  by_cases h0:i=0
  ·subst h0; simpa using h
  ·simp [h0]
theorem ZG (u:bw) (k:Nat):u >>> k=0↔∀ i,k≤i→i<64→¬ bt u i=1:=by
 constructor
 ·intro h i h1 h2
  rw [aaT]
  have:=congrArg (fun x=>x.getLsbD (i - k)) h
  simp only [BitVec.getLsbD_ushiftRight] at this
  rw [show k+(i - k)=i by omega] at this
  rw [this]; simp
 ·intro h
  refine BitVec.eq_of_getLsbD_eq fun i hi=>?_
  rw [BitVec.getLsbD_ushiftRight]
  by_cases h2:k+i<64
  ·have:=h (k+i) (by omega) h2
   rw [aaT] at this
   simpa using this
  ·rw [BitVec.getLsbD_of_ge _ _ (by omega)]; simp
theorem PO (high:Int) (u:bw) (w:World):Ok Pr EK [.int .i64 high,.int .u64 (u.toNat:Int)] w fun r w'=>r=.bool (iD high u)∧w'=w:=by
 refine ahb ?_
 unfold QA
 by_cases h:high<0∨1099511627776<high
 ·exact ite_true (by simpa using h) ⟨by unfold iD; rw [if_pos h],rfl⟩
 refine ite_false (by simpa using h) ?_
 obtain ⟨k,rfl⟩:∃ k:Nat,high=(k:Int):=⟨high.toNat,by omega⟩
 refine ep 0 64 (fun i w'=>(∀ j,k≤j→j<i→¬ bt u j=1)∧w'=w) rfl (by omega) ⟨fun j h1 h2=>by omega,rfl⟩ ?_ ?_
 ·rintro again i w1 _ hi ⟨nP,rfl⟩ aR
  refine ite_true (decide_eq_true (by omega)) ?_
  by_cases hk:k≤i
  ·refine ite_true (decide_eq_true (by omega)) (su (by omega) ?_)
   rw [Dn,F1]
   by_cases hb:bt u i=1
   ·refine ite_true (decide_eq_true (show ((u >>> i &&& 1).toNat:Int)=1 by
     have:u >>> i &&& 1=1:=hb
     rw [this]; rfl)) ⟨?_,rfl⟩
    have hz:¬ u >>> k=0:=fun f=>(ZG u k).1 f i hk (by omega) hb
    have e:iD (k:Int) u=false:=by
     unfold iD
     rw [if_neg h]
     by_cases h0:(k:Int)=0
     ·rw [if_pos h0,decide_eq_false]
      intro f; exact hz (by rw [f]; simp)
     ·rw [if_neg h0,Int.toNat_natCast,decide_eq_false (fun f=>hz (f (by omega)))]; rfl
    rw [e]
   ·refine ite_false (decide_eq_false (show ¬ ((u >>> i &&& 1).toNat:Int)=1 from fun f=>hb (AB (y:=1) |>.1 f))) ⟨⟨by omega,by omega⟩,aR w1 ⟨fun j h1 h2=>?_,rfl⟩⟩
    rcases Nat.lt_or_ge j i with h3 | h3
    ·exact nP j h1 h3
    ·rw [show j=i by omega]; exact hb
  ·refine ite_false (decide_eq_false (by omega)) ⟨⟨by omega,by omega⟩,aR w1 ⟨fun j h1 h2=>?_,rfl⟩⟩
   omega
 ·rintro again w1 ⟨nP,rfl⟩
  have hz:k<64→u >>> k=0:=fun hk=>(ZG u k).2 fun i h1 h2=>nP i h1 h2
  refine ite_false (decide_eq_false (by omega)) ⟨?_,rfl⟩
  rw [F1]
  congr 1
  unfold iD
  rw [if_neg h]
  by_cases h0:(k:Int)=0
  ·have:k=0:=by omega
   subst this
   have:=hz (by omega)
   rw [if_pos h0,decide_eq_true h0,decide_eq_true (show u=0 by simpa using this)]; rfl
  ·rw [if_neg h0,decide_eq_false h0,Int.toNat_natCast,decide_eq_true (fun f=>hz (by omega)),Bool.true_and,Bool.false_or]
   exact (decide_eq_decide.2 (AB (y:=1)))
theorem ahg (high:Int) (u:bw) (n:Int) (w:World):Ok Pr OE [.int .i64 high,.int .u64 (u.toNat:Int),.int .i64 n] w fun r w'=>r=.bool (kT high u n)∧w'=w:=by
 refine afU ?_
 unfold OT
 refine aC (PO high u w) ?_
 rintro _ w1 ⟨rfl,hw⟩
 subst hw
 refine bh ?_
 by_cases h:iD high u=true∧1≤n∧n≤1099511627776
 case neg=>
  have e:kT high u n=false:=by unfold kT; rw [if_neg fun f=>h ⟨f.1,f.2.1,f.2.2.1⟩]
  refine ite_true ?_ ⟨by rw [e],rfl⟩
  cases hm:iD high u with
  | false=>rfl
  | true=>
   rw [hm] at h
   by_cases h1:n<1
   ·rw [decide_eq_true h1]; rfl
   ·rw [decide_eq_true (show 1099511627776<n from Decidable.byContradiction fun f=>h ⟨rfl,by omega,by omega⟩)]; simp
 obtain ⟨hm,h1,h2⟩:=h
 rw [abE (JQ hm) ⟨h1,h2⟩]
 refine ite_false (by rw [hm,decide_eq_false (show ¬ n<1 by omega),decide_eq_false (show ¬ 1099511627776<n by omega)]; rfl) ?_
 by_cases hh:high<n
 ·have e:kT high u n=true:=by unfold kT; rw [if_pos ⟨hm,h1,h2,by omega⟩,decide_eq_true hh]; rfl
  exact ite_true (decide_eq_true hh) ⟨by rw [e],rfl⟩
 refine ite_false (decide_eq_false hh) ?_
 by_cases j7:high - n<64
 ·have e:kT high u n=(decide (high<n) || decide (bt u (high - n).toNat=0)):=by unfold kT; rw [if_pos ⟨hm,h1,h2,j7⟩]
  refine ite_true (decide_eq_true j7) (su (by omega) ⟨?_,rfl⟩)
  rw [e,decide_eq_false hh,Bool.false_or]
  obtain ⟨k,hk⟩:∃ k:Nat,high - n=(k:Int):=⟨(high - n).toNat,by omega⟩
  rw [hk,Int.toNat_natCast,Dn,F1]
  congr 1
  exact decide_eq_decide.2 (AB (y:=0))
 ·have e:kT high u n=false:=by unfold kT; rw [if_neg fun f=>j7 f.2.2.2]
  exact ite_false (decide_eq_false j7) ⟨by rw [e],rfl⟩
theorem XM (high:Int) (u:bw) (n:Int) (w:World):Ok Pr Jm [.int .i64 high,.int .u64 (u.toNat:Int),.int .i64 n] w fun r w'=>r=.tuple ⟨[.int .i64 (ur high u n),.int .u64 ((A8 high u n).toNat:Int),.int .i64 (kU high u n)]⟩∧Mod [] w w':=by
 refine ahd ?_
 unfold QC
 have hC:kU high u n=if iD high u=true then (if kT high u n=true then 0 else 8) else 2:=rfl
 have hH:ur high u n=if kU high u n=0 then (if high<n then n else high) else 0:=rfl
 have hU:A8 high u n=if kU high u n=0 then (if high<n then (u <<< (min (n - high) 64).toNat) ||| 1 else u ||| ((1:bw) <<< (high - n).toNat)) else 0:=rfl
 generalize kU high u n=C at *
 generalize ur high u n=A at *
 generalize A8 high u n=B at *
 refine aC (PO high u w) ?_
 rintro _ w1 ⟨rfl,hw⟩
 subst hw
 refine bh ?_
 cases hm:iD high u with
 | false=>
  rw [hm,if_neg (by decide)] at hC
  rw [hC,if_neg (by decide)] at hH hU
  exact ite_true rfl ⟨by rw [hH,hU,hC]; rfl,Mod.refl _ _⟩
 | true=>
  rw [hm,if_pos rfl] at hC
  refine ite_false rfl (aC (ahg high u n w1) ?_)
  rintro _ w2 ⟨rfl,hw⟩
  subst hw
  refine bh ?_
  cases hf:kT high u n with
  | false=>
   rw [hf,if_neg (by decide)] at hC
   rw [hC,if_neg (by decide)] at hH hU
   exact ite_true rfl ⟨by rw [hH,hU,hC]; rfl,Mod.refl _ _⟩
  | true=>
   rw [hf,if_pos rfl] at hC
   rw [hC,if_pos rfl] at hH hU
   subst hH hU
   rw [hC]
   have hr:=JQ hm
   have hn:1≤n∧n≤1099511627776:=by
    unfold kT at hf
    split at hf
    ·rename_i hc; exact ⟨hc.2.1,hc.2.2.1⟩
    ·cases hf
   refine ite_false rfl ?_
   by_cases hh:high<n
   ·rw [if_pos hh,if_pos hh]
    refine ite_false (decide_eq_false (by omega)) ⟨⟨by omega,by omega⟩,?_⟩
    by_cases j7:64≤n - high
    ·refine ite_true (decide_eq_true j7) ⟨?_,Mod.refl _ _⟩
     have e:u <<< (min (n - high) 64).toNat ||| 1=1:=by
      rw [show (min (n - high) 64).toNat=64 by omega]
      have:u <<< 64=0:=by
       refine BitVec.eq_of_getLsbD_eq fun i hi=>?_
       rw [BitVec.getLsbD_shiftLeft]
       simp [hi]
      rw [this]; rfl
     rw [e]; rfl
    ·obtain ⟨k,hk⟩:∃ k:Nat,n - high=(k:Int):=⟨(n - high).toNat,by omega⟩
     rw [show (min (n - high) 64).toNat=k by omega,hk]
     refine ite_false (decide_eq_false (by omega)) ⟨⟨by omega,by omega⟩,su (by omega) ⟨?_,Mod.drew _ _⟩⟩
     rw [FJ,FK,FT]
   ·rw [if_neg hh,if_neg hh]
    obtain ⟨k,hk⟩:∃ k:Nat,high - n=(k:Int):=⟨(high - n).toNat,by omega⟩
    rw [hk,Int.toNat_natCast]
    refine ite_true (decide_eq_true (by omega)) ⟨⟨by omega,by omega⟩,su (by omega) ⟨?_,Mod.drew _ _⟩⟩
    rw [FK,FJ,FT]
end Go.Proofs.YtpchgbolambkcaaGreatDoor
end
section
set_option linter.unusedVariables false
set_option linter.unusedSimpArgs false
namespace Go.Proofs.YtpchgbolambkcaaGreatDoor
open Go Go.Ev
set_option maxRecDepth 20000
set_option linter.unusedVariables false
theorem Es (x:ah) (ts:List bZ) (id:Int) (w:World) (hx:fE w x ts):Ok Pr zZ [.slice x.a x.n x.c,.int .i64 id] w fun v w'=>v=.bool (aW 1 (ts.length:Int) id)∧w'=w:=by
 refine afQ ?_
 unfold OP
 have:=hx.len
 refine ⟨?_,rfl⟩
 rw [this]; rfl
theorem I6 (x:ah) (ts:List bZ) (hl:ts.length≤1000000) (w:World) (hx:fE w x ts):Ok Pr EI [.slice x.a x.n x.c] w fun v w'=>v=.bool (iw ts)∧Mod [] w w':=by
 refine ag9 ?_
 unfold Qy
 rw [Ss]
 have cH:=hx.len
 by_cases h8:ts.length≤8
 case neg=>
  have eM:iw ts=false:=by unfold iw; rw [decide_eq_false h8]; rfl
  refine CI (fun i w'=>w'=w) (fun _ _=>0) rfl ?_
  rintro again i _ rfl aR
  exact ite_false (by rw [decide_eq_false (show ¬ ((x.n:Nat):Int)≤8 by omega),Bool.and_false]) ⟨by rw [eM,decide_eq_false (show ¬ ((x.n:Nat):Int)≤8 by omega)],Mod.refl _ _⟩
 have eM:iw ts=qH ts ts.length:=by unfold iw; rw [decide_eq_true h8]; rfl
 refine ep 0 ts.length (fun i w'=>qH ts i=true∧Mod [] w w') rfl (by omega) ⟨rfl,Mod.refl _ _⟩ ?_ ?_
 ·rintro again i w1 _ hi ⟨fF,m⟩ aR
  obtain ⟨cU,hc⟩:=(hx.aI m).at hi
  have hs:qH ts (i+1)=(qH ts i && sF ts i):=rfl
  have hF:sF ts i=(decide ((ts.getD i tz).id=(i:Int)+1) && (decide (min (i:Int) 1≤(ts.getD i tz).par) && (decide ((ts.getD i tz).par≤(i:Int)) && (mD (ts.getD i tz).name && !(ts.take i).any (jK (ts.getD i tz).par (ts.getD i tz).name))))):=rfl
  have no:∀ {w2:World},Mod [] w w2→sF ts i=false→(fun v w'=>v=Value.bool (iw ts)∧Mod [] w w') (.bool false) w2:=fun m h=>⟨by rw [eM,SR h _ hi],m⟩
  generalize ts.getD i tz=t at *
  refine ite_true (by rw [decide_eq_true (show (i:Int)<((x.n:Nat):Int) by omega),decide_eq_true (show ((x.n:Nat):Int)≤8 by omega)]; rfl) ⟨cU,BX hc ((aq.start w1).nw fun p w2 D _=>D.uX 0 rfl rfl fun w3 D=>?_)⟩
  refine D.au 0 rfl (an p 0) rfl ⟨⟨by omega,by omega⟩,D.dR 0 rfl (an p 2) rfl (D.dR 0 rfl (an p 2) rfl (D.au 0 rfl (an p 1) rfl (D.au 0 rfl (an p 1) rfl (D.au 0 rfl (an p 1) rfl ?_))))⟩
  have eN:mD t.name=true↔1≤t.name.size∧t.name.size≤300:=by
   unfold mD aW
   simp only [Bool.and_eq_true,decide_eq_true_eq]
   omega
  have eq:((decide (t.par=0)) == (decide ((i:Int)=0)))=decide (t.par=0↔(i:Int)=0):=by
   by_cases a:t.par=0 <;> by_cases b:(i:Int)=0 <;> simp [a,b]
  rw [eq]
  by_cases hg:t.id=(i:Int)+1∧min (i:Int) 1≤t.par∧t.par≤(i:Int)∧mD t.name=true
  case neg=>
   refine ite_true ?_ (no (m.trans D.mod) ?_)
   ·simp only [Bool.or_eq_true,Bool.not_eq_true',decide_eq_true_eq,decide_eq_false_iff_not]
    rw [eN] at hg
    omega
   ·rw [hF]
    cases hn:mD t.name with
    | false=>simp
    | true=>
     rw [hn] at hg
     simp only [Bool.and_eq_false_iff,decide_eq_false_iff_not]
     by_cases q1:t.id=(i:Int)+1
     ·by_cases q2:min (i:Int) 1≤t.par
      ·exact .inr (.inr (.inl fun q3=>hg ⟨q1,q2,q3,rfl⟩))
      ·exact .inr (.inl q2)
     ·exact .inl q1
  obtain ⟨g1,g2,g3,g4⟩:=hg
  rw [decide_eq_true g1,decide_eq_true g2,decide_eq_true g3,g4,Bool.true_and,Bool.true_and,Bool.true_and,Bool.true_and] at hF
  refine ite_false ?_ ?_
  ·simp only [Bool.or_eq_false_iff,Bool.not_eq_false',decide_eq_true_eq,decide_eq_false_iff_not]
   have:=eN.1 g4
   omega
  refine ep 0 i (fun kv w'=>(ts.take kv).any (jK t.par t.name)=false∧aq w1 [] w' [.av p (lK t.id t.par t.name) cZ]) rfl (by omega) ⟨rfl,D⟩ ?_ ?_
  ·rintro AJ kv w4 _ Hj ⟨hn,D⟩ um
   have D:=D.drew
   obtain ⟨ab3,hck⟩:=(hx.aI (m.trans D.mod)).at (i:=kv) (by omega)
   have abG:=xZ (jK t.par t.name) ts kv (by omega) tz
   have anC:jK t.par t.name (ts.getD kv tz)=true→(ts.take i).any (jK t.par t.name)=true:=fun h=>by
    have h1:=yh (jK t.par t.name) (ts.take i) kv (by rw [List.length_take]; omega) tz (by
     rw [List.getD_eq_getElem?_getD,List.getElem?_take,if_pos Hj,← List.getD_eq_getElem?_getD]; exact h)
    exact h1
   generalize ts.getD kv tz=q at *
   refine ite_true (decide_eq_true (by omega)) ⟨ab3,_,hck 1 _ rfl,D.au 0 rfl (an p 1) rfl ?_⟩
   by_cases hp:q.par=t.par
   ·refine ite_true (decide_eq_true hp) ⟨ab3,_,hck 2 _ rfl,D.dR 0 rfl (an p 2) rfl ?_⟩
    by_cases hq:q.name=t.name
    ·have nu:jK t.par t.name q=true:=by unfold jK; rw [decide_eq_true hp,decide_eq_true hq]; rfl
     exact ite_true (decide_eq_true hq) (no (m.trans D.mod) (by rw [hF,anC nu]; rfl))
    ·exact ite_false (decide_eq_false hq) ⟨⟨by omega,by omega⟩,um _ ⟨by rw [abG,hn]; unfold jK; rw [decide_eq_false hq,Bool.and_false]; rfl,D⟩⟩
   ·exact ite_false (decide_eq_false hp) ⟨⟨by omega,by omega⟩,um _ ⟨by rw [abG,hn]; unfold jK; rw [decide_eq_false hp]; rfl,D⟩⟩
  ·rintro AJ w4 ⟨hn,D⟩
   exact ite_false (decide_eq_false (by omega)) ⟨⟨by omega,by omega⟩,aR _ ⟨by rw [hs,fF,hF,hn]; rfl,m.trans D.mod⟩⟩
 ·rintro again w1 ⟨fF,m⟩
  exact ite_false (by rw [decide_eq_false (show ¬ ((ts.length:Nat):Int)<((x.n:Nat):Int) by omega)]; rfl) ⟨by rw [eM,fF,decide_eq_true (show ((x.n:Nat):Int)≤8 by omega)],m⟩
end Go.Proofs.YtpchgbolambkcaaGreatDoor
end
section
set_option linter.unusedVariables false
set_option linter.unusedSimpArgs false
namespace Go.Proofs.YtpchgbolambkcaaGreatDoor
open Go Go.Ev
set_option maxRecDepth 20000
set_option linter.unusedVariables false
theorem afY (v:cJ) (x:ah) (n:Int) (w:World) (hx:pI w x v):Ok Pr ND [.agg ⟨v.cs x⟩,.int .i64 n] w fun r w'=>r=.bool (lO v n)∧Mod [] w w':=by
 refine afd ?_
 unfold NN
 have cH:=Bytes.len hx
 refine (aq.start w).nw fun p w1 H _=>?_
 have H:aq w [] w1 [.av p (zX v.n v.st v.due x) eW]:=H
 refine H.au 0 rfl (an p 0) rfl (H.au 0 rfl (an p 1) rfl (H.au 0 rfl (an p 1) rfl ?_))
 have hM:lO v n=(decide (v.n=n) && (if v.st=3 then aW 1 1099511627776 v.due && decide (v.bV.length=64) else if v.st=4 then decide (v.due=0) && decide (v.bV.length=0) else if v.st=1∨v.st=2 then decide (v.due=0) && decide (v.bV.length=64) else false)):=rfl
 by_cases h1:v.n=n
 case neg=>
  rw [decide_eq_false h1,Bool.false_and] at hM
  exact ite_true (by rw [decide_eq_false h1]; rfl) ⟨by rw [hM],H.mod⟩
 rw [decide_eq_true h1,Bool.true_and] at hM
 by_cases hs:1≤v.st∧v.st≤4
 case neg=>
  rw [if_neg (by omega),if_neg (by omega),if_neg (by omega)] at hM
  refine ite_true ?_ ⟨by rw [hM],H.mod⟩
  by_cases h:v.st<1
  ·rw [decide_eq_true h,Bool.or_true,Bool.true_or]
  ·rw [decide_eq_true (show 4<v.st by omega),Bool.or_true]
 refine ite_false (by rw [decide_eq_true h1,decide_eq_false (show ¬ v.st<1 by omega),decide_eq_false (show ¬ 4<v.st by omega)]; rfl) (H.au 0 rfl (an p 1) rfl (H.ay 0 rfl (an p 3) rfl (H.au 0 rfl (an p 1) rfl (H.ay 0 rfl (an p 3) rfl ?_))))
 have UF:decide (((x.n:Nat):Int)=64)=decide (v.bV.length=64):=decide_eq_decide.2 (by omega)
 have e0:decide (((x.n:Nat):Int)=0)=decide (v.bV.length=0):=decide_eq_decide.2 (by omega)
 rw [UF,e0]
 by_cases h4:v.st=4
 ·rw [if_neg (by omega),if_pos h4] at hM
  by_cases h:v.bV.length=0
  ·rw [decide_eq_true h,Bool.and_true] at hM
   exact ite_false (by rw [decide_eq_true h4,decide_eq_true h]; rfl) (H.au 0 rfl (an p 1) rfl (ite_false (decide_eq_false (by omega)) (H.au 0 rfl (an p 2) rfl ⟨by rw [hM],H.mod⟩)))
  ·rw [decide_eq_false h,Bool.and_false] at hM
   exact ite_true (by rw [decide_eq_true h4,decide_eq_false h]; rfl) ⟨by rw [hM],H.mod⟩
 ·by_cases h:v.bV.length=64
  ·rw [decide_eq_true h,Bool.and_true,Bool.and_true] at hM
   refine ite_false (by rw [decide_eq_false h4,decide_eq_true h]; rfl) (H.au 0 rfl (an p 1) rfl ?_)
   by_cases h3:v.st=3
   ·rw [if_pos h3] at hM
    exact ite_true (decide_eq_true h3) (H.au 0 rfl (an p 2) rfl (H.au 0 rfl (an p 2) rfl ⟨by rw [hM]; rfl,H.mod⟩))
   ·rw [if_neg h3,if_neg h4,if_pos (by omega)] at hM
    exact ite_false (decide_eq_false h3) (H.au 0 rfl (an p 2) rfl ⟨by rw [hM],H.mod⟩)
  ·rw [decide_eq_false h,Bool.and_false,Bool.and_false,if_neg h4] at hM
   refine ite_true (by rw [decide_eq_false h4,decide_eq_false h]; rfl) ⟨?_,H.mod⟩
   rw [hM]
   split
   ·rfl
   ·split <;> rfl
theorem aik (k:ct) (x:ah) (hl:k.bu.length≤1000000) (w:World) (hx:oQ w x k.bu):Ok Pr P8 [.agg ⟨k.cs x⟩] w fun r w'=>r=.bool (lX k)∧Mod [] w w':=by
 refine ahc ?_
 unfold QB
 have cH:=hx.len
 refine (aq.start w).nw fun p w1 H _=>?_
 have H:aq w [] w1 [.av p (mP k.id k.ten k.set x) bW]:=H
 refine H.au 0 rfl (an p 0) rfl (H.au 0 rfl (an p 0) rfl (H.au 0 rfl (an p 1) rfl (H.au 0 rfl (an p 1) rfl (H.au 0 rfl (an p 2) rfl (H.au 0 rfl (an p 2) rfl (H.ay 0 rfl (an p 3) rfl (H.ay 0 rfl (an p 3) rfl ?_)))))))
 by_cases h:(1≤k.id∧k.id≤6)∧(1≤k.ten∧k.ten≤8)∧(1≤k.set∧k.set≤3)∧(1≤k.bu.length∧k.bu.length≤5)
 case neg=>
  refine ite_true ?_ ⟨?_,H.mod⟩
  ·simp only [Bool.or_eq_true,decide_eq_true_eq]; omega
  ·have:lX k=false:=Bool.eq_false_iff.2 fun hm=>by
    obtain ⟨a,b,c,d,_⟩:=alQ hm
    exact h ⟨a,b,c,d⟩
   rw [this]
 obtain ⟨h1,h2,h3,h4⟩:=h
 refine ite_false ?_ ?_
 ·simp only [Bool.or_eq_false_iff,decide_eq_false_iff_not]; omega
 have eK:lX k=qG k.bu k.bu.length:=by
  unfold lX aW
  rw [decide_eq_true h1.1,decide_eq_true h1.2,decide_eq_true h2.1,decide_eq_true h2.2,decide_eq_true h3.1,decide_eq_true h3.2,decide_eq_true (show (1:Int)≤(k.bu.length:Int) by omega),decide_eq_true (show (k.bu.length:Int)≤5 by omega)]
  simp
 refine ep 0 k.bu.length (fun i w'=>qG k.bu i=true∧aq w [] w' [.av p (mP k.id k.ten k.set x) bW]) rfl (by omega) ⟨rfl,H⟩ ?_ ?_
 ·rintro again i w3 _ hi ⟨fF,H⟩ aR
  have ha:k.bu[i]? = some (k.bu.getD i vz):=by rw [List.getD_eq_getElem?_getD,List.getElem?_eq_getElem hi]; rfl
  obtain ⟨cU,y,hy,hc⟩:=Dv.at cJ.eo (by omega) (hx.aI H.mod) ha
  have hs:qG k.bu (i+1)=(qG k.bu i && lO (k.bu.getD i vz) ((i:Int)+1)):=rfl
  have jE:=SP (vs:=k.bu) (i:=i)
  generalize k.bu.getD i vz=v at *
  refine H.ay 0 rfl (an p 3) rfl (ite_true (decide_eq_true (by omega)) (H.ay 0 rfl (an p 3) rfl ⟨cU,BW hc ⟨⟨by omega,by omega⟩,aC (afY v y _ _ hy) ?_⟩⟩))
  rintro _ w6 ⟨rfl,m6⟩
  refine bh ?_
  cases hv:lO v ((i:Int)+1) with
  | false=>exact ite_true rfl ⟨by rw [eK,jE hv _ hi],H.mod.trans m6⟩
  | true=>exact ite_false rfl ⟨⟨by omega,by omega⟩,aR _ ⟨by rw [hs,fF,hv]; rfl,H.frame m6⟩⟩
 ·rintro again w3 ⟨fF,H⟩
  exact H.ay 0 rfl (an p 3) rfl (ite_false (decide_eq_false (by omega)) ⟨by rw [eK,fF],H.mod⟩)
theorem ahO (k:ct) (x:ah) (hl:k.bu.length≤1000) (hs:∀ v∈k.bu,v.bV.length≤1000000) (w:World) (hx:oQ w x k.bu):Ok Pr Po [.agg ⟨k.cs x⟩] w fun r w'=>∃ y:ah,r=.agg ⟨k.cs y⟩∧TQ w w' y k.bu:=by
 refine agA ?_
 unfold PK
 rw [CQ]
 have cH:=hx.len
 obtain ⟨xs,BA,dH⟩:=hx
 refine (aq.start w).nw fun p w1 H _=>H.nw fun p1 w2 H _=>?_
 have H:aq w [] w2 [.av p (mP k.id k.ten k.set x) bW,.av p1 [.int .i64 0,.int .i64 0,.int .i64 0,.slice none 0 0] bW]:=H
 refine H.ay 0 rfl (an p 3) rfl (H.clone Sr (BA.aI H.mod) (vo cJ.jM k.bu xs) (by omega) (by omega) fun y w3 H UH=>?_)
 refine H.st 0 rfl (an p 3) (by show 3<4; omega) rfl fun w4 H=>?_
 have H:aq w [] w4 ([.av p (mP k.id k.ten k.set y) bW,.av p1 [.int .i64 0,.int .i64 0,.int .i64 0,.slice none 0 0] bW] ++ [.row eW 4 y (bP cJ.cs k.bu xs)]):=H
 refine ep 0 k.bu.length (fun i w'=>iL cJ.cs 4 vH eW w [] [.av p (mP k.id k.ten k.set y) bW,.av p1 [.int .i64 0,.int .i64 0,.int .i64 0,.slice none 0 0] bW] w' y k.bu xs i) rfl (by omega) (iL.start H) ?_ ?_
 ·intro again i w5 _ hi R aR
  refine R.front.ay 0 rfl (an p 3) rfl (ite_true (decide_eq_true (by omega)) ?_)
  have R:=R.frame (Mod.drew [] w5)
  have ha:k.bu[i]? = some k.bu[i]:=List.getElem?_eq_getElem hi
  have fK:xs[i]? = some (xs[i]'(by rw [dH.1]; exact hi)):=List.getElem?_eq_getElem _
  have ux:=hs _ (List.getElem_mem hi)
  have lq:=dH.2 i _ _ fK ha
  obtain ⟨cU,hc⟩:=R.at cJ.eo (by omega) dH.1 ha fK
  generalize k.bu[i]=v at *
  generalize xs[i]'(by rw [dH.1]; exact hi)=z at *
  have F:=R.front
  have hb:pI w5.drew z v:=Bytes.aI lq F.mod
  have vW:=Bytes.len hb
  refine F.ay 0 rfl (an p 3) rfl (F.ay 0 rfl (an p 3) rfl ⟨cU,z,hc 3 z.v rfl,(aq.start w5.drew).CZ hO hb (by omega) fun u w6 U hu=>?_⟩)
  have uK:oN w5.drew w6 fun w=>vH w u v:=U.boxed fun w' h=>h 0 _ rfl
  exact ⟨F.anA 0 rfl uK.mod 3,cU,R.step cJ.eo dH.1 ha fK uK (by omega:3<4) (ZF v z u) fun w7 R=>⟨⟨by omega,by omega⟩,aR w7 R⟩⟩
 ·intro again w5 R
  refine R.front.ay 0 rfl (an p 3) rfl (ite_false (decide_eq_false (by omega)) ?_)
  obtain ⟨ys,fp,H⟩:=R.done rfl dH.1
  exact H.iI 0 rfl (H.kR 1 rfl rfl fun w8 H=>H.iI 1 rfl ⟨y,rfl,ys,fp,H.drop 2⟩)
end Go.Proofs.YtpchgbolambkcaaGreatDoor
end
section
set_option linter.unusedVariables false
set_option linter.unusedSimpArgs false
namespace Go.Proofs.YtpchgbolambkcaaGreatDoor
open Go Go.Ev
set_option maxRecDepth 20000
set_option linter.unusedVariables false
theorem E9:zc Pr ey=rU 0 0 ⟨none,0,0⟩ 0 0:=by kernel_rfl
theorem lV:zc Pr aA=mO 0 ⟨none,0,0⟩ ⟨none,0,0⟩ ⟨none,0,0⟩ ⟨none,0,0⟩ ⟨none,0,0⟩:=by kernel_rfl
def oR (t:aJ) (i:Nat) (p:cv):Bool:=decide (p.id=(i:Int)+1) && (aW 1 (t.bq.length:Int) p.ten && (decide (p.key.length=mM 1) && iD p.high p.used))
def nQ (t:aJ):Nat→Bool
 | 0=>true
 | i+1=>nQ t i && oR t i (t.aE.getD i eJ)
def lW (t:aJ) (i:Nat) (k:ct):Bool:=decide (k.id=(i:Int)+1) && (aW 1 (t.bq.length:Int) k.ten && lX k)
def nR (t:aJ):Nat→Bool
 | 0=>true
 | i+1=>nR t i && lW t i (t.keys.getD i kz)
def ry (t:aJ) (g:dY):Bool:=decide ((t.keys.length:Int)<g.n1) || decide ((t.aE.length:Int)<g.n2)
def Dz (t:aJ):Bool:=aW 0 1099511627776 t.clock && (decide (t.fy.length=32) && (decide (1≤t.bq.length) && (iw t.bq && (aW 1 6 (t.aE.length:Int) && (decide (t.keys.length≤6) && sE t.cM)))))
def dh (t:aJ):Bool:=Dz t && (nQ t t.aE.length && (nR t t.keys.length && !t.cM.any (ry t)))
theorem Kc {t:aJ} {i:Nat} (h:oR t i (t.aE.getD i eJ)=false):∀ n,i<n→nQ t n=false
 | 0,hn=>by omega
 | n+1,hn=>by
  show (nQ t n && _)=false
  rcases Nat.lt_or_ge i n with h2 | h2
  ·rw [Kc h n h2,Bool.false_and]
  ·rw [show n=i by omega,h,Bool.and_false]
theorem Sx {t:aJ} {i:Nat} (h:lW t i (t.keys.getD i kz)=false):∀ n,i<n→nR t n=false
 | 0,hn=>by omega
 | n+1,hn=>by
  show (nR t n && _)=false
  rcases Nat.lt_or_ge i n with h2 | h2
  ·rw [Sx h n h2,Bool.false_and]
  ·rw [show n=i by omega,h,Bool.and_false]
theorem we.at {w:World} {s:ah} {ps:List cv} (h:we w s ps) {i:Nat} (hi:i<ps.length) :
  (s.a.isSome=true∧(0:Int)≤(i:Int)∧(i:Int)<(s.n:Int))∧∃ x:ah,Bytes w x (ps.getD i eJ).key∧∀ (j:Nat) (v:Value),((ps.getD i eJ).cs x)[j]? = some v→w.cell? (Addr.add (Addr.add (base s.a) (Int.toNat (i:Int) * 5)) j)=some v:=
 Dv.at cv.eo (by omega) h (by rw [List.getD_eq_getElem?_getD,List.getElem?_eq_getElem hi]; rfl)
theorem yW.at {w:World} {s:ah} {ks:List ct} (h:yW w s ks) {i:Nat} (hi:i<ks.length) :
  (s.a.isSome=true∧(0:Int)≤(i:Int)∧(i:Int)<(s.n:Int))∧∃ x:ah,oQ w x (ks.getD i kz).bu∧∀ (j:Nat) (v:Value),((ks.getD i kz).cs x)[j]? = some v→w.cell? (Addr.add (Addr.add (base s.a) (Int.toNat (i:Int) * 4)) j)=some v:=
 Dv.at ct.eo (by omega) h (by rw [List.getD_eq_getElem?_getD,List.getElem?_eq_getElem hi]; rfl)
theorem Sy {t:aJ} (hs:t.small) {i:Nat} (hi:i<t.keys.length):(t.keys.getD i kz).bu.length≤1000:=by
 refine hs.lS _ ?_
 rw [List.getD_eq_getElem?_getD,List.getElem?_eq_getElem hi]
 exact List.getElem_mem hi
def aaU (w:World) (g:Value) (p:dY→Bool):Prop:=∀ (t:dY) (w':World),Mod [] w w'→qx Pr g [.agg ⟨t.cells⟩] w' fun v eU=>v=.bool (p t)∧Mod [] w' eU
theorem aec (g:Value) (p:dY→Bool) (x:ah) (ts:List dY) (hl:ts.length≤1000000000) (w:World) (hx:kO w x ts) (hg:aaU w g p) :
  Ok Pr L0 [.slice x.a x.n x.c,g] w fun v w'=>∃ z:Int,v=.int .i64 z∧decide (0≤z)=ts.any p∧Mod [] w w':=by
 refine adS ?_
 unfold L4
 have cH:=hx.len
 refine ep 0 ts.length (fun i w'=>(ts.take i).any p=false∧Mod [] w w') rfl (by omega) ⟨rfl,Mod.refl _ _⟩ ?_ ?_
 ·rintro again i w1 _ hi ⟨hn,m⟩ aR
  refine ite_true (decide_eq_true (by omega)) ((hx.aI m).ld hi rfl (Re (hg _ w1 m) ?_))
  rintro _ w2 ⟨rfl,m2⟩
  refine bh (cN (fun hc=>?_) (fun hc=>?_))
  ·exact ⟨_,rfl,by rw [yh p ts i hi gz hc]; exact decide_eq_true (by omega),m.trans m2⟩
  ·exact ⟨⟨by omega,by omega⟩,aR w2 ⟨by rw [xZ p ts i hi gz,hn,hc]; rfl,m.trans m2⟩⟩
 ·rintro again w1 ⟨hn,m⟩
  rw [List.take_of_length_le (Nat.le_refl _)] at hn
  exact ite_false (decide_eq_false (by omega)) ⟨_,rfl,by rw [hn]; rfl,m⟩
theorem ad5 (g:Value) (p:dY→Bool) (x:ah) (ts:List dY) (hl:ts.length≤1000000000) (w:World) (hx:kO w x ts) (hg:aaU w g p) :
  Ok Pr LW [.slice x.a x.n x.c,g] w fun v w'=>v=.bool (ts.any p)∧Mod [] w w':=by
 refine adP ?_
 unfold LX
 refine aC (aec g p x ts hl w hx hg) ?_
 rintro _ w1 ⟨z,rfl,hz,m⟩
 exact cr ⟨by rw [hz],m⟩
theorem ajd:pH Pr OA=true:=by kernel_rfl
theorem PR (s:cL) (t:aJ) (hs:t.small) (w:World) (hx:bN w s t):Ok Pr EJ [.agg ⟨t.cs s⟩] w fun v w'=>v=.bool (dh t)∧Mod [] w w':=by
 refine aha ?_
 unfold Qz
 rw [E9,CQ]
 have Lp:=hx.sec.len
 have wg:=hx.ten.len
 have rJ:=hx.aE.len
 have zK:=hx.key.len
 have Hl:=hx.gr.len
 have rK:=hs.ten
 have sS:=hs.aE
 have DQ:=hs.key
 have xL:=hs.gr
 refine (aq.start w).nw fun p w1 H _=>?_
 have H:aq w [] w1 [.av p (t.cs s) aA]:=H
 have no:∀ {w2:World},Mod [] w w2→dh t=false→(fun v w'=>v=Value.bool (dh t)∧Mod [] w w') (.bool false) w2:=fun m h=>⟨by rw [h],m⟩
 refine iB fun go bX=>?_
 have TS:∀ w2,Mod [] w1 w2→Dz t=true→go w2:=by
  intro w2 m2 hp
  refine bX w2 (aC (Xy 1 w2) ?_)
  have eM:dh t=(nQ t t.aE.length && (nR t t.keys.length && !t.cM.any (ry t))):=by unfold dh; rw [hp]; rfl
  rintro _ w3 ⟨rfl,m3⟩
  have H:=H.frame (m2.trans m3)
  refine ⟨_,rfl,_,rfl,_,rfl,_,rfl,rfl,H.ay 0 rfl (an p 3) rfl ?_⟩
  refine ep 0 t.aE.length (fun i w'=>nQ t i=true∧aq w [] w' [.av p (t.cs s) aA]) rfl (by omega) ⟨rfl,H⟩ ?_ ?_
  ·rintro again i w4 _ hi ⟨fF,H⟩ aR
   obtain ⟨cU,x,j8,hc⟩:=(hx.aE.aI H.mod).at hi
   have hS:nQ t (i+1)=(nQ t i && oR t i (t.aE.getD i eJ)):=rfl
   have hN:=Kc (t:=t) (i:=i)
   have nn:∀ {w2:World},Mod [] w w2→oR t i (t.aE.getD i eJ)=false→(fun v w'=>v=Value.bool (dh t)∧Mod [] w w') (.bool false) w2:=fun m h=>no m (by rw [eM,hN h _ hi]; rfl)
   have bR:=j8.len
   have hP:oR t i (t.aE.getD i eJ)=(decide ((t.aE.getD i eJ).id=(i:Int)+1) && (aW 1 (t.bq.length:Int) (t.aE.getD i eJ).ten && (decide ((t.aE.getD i eJ).key.length=mM 1) && iD (t.aE.getD i eJ).high (t.aE.getD i eJ).used))):=rfl
   generalize t.aE.getD i eJ=q at *
   refine ite_true (decide_eq_true (by omega)) ⟨cU,Ep hc (H.nw fun p1 w5 D _=>D.p9 1 rfl rfl fun w6 D=>?_)⟩
   have D:aq w [] w6 [.av p (t.cs s) aA,.av p1 (q.cs x) ey]:=D
   refine D.au 1 rfl (an p1 0) rfl ⟨⟨by omega,by omega⟩,D.au 1 rfl (an p1 1) rfl (D.ay 0 rfl (an p 2) rfl ?_)⟩
   by_cases e1:q.id=(i:Int)+1
   case neg=>
    refine ite_true (by rw [decide_eq_false e1]; rfl) (D.ay 1 rfl (an p1 2) rfl (D.au 1 rfl (an p1 3) rfl (D.au 1 rfl (an p1 4) rfl (nn D.mod ?_))))
    rw [hP,decide_eq_false e1]; rfl
   refine ite_false (by rw [decide_eq_true e1]; rfl) (aC (Jp _ _ _ _) ?_)
   rintro _ w7 ⟨rfl,BD⟩
   subst BD
   refine bh (D.ay 1 rfl (an p1 2) rfl (D.au 1 rfl (an p1 3) rfl (D.au 1 rfl (an p1 4) rfl ?_)))
   have e2:aW 1 (s.ten.n:Int) q.ten=aW 1 (t.bq.length:Int) q.ten:=by rw [wg]
   rw [e2]
   have e3:(decide ((x.n:Int)=(mM 1:Int)))=decide (q.key.length=mM 1):=by
    by_cases h:q.key.length=mM 1
    ·rw [decide_eq_true h]; exact decide_eq_true (by omega)
    ·rw [decide_eq_false h]; exact decide_eq_false (by omega)
   rw [e3]
   rw [decide_eq_true e1,Bool.true_and] at hP
   cases c1:aW 1 (t.bq.length:Int) q.ten with
   | false=>exact ite_true rfl (nn D.mod (by rw [hP,c1]; rfl))
   | true=>
    rw [c1,Bool.true_and] at hP
    cases c2:decide (q.key.length=mM 1) with
    | false=>exact ite_true rfl (nn D.mod (by rw [hP,c2]; rfl))
    | true=>
     rw [c2,Bool.true_and] at hP
     refine ite_false rfl (aC (OV _ _ _) ?_)
     rintro _ w8 ⟨rfl,BE⟩
     subst BE
     refine bh ?_
     cases c3:iD q.high q.used with
     | false=>exact ite_true rfl (nn D.mod (by rw [hP,c3]))
     | true=>exact ite_false rfl ⟨⟨by omega,by omega⟩,aR _ ⟨by rw [hS,fF,hP,c3]; rfl,D.front (L:=[_])⟩⟩
  ·rintro again w4 ⟨UI,H⟩
   rw [UI,Bool.true_and] at eM
   refine ite_false (decide_eq_false (by omega)) (H.ay 0 rfl (an p 4) rfl ?_)
   refine ep 0 t.keys.length (fun i w'=>nR t i=true∧aq w [] w' [.av p (t.cs s) aA]) rfl (by omega) ⟨rfl,H⟩ ?_ ?_
   ·rintro again i w4 _ hi ⟨fF,H⟩ aR
    obtain ⟨cU,x,j8,hc⟩:=hx.key.at hi
    have hS:nR t (i+1)=(nR t i && lW t i (t.keys.getD i kz)):=rfl
    have hN:=Sx (t:=t) (i:=i)
    have nn:∀ {w2:World},Mod [] w w2→lW t i (t.keys.getD i kz)=false→(fun v w'=>v=Value.bool (dh t)∧Mod [] w w') (.bool false) w2:=fun m h=>no m (by rw [eM,hN h _ hi]; rfl)
    have nY:=Sy hs hi
    have hP:lW t i (t.keys.getD i kz)=(decide ((t.keys.getD i kz).id=(i:Int)+1) && (aW 1 (t.bq.length:Int) (t.keys.getD i kz).ten && lX (t.keys.getD i kz))):=rfl
    generalize t.keys.getD i kz=q at *
    refine ite_true (decide_eq_true (by omega)) ⟨cU,wF (fun j v h=>H.mod.yQ (hc j v h)) (H.nw fun p1 w5 D _=>D.kR 1 rfl rfl fun w6 D=>?_)⟩
    have D:aq w [] w6 [.av p (t.cs s) aA,.av p1 (mP q.id q.ten q.set x) bW]:=D
    refine D.au 1 rfl (an p1 0) rfl ⟨⟨by omega,by omega⟩,D.au 1 rfl (an p1 1) rfl (D.ay 0 rfl (an p 2) rfl ?_)⟩
    by_cases e1:q.id=(i:Int)+1
    case neg=>
     refine ite_true (by rw [decide_eq_false e1]; rfl) (D.iI 1 rfl (nn D.mod ?_))
     rw [hP,decide_eq_false e1]; rfl
    refine ite_false (by rw [decide_eq_true e1]; rfl) (aC (Jp _ _ _ _) ?_)
    rintro _ w7 ⟨rfl,BD⟩
    subst BD
    refine bh (D.iI 1 rfl ?_)
    have e2:aW 1 (s.ten.n:Int) q.ten=aW 1 (t.bq.length:Int) q.ten:=by rw [wg]
    rw [e2]
    rw [decide_eq_true e1,Bool.true_and] at hP
    cases c1:aW 1 (t.bq.length:Int) q.ten with
    | false=>exact ite_true rfl (nn D.mod (by rw [hP,c1]; rfl))
    | true=>
     rw [c1,Bool.true_and] at hP
     refine ite_false rfl (aC (aiK q x (by omega) _ (j8.aI D.mod)) ?_)
     rintro _ w8 ⟨rfl,m8⟩
     refine bh ?_
     cases c3:lX q with
     | false=>exact ite_true rfl (nn (D.mod.trans m8) (by rw [hP,c3]))
     | true=>exact ite_false rfl ⟨⟨by omega,by omega⟩,aR _ ⟨by rw [hS,fF,hP,c3]; rfl,(D.front (L:=[_])).frame m8⟩⟩
   ·rintro again w4 ⟨UJ,H⟩
    rw [UJ,Bool.true_and] at eM
    refine ite_false (decide_eq_false (by omega)) (H.ay 0 rfl (an p 5) rfl (aC (ad5 _ (ry t) s.gr t.cM (by omega) w4 (hx.gr.aI H.mod) fun g w5 m=>?_) ?_))
    ·refine RU ajd (afS ?_)
     unfold OR
     have b1:bQ w5 p (t.cs s) aA:=(H.frame m).av 0 rfl
     refine (aq.start w5).nw fun q w6 K _=>?_
     have c1:=b1.aI K.mod
     refine K.au 0 rfl (an q 1) rfl (c1.ay rfl rfl (K.au 0 rfl (an q 2) rfl (c1.ay rfl rfl ⟨?_,K.mod⟩)))
     unfold ry
     rw [zK,rJ]
    ·rintro _ w5 ⟨rfl,m⟩
     exact bh ⟨by rw [eM],H.mod.trans m⟩
 refine H.au 0 rfl (an p 0) rfl (aC (Jp _ _ _ _) ?_)
 rintro _ w2 ⟨rfl,DP⟩
 subst DP
 refine bh (H.ay 0 rfl (an p 1) rfl (H.ay 0 rfl (an p 2) rfl (H.ay 0 rfl (an p 2) rfl ?_)))
 have eP:Dz t=(aW 0 1099511627776 t.clock && (decide (t.fy.length=32) && (decide (1≤t.bq.length) && (iw t.bq && (aW 1 6 (t.aE.length:Int) && (decide (t.keys.length≤6) && sE t.cM)))))):=rfl
 have BF:∀ {w2:World},Mod [] w w2→Dz t=false→(fun v w'=>v=Value.bool (dh t)∧Mod [] w w') (.bool false) w2:=fun m h=>no m (by unfold dh; rw [h]; rfl)
 have e1:decide ((s.sec.n:Int)=32)=decide (t.fy.length=32):=by
  by_cases h:t.fy.length=32
  ·rw [decide_eq_true h]; exact decide_eq_true (by omega)
  ·rw [decide_eq_false h]; exact decide_eq_false (by omega)
 have e2:decide ((s.ten.n:Int)=0)=!decide (1≤t.bq.length):=by
  by_cases h:1≤t.bq.length
  ·rw [decide_eq_true h]; exact decide_eq_false (by omega)
  ·rw [decide_eq_false h]; exact decide_eq_true (by omega)
 rw [e1,e2]
 cases c1:aW 0 1099511627776 t.clock with
 | false=>exact ite_true rfl (H.ay 0 rfl (an p 3) rfl (H.ay 0 rfl (an p 4) rfl (H.ay 0 rfl (an p 5) rfl (BF H.mod (by rw [eP,c1]; rfl)))))
 | true=>
 cases c2:decide (t.fy.length=32) with
 | false=>exact ite_true rfl (H.ay 0 rfl (an p 3) rfl (H.ay 0 rfl (an p 4) rfl (H.ay 0 rfl (an p 5) rfl (BF H.mod (by rw [eP,c1,c2]; rfl)))))
 | true=>
 cases c3:decide (1≤t.bq.length) with
 | false=>exact ite_true rfl (H.ay 0 rfl (an p 3) rfl (H.ay 0 rfl (an p 4) rfl (H.ay 0 rfl (an p 5) rfl (BF H.mod (by rw [eP,c1,c2,c3]; rfl)))))
 | true=>
 rw [c1,c2,c3,Bool.true_and,Bool.true_and,Bool.true_and] at eP
 refine ite_false rfl (aC (Om s.ten t.bq (by omega) _ (hx.ten.aI H.mod)) ?_)
 rintro _ w3 ⟨rfl,m3⟩
 have H:=H.frame m3
 refine bh (H.ay 0 rfl (an p 3) rfl ?_)
 cases c4:iw t.bq with
 | false=>exact ite_true rfl (H.ay 0 rfl (an p 4) rfl (H.ay 0 rfl (an p 5) rfl (BF H.mod (by rw [eP,c4]; rfl))))
 | true=>
 rw [c4,Bool.true_and] at eP
 refine ite_false rfl (aC (Jp _ _ _ _) ?_)
 rintro _ w4 ⟨rfl,BG⟩
 subst BG
 refine bh (H.ay 0 rfl (an p 4) rfl (H.ay 0 rfl (an p 5) rfl ?_))
 have e3:aW 1 6 (s.aE.n:Int)=aW 1 6 (t.aE.length:Int):=by rw [rJ]
 have e4:decide (6<(s.key.n:Int))=!decide (t.keys.length≤6):=by
  by_cases h:t.keys.length≤6
  ·rw [decide_eq_true h]; exact decide_eq_false (by omega)
  ·rw [decide_eq_false h]; exact decide_eq_true (by omega)
 rw [e3,e4]
 cases c5:aW 1 6 (t.aE.length:Int) with
 | false=>exact ite_true rfl (BF H.mod (by rw [eP,c5]; rfl))
 | true=>
 cases c6:decide (t.keys.length≤6) with
 | false=>exact ite_true rfl (BF H.mod (by rw [eP,c5,c6]; rfl))
 | true=>
 rw [c5,c6,Bool.true_and,Bool.true_and] at eP
 refine ite_false rfl (aC (ahJ s.gr t.cM (by omega) _ (hx.gr.aI H.mod)) ?_)
 rintro _ w5 ⟨rfl,m5⟩
 refine bh ?_
 cases c7:sE t.cM with
 | false=>exact ite_true rfl (BF (H.mod.trans m5) (by rw [eP,c7]))
 | true=>exact ite_false rfl (TS _ (m3.trans m5) (by rw [eP,c7]))
end Go.Proofs.YtpchgbolambkcaaGreatDoor
end
section
set_option linter.unusedVariables false
set_option linter.unusedSimpArgs false
namespace Go.Proofs.YtpchgbolambkcaaGreatDoor
open Go Go.Ev
set_option maxRecDepth 20000
set_option linter.unusedVariables false
def GG (g:Int):Prop:=g=95232∨g=261888
end Go.Proofs.YtpchgbolambkcaaGreatDoor
end
section
set_option linter.unusedVariables false
set_option linter.unusedSimpArgs false
namespace Go.Proofs.YtpchgbolambkcaaGreatDoor
open Go Go.Ev
set_option maxRecDepth 20000
set_option linter.unusedVariables false
def part (G:Nat→Int) (n i:Nat):List Int:=(List.range i).map G ++ List.replicate (n - i) 0
end Go.Proofs.YtpchgbolambkcaaGreatDoor
end
section
set_option linter.unusedVariables false
set_option linter.unusedSimpArgs false
namespace Go.Proofs.YtpchgbolambkcaaGreatDoor
open Go Go.Ev
set_option maxRecDepth 20000
set_option linter.unusedVariables false
structure anD (s:sD):Prop where
 k0:0<s.k
 k:s.k≤8
 l0:0<s.l
 l:s.l≤7
 eta:(s.eta:Int)=2∨(s.eta:Int)=4
 c:s.c≤64
theorem anE {set:Int} (h:isSet set=true):anD (eS set):=by
 unfold isSet at h
 simp only [Bool.or_eq_true,decide_eq_true_eq] at h
 rcases h with rfl | rfl | rfl
 ·exact ⟨by decide,by decide,by decide,by decide,.inl rfl,by decide⟩
 ·exact ⟨by decide,by decide,by decide,by decide,.inr rfl,by decide⟩
 ·exact ⟨by decide,by decide,by decide,by decide,.inl rfl,by decide⟩
end Go.Proofs.YtpchgbolambkcaaGreatDoor
end
section
set_option linter.unusedVariables false
set_option linter.unusedSimpArgs false
namespace Go.Proofs.YtpchgbolambkcaaGreatDoor
open Go Go.Ev
set_option maxRecDepth 20000
set_option linter.unusedVariables false
def wid (s:sD):Nat:=if s.eta=2 then 3 else 4
end Go.Proofs.YtpchgbolambkcaaGreatDoor
end
section
set_option linter.unusedVariables false
set_option linter.unusedSimpArgs false
namespace Go.Proofs.YtpchgbolambkcaaGreatDoor
open Go Go.Ev
set_option maxRecDepth 20000
set_option linter.unusedVariables false
def Below (b:Int) (fs:List (List Int)):Prop:=∀ f∈fs,f.length=256∧∀ x∈f,0≤x∧x<b
structure anF (s:sD):Prop where
 g2:GG (s.g2:Int)
 g1:s.g1=131072∨s.g1=524288
 omega:s.omega≤80
 beta:s.beta≤196
theorem anG {set:Int} (h:isSet set=true):anF (eS set):=by
 unfold isSet at h
 simp only [Bool.or_eq_true,decide_eq_true_eq] at h
 rcases h with rfl | rfl | rfl
 ·exact ⟨.inl rfl,.inl rfl,by decide,by decide⟩
 ·exact ⟨.inr rfl,.inr rfl,by decide,by decide⟩
 ·exact ⟨.inr rfl,.inr rfl,by decide,by decide⟩
end Go.Proofs.YtpchgbolambkcaaGreatDoor
end
section
set_option linter.unusedVariables false
set_option linter.unusedSimpArgs false
namespace Go.Proofs.YtpchgbolambkcaaGreatDoor
open Go Go.Ev
set_option maxRecDepth 20000
set_option linter.unusedVariables false
structure Tn where
 set:Int
 s:sD
 A:List (List (List Int))
 s1:List (List Int)
 s2:List (List Int)
 t0:List (List Int)
 mu:List B8
 asO:List B8
end Go.Proofs.YtpchgbolambkcaaGreatDoor
end
section
set_option linter.unusedVariables false
set_option linter.unusedSimpArgs false
namespace Go.Proofs.YtpchgbolambkcaaGreatDoor
open Go Go.Ev
set_option maxRecDepth 20000
set_option linter.unusedVariables false
theorem akz {set:Int} (xM:isSet set=true):32+320 * (eS set).k=mM set∧128+32 * (((eS set).k+(eS set).l) * wid (eS set)+13 * (eS set).k)=DK set∧(eS set).c+32 * (eS set).l * vG (eS set)+(eS set).omega+(eS set).k=DL set:=by
 unfold isSet at xM
 simp only [Bool.or_eq_true,decide_eq_true_eq] at xM
 rcases xM with rfl | rfl | rfl <;> decide
theorem ahh (set:Int) (xM:isSet set=true) (w:World):Ok Pr IS [.int .i64 set] w fun v w'=>v=.tuple ⟨[.int .i64 (mM set),.int .i64 (DK set),.int .i64 (DL set)]⟩∧Mod [] w w':=by
 refine afG ?_
 unfold OI
 rw [Y0]
 obtain ⟨e1,e2,e3⟩:=akz xM
 have hG:=anE xM
 have hX:=anG xM
 have hg1:=amD xM
 refine aC (aiH set w) ?_
 rintro _ w1 ⟨rfl,m1⟩
 rw [xM]
 generalize eS set=s at *
 have hk8:=hG.k
 have hl7:=hG.l
 have hc:=hG.c
 have hom:=hX.omega
 have hwi:(if s.eta=2 then (3:Int) else 4)=((wid s:Nat):Int):=by unfold wid; split <;> rfl
 have BG:wid s≤4:=by unfold wid; split <;> omega
 have aot:vG s≤20:=by unfold vG; split <;> omega
 refine ⟨_,rfl,alH ⟨_,rfl,rfl,((aq.start w).frame m1).nw fun p w2 H _=>H.rV 0 rfl rfl fun w3 H=>ite_false rfl (H.qQ 0 rfl (aC (ahG hg1 _) ?_))⟩⟩
 rintro _ w4 ⟨rfl,m4⟩
 have H:=(H.frame m4).drew
 rw [hwi]
 have h1:((s.k:Int)+(s.l:Int)) * ((wid s:Nat):Int)=(((s.k+s.l) * wid s:Nat):Int):=by push_cast; rfl
 have h2:(32:Int) * (s.l:Int) * ((vG s:Nat):Int)=((32 * s.l * vG s:Nat):Int):=by push_cast; rfl
 have b1:(s.k+s.l) * wid s≤15 * 4:=Nat.mul_le_mul (by omega) BG
 have b2:32 * s.l * vG s≤224 * 20:=Nat.mul_le_mul (by omega) aot
 generalize (s.k+s.l) * wid s=A at *
 generalize 32 * s.l * vG s=B at *
 refine ⟨_,rfl,_,rfl,_,rfl,rfl,H.au 0 rfl (an p 0) rfl ⟨⟨by omega,by omega⟩,⟨by omega,by omega⟩,H.au 0 rfl (an p 0) rfl (H.au 0 rfl (an p 1) rfl ⟨⟨by omega,by omega⟩,⟨by omega,by omega⟩,H.au 0 rfl (an p 0) rfl ⟨⟨by omega,by omega⟩,⟨by omega,by omega⟩,⟨by omega,by omega⟩,⟨by omega,by omega⟩,H.au 0 rfl (an p 8) rfl (H.au 0 rfl (an p 1) rfl ⟨⟨by omega,by omega⟩,⟨by omega,by omega⟩,⟨by omega,by omega⟩,H.au 0 rfl (an p 5) rfl ⟨⟨by omega,by omega⟩,H.au 0 rfl (an p 0) rfl ⟨⟨by omega,by omega⟩,?_,H.mod⟩⟩⟩)⟩⟩)⟩⟩
 rw [h1,h2,← e1,← e2,← e3]
 push_cast
 rfl
end Go.Proofs.YtpchgbolambkcaaGreatDoor
end
section
set_option linter.unusedVariables false
set_option linter.unusedSimpArgs false
namespace Go.Proofs.YtpchgbolambkcaaGreatDoor
open Go Go.Ev
set_option maxRecDepth 20000
set_option linter.unusedVariables false
theorem agG (s:cL) (t:aJ) (hs:t.small) (w:World) (hx:bN w s t):Ok Pr NY [.agg ⟨t.cs s⟩] w fun v w'=>v=.bool (aW 1 6 (t.aE.length:Int) && nQ t t.aE.length)∧Mod [] w w':=by
 refine afw ?_
 unfold N8
 rw [E9]
 have wg:=hx.ten.len
 have rJ:=hx.aE.len
 have sS:=hs.aE
 refine (aq.start w).nw fun p w1 H _=>?_
 have H:aq w [] w1 [.av p (t.cs s) aA]:=H
 refine aC (ahh 1 rfl w1) ?_
 rintro _ w3 ⟨rfl,m3⟩
 have H:=H.frame m3
 refine ⟨_,rfl,_,rfl,_,rfl,_,rfl,rfl,?_⟩
 by_cases h6:t.aE.length≤6
 case neg=>
  refine CI (fun x w'=>aq w [] w' [.av p (t.cs s) aA]) (fun _ _=>0) H ?_
  intro again i w4 H aR
  refine H.ay 0 rfl (an p 3) rfl (H.ay 0 rfl (an p 3) rfl (ite_false ?_ (H.ay 0 rfl (an p 3) rfl (H.ay 0 rfl (an p 3) rfl ⟨?_,H.mod⟩))))
  ·rw [show decide ((s.aE.n:Int)≤6)=false from decide_eq_false (by omega),Bool.and_false]
  ·have e:aW 1 6 (t.aE.length:Int)=false:=by unfold aW; rw [show decide ((t.aE.length:Int)≤6)=false from decide_eq_false (by omega),Bool.and_false]
   rw [e,show decide ((s.aE.n:Int)≤6)=false from decide_eq_false (by omega),Bool.and_false]; rfl
 have DR:decide ((s.aE.n:Int)≤6)=true:=decide_eq_true (by omega)
 refine ep 0 t.aE.length (fun i w'=>nQ t i=true∧aq w [] w' [.av p (t.cs s) aA]) rfl (by omega) ⟨rfl,H⟩ ?_ ?_
 ·rintro again i w4 _ hi ⟨fF,H⟩ aR
  obtain ⟨cU,x,j8,hc⟩:=(hx.aE.aI H.mod).at hi
  have hS:nQ t (i+1)=(nQ t i && oR t i (t.aE.getD i eJ)):=rfl
  have hN:=Kc (t:=t) (i:=i)
  have nn:∀ {w2:World},Mod [] w w2→oR t i (t.aE.getD i eJ)=false→(fun v w'=>v=Value.bool (aW 1 6 (t.aE.length:Int) && nQ t t.aE.length)∧Mod [] w w') (.bool false) w2:=fun m h=>⟨by rw [hN h _ hi,Bool.and_false],m⟩
  have bR:=j8.len
  have hP:oR t i (t.aE.getD i eJ)=(decide ((t.aE.getD i eJ).id=(i:Int)+1) && (aW 1 (t.bq.length:Int) (t.aE.getD i eJ).ten && (decide ((t.aE.getD i eJ).key.length=mM 1) && iD (t.aE.getD i eJ).high (t.aE.getD i eJ).used))):=rfl
  generalize t.aE.getD i eJ=q at *
  refine H.ay 0 rfl (an p 3) rfl (H.ay 0 rfl (an p 3) rfl (ite_true (by rw [DR,Bool.and_true]; exact decide_eq_true (by omega)) (H.ay 0 rfl (an p 3) rfl ⟨cU,Ep hc (H.nw fun p1 w5 D _=>D.p9 1 rfl rfl fun w6 D=>?_)⟩)))
  have D:aq w [] w6 [.av p (t.cs s) aA,.av p1 (q.cs x) ey]:=D
  refine D.au 1 rfl (an p1 0) rfl ⟨⟨by omega,by omega⟩,D.ay 0 rfl (an p 2) rfl (D.au 1 rfl (an p1 1) rfl ?_)⟩
  by_cases e1:q.id=(i:Int)+1
  case neg=>
   refine ite_true (by rw [decide_eq_false e1]; rfl) (D.ay 1 rfl (an p1 2) rfl (D.au 1 rfl (an p1 3) rfl (D.au 1 rfl (an p1 4) rfl (nn D.mod ?_))))
   rw [hP,decide_eq_false e1]; rfl
  refine ite_false (by rw [decide_eq_true e1]; rfl) (aC (Es s.ten t.bq q.ten w6 (hx.ten.aI D.mod)) ?_)
  rintro _ w7 ⟨rfl,BD⟩
  subst BD
  refine bh (D.ay 1 rfl (an p1 2) rfl (D.au 1 rfl (an p1 3) rfl (D.au 1 rfl (an p1 4) rfl ?_)))
  have e3:(decide ((x.n:Int)=(mM 1:Int)))=decide (q.key.length=mM 1):=by
   by_cases h:q.key.length=mM 1
   ·rw [decide_eq_true h]; exact decide_eq_true (by omega)
   ·rw [decide_eq_false h]; exact decide_eq_false (by omega)
  rw [e3]
  rw [decide_eq_true e1,Bool.true_and] at hP
  cases c1:aW 1 (t.bq.length:Int) q.ten with
  | false=>exact ite_true rfl (nn D.mod (by rw [hP,c1]; rfl))
  | true=>
   rw [c1,Bool.true_and] at hP
   cases c2:decide (q.key.length=mM 1) with
   | false=>exact ite_true rfl (nn D.mod (by rw [hP,c2]; rfl))
   | true=>
    rw [c2,Bool.true_and] at hP
    refine ite_false rfl (aC (PO _ _ _) ?_)
    rintro _ w8 ⟨rfl,BE⟩
    subst BE
    refine bh ?_
    cases c3:iD q.high q.used with
    | false=>exact ite_true rfl (nn D.mod (by rw [hP,c3]))
    | true=>exact ite_false rfl ⟨⟨by omega,by omega⟩,aR _ ⟨by rw [hS,fF,hP,c3]; rfl,D.front (L:=[_])⟩⟩
 ·rintro again w4 ⟨UI,H⟩
  refine H.ay 0 rfl (an p 3) rfl (H.ay 0 rfl (an p 3) rfl (ite_false (by rw [DR,Bool.and_true]; exact decide_eq_false (by omega)) (H.ay 0 rfl (an p 3) rfl (H.ay 0 rfl (an p 3) rfl ⟨?_,H.mod⟩))))
  rw [UI,Bool.and_true,rJ]; rfl
theorem ahP (s:cL) (t:aJ) (hs:t.small) (w:World) (hx:bN w s t):Ok Pr Ph [.agg ⟨t.cs s⟩] w fun v w'=>v=.bool (decide (t.keys.length≤6) && nR t t.keys.length)∧Mod [] w w':=by
 refine agx ?_
 unfold PG
 rw [CQ]
 have zK:=hx.key.len
 have DQ:=hs.key
 refine (aq.start w).nw fun p w1 H _=>?_
 have H:aq w [] w1 [.av p (t.cs s) aA]:=H
 by_cases h6:t.keys.length≤6
 case neg=>
  refine CI (fun x w'=>aq w [] w' [.av p (t.cs s) aA]) (fun _ _=>0) H ?_
  intro again i w4 H aR
  refine H.ay 0 rfl (an p 4) rfl (H.ay 0 rfl (an p 4) rfl (ite_false ?_ (H.ay 0 rfl (an p 4) rfl ⟨?_,H.mod⟩)))
  ·rw [show decide ((s.key.n:Int)≤6)=false from decide_eq_false (by omega),Bool.and_false]
  ·rw [decide_eq_false h6,show decide ((s.key.n:Int)≤6)=false from decide_eq_false (by omega)]; rfl
 have DR:decide ((s.key.n:Int)≤6)=true:=decide_eq_true (by omega)
 refine ep 0 t.keys.length (fun i w'=>nR t i=true∧aq w [] w' [.av p (t.cs s) aA]) rfl (by omega) ⟨rfl,H⟩ ?_ ?_
 ·rintro again i w4 _ hi ⟨fF,H⟩ aR
  obtain ⟨cU,x,j8,hc⟩:=hx.key.at hi
  have hS:nR t (i+1)=(nR t i && lW t i (t.keys.getD i kz)):=rfl
  have hN:=Sx (t:=t) (i:=i)
  have nn:∀ {w2:World},Mod [] w w2→lW t i (t.keys.getD i kz)=false→(fun v w'=>v=Value.bool (decide (t.keys.length≤6) && nR t t.keys.length)∧Mod [] w w') (.bool false) w2:=fun m h=>⟨by rw [hN h _ hi,Bool.and_false],m⟩
  have nY:=Sy hs hi
  have hP:lW t i (t.keys.getD i kz)=(decide ((t.keys.getD i kz).id=(i:Int)+1) && (aW 1 (t.bq.length:Int) (t.keys.getD i kz).ten && lX (t.keys.getD i kz))):=rfl
  generalize t.keys.getD i kz=q at *
  refine H.ay 0 rfl (an p 4) rfl (H.ay 0 rfl (an p 4) rfl (ite_true (by rw [DR,Bool.and_true]; exact decide_eq_true (by omega)) (H.ay 0 rfl (an p 4) rfl ⟨cU,wF (fun j v h=>H.mod.yQ (hc j v h)) (H.nw fun p1 w5 D _=>D.kR 1 rfl rfl fun w6 D=>?_)⟩)))
  have D:aq w [] w6 [.av p (t.cs s) aA,.av p1 (mP q.id q.ten q.set x) bW]:=D
  refine D.au 1 rfl (an p1 0) rfl ⟨⟨by omega,by omega⟩,D.iI 1 rfl ?_⟩
  by_cases e1:q.id=(i:Int)+1
  case neg=>
   refine ite_true (by rw [decide_eq_false e1]; rfl) (D.ay 0 rfl (an p 2) rfl (D.au 1 rfl (an p1 1) rfl (nn D.mod ?_)))
   rw [hP,decide_eq_false e1]; rfl
  refine ite_false (by rw [decide_eq_true e1]; rfl) (aC (aik q x (by omega) _ (j8.aI D.mod)) ?_)
  rintro _ w7 ⟨rfl,m7⟩
  have D:=D.frame m7
  refine bh (D.ay 0 rfl (an p 2) rfl (D.au 1 rfl (an p1 1) rfl ?_))
  rw [decide_eq_true e1,Bool.true_and] at hP
  cases c3:lX q with
  | false=>exact ite_true rfl (nn D.mod (by rw [hP,c3,Bool.and_false]))
  | true=>
   rw [c3,Bool.and_true] at hP
   refine ite_false rfl (aC (Es s.ten t.bq q.ten _ (hx.ten.aI D.mod)) ?_)
   rintro _ w8 ⟨rfl,BE⟩
   subst BE
   refine bh ?_
   cases c1:aW 1 (t.bq.length:Int) q.ten with
   | false=>exact ite_true rfl (nn D.mod (by rw [hP,c1]))
   | true=>exact ite_false rfl ⟨⟨by omega,by omega⟩,aR _ ⟨by rw [hS,fF,hP,c1]; rfl,D.front (L:=[_])⟩⟩
 ·rintro again w4 ⟨UJ,H⟩
  refine H.ay 0 rfl (an p 4) rfl (H.ay 0 rfl (an p 4) rfl (ite_false (by rw [DR,Bool.and_true]; exact decide_eq_false (by omega)) (H.ay 0 rfl (an p 4) rfl ⟨?_,H.mod⟩)))
  rw [UJ,Bool.and_true,DR,decide_eq_true h6]
theorem Ch (s:cL) (t:aJ) (hs:t.small) (w:World) (hx:bN w s t):Ok Pr yq [.agg ⟨t.cs s⟩] w fun v w'=>v=.bool (dh t)∧Mod [] w w':=by
 refine ag8 ?_
 unfold Qx
 have Lp:=hx.sec.len
 have wg:=hx.ten.len
 have rJ:=hx.aE.len
 have zK:=hx.key.len
 have Hl:=hx.gr.len
 have rK:=hs.ten
 have sS:=hs.aE
 have DQ:=hs.key
 have xL:=hs.gr
 refine (aq.start w).nw fun p w1 H _=>?_
 have H:aq w [] w1 [.av p (t.cs s) aA]:=H
 have no:∀ {w2:World},Mod [] w w2→dh t=false→(fun v w'=>v=Value.bool (dh t)∧Mod [] w w') (.bool false) w2:=fun m h=>⟨by rw [h],m⟩
 have eT:dh t=(aW 0 1099511627776 t.clock && (decide (t.fy.length=32) && (decide (1≤t.bq.length) && (iw t.bq && (aW 1 6 (t.aE.length:Int) && (decide (t.keys.length≤6) && sE t.cM))))) && (nQ t t.aE.length && (nR t t.keys.length && !t.cM.any (ry t)))):=rfl
 refine iB fun go bX=>?_
 have TS:∀ w2,Mod [] w1 w2→(dh t=!t.cM.any (ry t))→go w2:=by
  intro w2 m2 hp
  refine bX w2 ?_
  have H:=H.frame m2
  refine ep 0 t.cM.length (fun i w'=>(t.cM.take i).any (ry t)=false∧aq w [] w' [.av p (t.cs s) aA]) rfl (by omega) ⟨rfl,H⟩ ?_ ?_
  ·rintro again i w3 _ hi ⟨fF,H⟩ aR
   have hS:=xZ (ry t) t.cM i hi gz
   have hT:ry t (t.cM.getD i gz)=true→dh t=false:=fun h=>by rw [hp,yh (ry t) t.cM i hi gz h]; rfl
   have D:=H.drew
   have hg:=hx.gr.aI D.mod
   have hb:ry t (t.cM.getD i gz)=(decide ((t.keys.length:Int)<(t.cM.getD i gz).n1) || decide ((t.aE.length:Int)<(t.cM.getD i gz).n2)):=rfl
   have cU:s.gr.a.isSome=true∧(0:Int)≤(i:Int)∧(i:Int)<(s.gr.n:Int):=⟨hg.pre (by omega),by omega,by omega⟩
   have mG:∀ (j:Nat) (v:Value),(t.cM.getD i gz).cells[j]? = some v→w3.drew.cell? (Addr.add (Addr.add (base s.gr.a) (Int.toNat (i:Int) * 6)) j)=some v:=fun j v hv=>by
    rw [Int.toNat_natCast]; exact kO.cell hg hi hv
   generalize t.cM.getD i gz=g at *
   refine H.ay 0 rfl (an p 5) rfl (ite_true (decide_eq_true (by omega)) (D.ay 0 rfl (an p 5) rfl ⟨cU,_,mG 1 _ rfl,D.ay 0 rfl (an p 4) rfl (D.ay 0 rfl (an p 5) rfl ?_)⟩))
   show az (decide ((s.key.n:Int)<g.n1)) _ _
   rw [← zK]
   cases c1:decide ((t.keys.length:Int)<g.n1) with
   | true=>exact ite_true rfl (no D.mod (hT (by rw [hb,c1]; rfl)))
   | false=>
    refine ite_false rfl ⟨cU,_,mG 2 _ rfl,D.ay 0 rfl (an p 3) rfl ?_⟩
    show az (decide ((s.aE.n:Int)<g.n2)) _ _
    rw [← rJ]
    cases c2:decide ((t.aE.length:Int)<g.n2) with
    | true=>exact ite_true rfl (no D.mod (hT (by rw [hb,c2,Bool.or_true])))
    | false=>exact ite_false rfl ⟨⟨by omega,by omega⟩,aR _ ⟨by rw [hS,fF,hb,c1,c2]; rfl,D⟩⟩
  ·rintro again w3 ⟨fF,H⟩
   rw [List.take_of_length_le (Nat.le_refl _)] at fF
   exact H.ay 0 rfl (an p 5) rfl (ite_false (decide_eq_false (by omega)) ⟨by rw [hp,fF]; rfl,H.mod⟩)
 refine H.au 0 rfl (an p 0) rfl (H.au 0 rfl (an p 0) rfl (H.ay 0 rfl (an p 1) rfl (H.ay 0 rfl (an p 2) rfl (H.ay 0 rfl (an p 2) rfl ?_))))
 by_cases hf:(0≤t.clock∧t.clock≤1099511627776)∧t.fy.length=32∧1≤t.bq.length
 case neg=>
  refine ite_true ?_ (H.aG 0 rfl (H.aG 0 rfl (H.ay 0 rfl (an p 5) rfl (no H.mod ?_))))
  ·simp only [Bool.or_eq_true,decide_eq_true_eq,Bool.not_eq_true',decide_eq_false_iff_not]; omega
  ·refine Bool.eq_false_iff.2 fun h=>hf ?_
   rw [eT] at h
   simp only [Bool.and_eq_true,decide_eq_true_eq,aW] at h
   exact ⟨h.1.1,h.1.2.1,h.1.2.2.1⟩
 refine ite_false ?_ ?_
 ·simp only [Bool.or_eq_false_iff,decide_eq_false_iff_not,Bool.not_eq_false',decide_eq_true_eq]; omega
 have e0:aW 0 1099511627776 t.clock=true:=by unfold aW; rw [decide_eq_true hf.1.1,decide_eq_true hf.1.2]; rfl
 rw [e0,decide_eq_true hf.2.1,decide_eq_true hf.2.2,Bool.true_and,Bool.true_and,Bool.true_and] at eT
 refine aC (I6 s.ten t.bq (by omega) _ (hx.ten.aI H.mod)) ?_
 rintro _ w3 ⟨rfl,m3⟩
 have H3:=H.frame m3
 refine bh (H3.aG 0 rfl ?_)
 cases c4:iw t.bq with
 | false=>exact ite_true rfl (H3.aG 0 rfl (H3.ay 0 rfl (an p 5) rfl (no H3.mod (by rw [eT,c4]; rfl))))
 | true=>
 rw [c4,Bool.true_and] at eT
 refine ite_false rfl (aC (agG s t hs _ (hx.aI H3.mod)) ?_)
 rintro _ w4 ⟨rfl,m4⟩
 have H4:=H3.frame m4
 refine bh (H4.aG 0 rfl ?_)
 cases c5:(aW 1 6 (t.aE.length:Int) && nQ t t.aE.length) with
 | false=>
  refine ite_true rfl (H4.ay 0 rfl (an p 5) rfl (no H4.mod ?_))
  rw [eT]
  rcases Bool.and_eq_false_iff.1 c5 with h | h <;> rw [h] <;> simp
 | true=>
 rw [Bool.and_eq_true] at c5
 rw [c5.1,c5.2,Bool.true_and,Bool.true_and] at eT
 refine ite_false rfl (aC (ahP s t hs _ (hx.aI H4.mod)) ?_)
 rintro _ w5 ⟨rfl,m5⟩
 have H5:=H4.frame m5
 refine bh (H5.ay 0 rfl (an p 5) rfl ?_)
 cases c6:(decide (t.keys.length≤6) && nR t t.keys.length) with
 | false=>
  refine ite_true rfl (no H5.mod ?_)
  rw [eT]
  rcases Bool.and_eq_false_iff.1 c6 with h | h <;> rw [h] <;> simp
 | true=>
 rw [Bool.and_eq_true] at c6
 rw [c6.1,c6.2,Bool.true_and,Bool.true_and] at eT
 refine ite_false rfl (aC (aii s.gr t.cM hs.gf (by omega) _ (hx.gr.aI H5.mod)) ?_)
 rintro _ w6 ⟨rfl,m6⟩
 refine bh ?_
 cases c7:sE t.cM with
 | false=>exact ite_true rfl (no (H5.mod.trans m6) (by rw [eT,c7]; rfl))
 | true=>exact ite_false rfl (TS _ (((m3.trans m4).trans m5).trans m6) (by rw [eT,c7]; rfl))
end Go.Proofs.YtpchgbolambkcaaGreatDoor
end
section
set_option linter.unusedVariables false
set_option linter.unusedSimpArgs false
namespace Go.Ev
open Go Go.RowKit
set_option linter.unusedVariables false
theorem aq.eu {w0 w:World} {S:List Nat} {L L':List aB} (H:aq w0 S w L) (idx:List Nat) (hn:idx.Nodup) (h:idx.map (fun i=>L[i]?)=L'.map some):aq w0 S w L':=by
 have hl:idx.length=L'.length:=by have:=congrArg List.length h; simpa using this
 have key:∀ (k:Nat) (r:aB),L'[k]? = some r→∃ i,idx[k]? = some i∧L[i]? = some r:=fun k r hk=>by
  have gO:k<idx.length:=by rw [hl]; exact (List.getElem?_eq_some_iff.1 hk).1
  refine ⟨idx[k],List.getElem?_eq_getElem gO,?_⟩
  have:=congrArg (·[k]?) h
  simp only [List.getElem?_map,List.getElem?_eq_getElem gO,hk,Option.map_some] at this
  exact Option.some.inj this
 refine ⟨H.mod,fun k r hk=>?_,fun k r hk=>?_,fun j k r s j6 hj hk=>?_⟩
 ·obtain ⟨i,_,hi⟩:=key k r hk
  exact H.ok i r hi
 ·obtain ⟨i,_,hi⟩:=key k r hk
  exact H.own i r hi
 ·obtain ⟨i,hi1,hi⟩:=key j r hj
  obtain ⟨i',aou,Bw⟩:=key k s hk
  refine H.apart i i' r s (fun e=>j6 ?_) hi Bw
  subst e
  exact (List.getElem?_inj (List.getElem?_eq_some_iff.1 hi1).1 hn).1 (hi1.trans aou.symm)
theorem aq.amO {w0 w:World} {S:List Nat} {L:List aB} {te:TypeId} {sz:Nat} {y:ah} {vs:List Value} {fq:List Nat} {Q:World→Prop} (H:aq w0 S w (L ++ [.row te sz y vs,.box fq Q])):∃ fp,aq w0 S w (L ++ [.box fp fun w=>Own w 0 te sz y vs∧Q w]):=by
 have H2:=H.merge L.length (L.length+1) (t:=.box (y.row ++ fq) fun w=>Own w 0 te sz y vs∧Q w) A7 TH (by omega) (fun h1 h2=>?_) (fun b hb=>List.mem_append.1 hb)
 ·refine ⟨y.row ++ fq,?_⟩
  have e:((L ++ [aB.row te sz y vs,aB.box fq Q]).set (L.length+1) aB.no).set L.length (.box (y.row ++ fq) fun w=>Own w 0 te sz y vs∧Q w)=(L ++ [.box (y.row ++ fq) fun w=>Own w 0 te sz y vs∧Q w]) ++ [aB.no]:=by
   rw [List.set_append_right _ _ (by omega),Nat.add_sub_cancel_left,List.set_append_right _ _ (Nat.le_refl _),Nat.sub_self,List.append_assoc]; rfl
  rw [e] at H2
  exact H2.front
 ·refine ⟨fun b hb=>?_,fun w2 h3=>⟨?_,h2.2 w2 fun b hb=>h3 b (List.mem_append_right _ hb)⟩⟩
  ·rcases List.mem_append.1 hb with h | h
   ·exact (Own.tP h1 b h).2
   ·exact h2.1 b h
  ·exact (aB.row te sz y vs).iu w w2 (fun b hb=>h3 b (List.mem_append_left _ hb)) h1
section
variable {A:Type} {C:A→ah→List Value} {sz:Nat} {E:World→ah→A→Prop} {te:TypeId} {w0 w w':World} {S:List Nat} {L M:List aB} {s:ah} {ls:List A} {xs ys:List ah} {i:Nat}
theorem Cm {A:Type} {l:List A} {i:Nat} {a:A} (h:l[i]? = some a):l.set i a=l:=by
 refine List.ext_getElem? fun k=>?_
 rw [List.getElem?_set]
 by_cases e:i=k
 ·subst e; rw [if_pos rfl,if_pos (List.getElem?_eq_some_iff.1 h).1,h]
 ·rw [if_neg e]
theorem aq.anH (H:aq w0 S w (L ++ .row te sz s (bP C ls (ys ++ xs.drop i)) :: M)) (hC:∀ a x,(C a x).length=sz) (hy:ys.length=i) (hx:xs.length=ls.length) {a:A} {x z:ah} (ha:ls[i]? = some a) (fK:xs[i]? = some x) {j:Nat} (hj:j<sz) (hz:C a z=(C a x).set j z.v) {K:World→Prop}
  (hk:∀ w2,aq w0 S w2 (L ++ .row te sz s (bP C ls (ys ++ z :: xs.drop (i+1))) :: M)→K w2):Ev.st (Addr.add (Addr.add (base s.a) (Int.toNat (i:Int) * sz)) j) (.slice z.a z.n z.c) w K:=by
 have hi:=(List.getElem?_eq_some_iff.1 ha).1
 have G5:(ys ++ xs.drop i).length=ls.length:=by rw [List.length_append,List.length_drop]; omega
 have TI:(ys ++ xs.drop i)[i]? = some x:=by rw [List.getElem?_append_right (by omega),hy,Nat.sub_self,List.getElem?_drop,Nat.add_zero]; exact fK
 have A6:(ys ++ xs.drop i).set i z=ys ++ z :: xs.drop (i+1):=by
  rw [List.set_append_right _ _ (by omega),hy,Nat.sub_self,List.drop_eq_getElem_cons (by omega),List.set_cons_zero]
 refine H.jD L.length (i:=i * sz+j) (v:=z.v) A7 (by rw [add_add,Int.toNat_natCast]) ?_ rfl fun w2 H4=>hk w2 ?_
 ·rw [kI hC _ _ G5]
  have:=Nat.mul_le_mul_right sz (show i+1≤ls.length from hi)
  rw [Nat.succ_mul] at this
  omega
 ·rw [List.set_append_right _ _ (Nat.le_refl _),Nat.sub_self,List.set_cons_zero,J9 hC ls (ys ++ xs.drop i) i j a a x z z.v ha TI hj hz,A6,Cm ha] at H4
  exact H4
theorem iL.close (hy:ys.length=i) {a:A} {z:ah} (ha:ls[i]? = some a) {fp l6:List Nat} (H:aq w0 S w (L ++ [.row te sz s (bP C ls (ys ++ z :: xs.drop (i+1))),.box fp fun w=>br E w ys (ls.take i),.box l6 fun w=>E w z a])):iL C sz E te w0 S L w s ls xs (i+1):=by
 have UB:ls.take (i+1)=ls.take i ++ [a]:=by rw [List.take_add_one,ha]; rfl
 have H2:=H.merge (L.length+1) (L.length+2) (t:=.box (fp ++ l6) fun w=>br E w (ys ++ [z]) (ls.take (i+1))) TH abW (by omega) (fun h1 h2=>?_) (fun b hb=>List.mem_append.1 hb)
 ·have e:(((L ++ [aB.row te sz s (bP C ls (ys ++ z :: xs.drop (i+1))),aB.box fp fun w=>br E w ys (ls.take i),aB.box l6 fun w=>E w z a]).set (L.length+2) aB.no).set (L.length+1) (aB.box (fp ++ l6) fun w=>br E w (ys ++ [z]) (ls.take (i+1)))) =
    (L ++ [aB.row te sz s (bP C ls (ys ++ z :: xs.drop (i+1))),aB.box (fp ++ l6) fun w=>br E w (ys ++ [z]) (ls.take (i+1))]) ++ [aB.no]:=by
   rw [List.set_append_right _ _ (by omega),Nat.add_sub_cancel_left,List.set_append_right _ _ (by omega),Nat.add_sub_cancel_left,List.append_assoc]
   rfl
  rw [e] at H2
  refine ⟨ys ++ [z],fp ++ l6,by simp [hy],?_⟩
  have H3:=H2.front
  rw [show ys ++ z :: xs.drop (i+1)=(ys ++ [z]) ++ xs.drop (i+1) by simp] at H3
  exact H3
 ·refine ⟨fun b hb=>?_,fun w2 h3=>?_⟩
  ·rcases List.mem_append.1 hb with h | h
   ·exact h1.1 b h
   ·exact h2.1 b h
  ·rw [UB]
   exact br.snoc (h1.2 w2 fun b hb=>h3 b (List.mem_append_left _ hb)) (h2.2 w2 fun b hb=>h3 b (List.mem_append_right _ hb))
end
end Go.Ev
end
