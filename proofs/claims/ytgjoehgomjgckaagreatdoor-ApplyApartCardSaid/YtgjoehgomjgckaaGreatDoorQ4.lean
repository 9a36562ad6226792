/- Texts of this claim, packed and shortened. -/
import Derived.KernelRfl
import Derived.Test.YtgjoehgomjgckaaGreatDoorQ3
import Derived.Test.YtgjoehgomjgckaaGreatDoorQ2
import Derived.Test.YtgjoehgomjgckaaGreatDoorAErrNot
import Derived.Test.YtgjoehgomjgckaaGreatDoorQ1
section
set_option linter.unusedVariables false
set_option linter.unusedSimpArgs false
namespace Go.Ev
open Go Go.RowKit
set_option linter.unusedVariables false
theorem ak.drop {w0 w:World} {S:List Nat} {L:List aE} (H:ak w0 S w L) (n:Nat):ak w0 S w (L.drop n):=by
 have e:∀ {k:Nat} {s:aE},(L.drop n)[k]? = some s→L[n+k]? = some s:=fun {k s} h=>by rwa [List.getElem?_drop] at h
 exact ⟨H.mod,fun k s hs=>H.ok _ s (e hs),fun k s hs=>H.own _ s (e hs),fun j k s t lp hs ht=>H.apart (n+j) (n+k) s t (by omega) (e hs) (e ht)⟩
end Go.Ev
namespace Go.Proofs.YtgjoehgomjgckaaGreatDoor
open Go Go.Ev
set_option maxRecDepth 20000
set_option linter.unusedVariables false
theorem A6 (c:Int) (hc:c≠0) (w:World):Ok Pr oW [.int .i64 c] w fun v w'=>cO w w' v c∧Mod [] w w':=by
 refine afn ?_
 unfold Pa
 exact qv fun b w' hb h1 h2 _=>⟨cO.mk h1 (by omega) hc,h2⟩
structure iF where
 k:Nat
 e1:Nat
 e2:Nat
 du:Nat
 dv:Nat
def iF.cells (s:iF):List Value:=DQ s.k s.e1 s.e2 s.du s.dv
def dz (set:Int):iF:=if set=1 then ⟨2,3,2,10,4⟩ else if set=2 then ⟨3,2,2,10,4⟩ else if set=3 then ⟨4,2,2,11,5⟩ else ⟨0,0,0,0,0⟩
structure zE (s:iF):Prop where
 k:2≤s.k∧s.k≤4
 e1:s.e1=2∨s.e1=3
 e2:s.e2=2
 du:s.du=10∨s.du=11
 dv:s.dv=4∨s.dv=5
theorem mZ {set:Int} (h:isSet set=true):zE (dz set):=by
 unfold isSet at h
 simp only [Bool.or_eq_true,decide_eq_true_eq] at h
 rcases h with rfl | rfl | rfl
 ·exact ⟨⟨by decide,by decide⟩,.inr rfl,rfl,.inl rfl,.inl rfl⟩
 ·exact ⟨⟨by decide,by decide⟩,.inl rfl,rfl,.inl rfl,.inl rfl⟩
 ·exact ⟨⟨by decide,by decide⟩,.inl rfl,rfl,.inr rfl,.inr rfl⟩
theorem noK {set:Int} (h:isSet set=false):dz set=⟨0,0,0,0,0⟩:=by
 unfold isSet at h
 simp only [Bool.or_eq_false_iff,decide_eq_false_iff_not] at h
 unfold dz
 rw [if_neg h.1,if_neg h.2.1,if_neg h.2.2]
theorem wY:zc Pr iq=[.int .i64 0,.int .i64 0,.int .i64 0,.int .i64 0,.int .i64 0]:=by kernel_rfl
theorem yV (set:Int) (w:World):Ok Pr uN [.int .i64 set] w fun v w'=>v=.tuple ⟨[.agg ⟨(dz set).cells⟩,.bool (isSet set)]⟩∧Mod [] w w':=by
 refine ahC ?_
 unfold Q8
 rw [wY]
 refine (ak.start w).nw fun p w1 H _=>?_
 unfold isSet dz
 refine bU (fun h=>?_) (fun h=>?_)
 ·have h:=of_decide_eq_true h
  subst h
  exact H.jh 0 rfl rfl fun w2 H=>H.mP 0 rfl ⟨rfl,H.mod⟩
 ·have h1:=of_decide_eq_false h
  rw [if_neg h1,decide_eq_false h1]
  refine bU (fun h=>?_) (fun h=>?_)
  ·have h:=of_decide_eq_true h
   subst h
   exact H.jh 0 rfl rfl fun w2 H=>H.mP 0 rfl ⟨rfl,H.mod⟩
  ·have h2:=of_decide_eq_false h
   rw [if_neg h2,decide_eq_false h2]
   refine bU (fun h=>?_) (fun h=>?_)
   ·have h:=of_decide_eq_true h
    subst h
    exact H.jh 0 rfl rfl fun w2 H=>H.mP 0 rfl ⟨rfl,H.mod⟩
   ·have h3:=of_decide_eq_false h
    rw [if_neg h3,decide_eq_false h3]
    exact H.jh 0 rfl rfl fun w2 H=>H.mP 0 rfl ⟨rfl,H.mod⟩
theorem zo {s:iF} {K:Int→Int→Int→Int→Int→Prop} (h:K s.k s.e1 s.e2 s.du s.dv):uJ (.agg ⟨s.cells⟩) K:=af3 (c0:=s.k) (c1:=s.e1) (c2:=s.e2) (c3:=s.du) (c4:=s.dv) h
def iG (set:Int):Nat:=if isSet set=true then 384 * (dz set).k+32 else 0
def js (set:Int):Nat:=384 * (dz set).k
def nR (set:Int):Nat:=32 * ((dz set).du * (dz set).k+(dz set).dv)
theorem HB (set:Int) (w:World):Ok Pr Bh [.int .i64 set] w fun v w'=>v=.tuple ⟨[.int .i64 (iG set:Int),.int .i64 (js set:Int),.int .i64 (nR set:Int)]⟩∧Mod [] w w':=by
 refine afm ?_
 unfold O9
 rw [wY]
 refine aB (yV set w) ?_
 rintro _ w1 ⟨rfl,m1⟩
 have H:=(ak.start w).frame m1
 refine ⟨_,rfl,zo ⟨_,rfl,rfl,H.nw fun p w2 H _=>H.jh 0 rfl rfl fun w3 H=>?_⟩⟩
 unfold iG js nR
 cases cD:isSet set with
 | false=>rw [noK cD]; exact ite_true rfl ⟨rfl,H.mod⟩
 | true=>
  have hg:=mZ cD
  generalize dz set=s at *
  have H:ak w [] w3 [.av p s.cells iq]:=H
  have H:=H.drew
  have hk:=hg.k
  have hd:s.du * s.k≤11 * 4:=Nat.mul_le_mul (by have:=hg.du; omega) hk.2
  have hv:=hg.dv
  have e:(s.du:Int) * (s.k:Int)=((s.du * s.k:Nat):Int):=by rw [Int.natCast_mul]
  refine ite_false rfl (H.an 0 rfl (au p 0) rfl ⟨⟨by omega,by omega⟩,⟨by omega,by omega⟩,H.an 0 rfl (au p 0) rfl ⟨⟨by omega,by omega⟩,H.an 0 rfl (au p 3) rfl (H.an 0 rfl (au p 0) rfl ?_)⟩⟩)
  rw [e]
  generalize s.du * s.k=D at *
  refine ⟨⟨by omega,by omega⟩,H.an 0 rfl (au p 4) rfl ⟨⟨by omega,by omega⟩,⟨by omega,by omega⟩,?_,H.mod⟩⟩
  rw [if_pos rfl,show (384 * (s.k:Int)+32)=((384 * s.k+32:Nat):Int) by omega,show 384 * (s.k:Int)=((384 * s.k:Nat):Int) by omega,show 32 * ((D:Int)+(s.dv:Int))=((32 * (D+s.dv):Nat):Int) by omega]
def lU (xs:List ah) (ls:List (List Int)):List aE:=List.zipWith (fun x l=>aE.row bD 1 x (cu l)) xs ls
theorem QH {xs:List ah} {ls:List (List Int)} {i:Nat} {x:ah} {l:List Int} (h1:xs[i]? = some x) (h2:ls[i]? = some l):(lU xs ls)[i]? = some (.row bD 1 x (cu l)):=by
 unfold lU; rw [List.getElem?_zipWith,h1,h2]
theorem ai4 {xs:List ah} {ls:List (List Int)} {i:Nat} {x:ah} {l:List Int} (h1:xs[i]? = some x):(lU xs ls).set i (.row bD 1 x (cu l))=lU xs (ls.set i l):=by
 unfold lU
 refine List.ext_getElem? fun j=>?_
 rw [List.getElem?_set,List.getElem?_zipWith,List.getElem?_zipWith,List.getElem?_set]
 by_cases h:i=j
 ·subst h
  rw [if_pos rfl,if_pos rfl,h1,List.length_zipWith]
  have hx:=(List.getElem?_eq_some_iff.1 h1).1
  by_cases hl:i<ls.length
  ·rw [if_pos (by omega),if_pos hl]
  ·rw [if_neg (by omega),if_neg hl]
 ·rw [if_neg h,if_neg h]
theorem aie {xs:List ah} {ls:List (List Int)} (h:xs.length=ls.length) (x:ah) (l:List Int):lU (xs ++ [x]) (ls ++ [l])=lU xs ls ++ [.row bD 1 x (cu l)]:=by
 unfold lU; rw [List.zipWith_append h]; rfl
def Jt (w w':World) (out:ah) (ls:List (List Int)):Prop:=∃ xs:List ah,xs.length=ls.length∧ak w [] w' (.row fk 1 out (xs.map ah.v) :: lU xs ls)
theorem Jt.box {w w':World} {out:ah} {ls:List (List Int)} (h:Jt w w' out ls):fJ w w' fun w=>fK w out ls:=by
 obtain ⟨xs,hl,H⟩:=h
 refine H.boxed fun w' h=>⟨xs,Own.sl (h 0 _ rfl),hl,fun i x l hx hl=>Own.dD (h (i+1) _ (QH hx hl))⟩
def iS (d:Nat) (b:List B8) (i:Nat):List Int:=unpack d ((b.drop (32 * d * i)).take (32 * d))
def gC (d many:Nat) (b:List B8):List (List Int):=(List.range many).map (iS d b)
def nS (d many:Nat) (b:List B8):Bool:=!decide (d=12) || (gC d many b).all rM
theorem YB {many:Nat} {b:List B8}:nS 12 many b=true↔∀ i,i<many→rM (iS 12 b i)=true:=by
 unfold nS gC
 simp
theorem QI {d many:Nat} {b:List B8} (hd:1≤d) (hb:32 * d * many≤b.length) {i:Nat} (hi:i<many):(iS d b i).length=256:=by
 have h1:32 * d * (i+1)≤32 * d * many:=Nat.mul_le_mul_left _ hi
 rw [Nat.mul_succ] at h1
 unfold iS
 rw [MY,List.length_take,List.length_drop,Nat.min_eq_left (by omega),show 8 * (32 * d)=256 * d by omega,Nat.mul_div_cancel _ hd]
theorem aif:jB Pr C3=true:=by kernel_rfl
theorem BB:fh Pr fA fk 1 24:=.of (by kernel_rfl)
theorem alY:zc Pr fA=[.slice none 0 0]:=by kernel_rfl
theorem alZ:zc Pr lJ=[.bool false]:=by kernel_rfl
theorem HL (d many:Nat) (hd:1≤d) (sv:d≤12) (hm:many≤8) (x:ah) (b:List B8) (hb:32 * d * many≤b.length) (jO:b.length≤1000000) (w:World) (hx:Bytes w x b) :
  Ok Pr Bo [.int .i64 (d:Int),.int .i64 (many:Int),.slice x.a x.n x.c] w fun v w'=>(nS d many b=true∧∃ out:ah,v=.tuple ⟨[.slice out.a out.n out.c,.bool true]⟩∧Jt w w' out (gC d many b))∨
   (nS d many b=false∧v=.tuple ⟨[.slice none 0 0,.bool false]⟩∧Mod [] w w'):=by
 refine agj ?_
 unfold P0
 rw [alY,alZ]
 have bV:=hx.len
 have tY:=hx.cap
 have h1:32 * d * many≤32 * 12 * 8:=Nat.mul_le_mul (by omega) hm
 have e1:32 * (d:Int) * (many:Int)=((32 * d * many:Nat):Int):=by simp only [Int.natCast_mul]; rfl
 refine (ak.start w).nw fun p w1 H _=>H.nw fun p1 w2 H _=>H.nw fun p2 w3 H _=>H.nw fun p3 w4 H _=>?_
 have H:=H.drew
 refine H.an 0 rfl rfl rfl ⟨⟨by omega,by omega⟩,?_⟩
 rw [e1]
 refine ⟨⟨by omega,by omega⟩,IV (32 * d * many) rfl (by omega) fun xt hxt kt=>H.an 0 rfl rfl rfl ⟨⟨by omega,by omega⟩,?_⟩⟩
 have kt:=kt _ b hx hb
 rw [show 32 * (d:Int)=((32 * d:Nat):Int) by omega]
 refine aB (aeF xt (32 * d) (by omega) _) ?_
 rintro _ w5 ⟨q,c,rfl,Hc⟩
 have H:=H.join Hc
 have H:ak w [] w5 [.av p [.int .i64 d] bD,.av p1 [.slice none 0 0] fA,.av p2 [.bool false] lJ,.av p3 [.slice none 0 0] fA,.av q [.slice xt.a xt.n xt.c] bJ,.av c [.int .i64 ((32 * d:Nat):Int)] bD]:=H
 have vM:many * (32 * d)=32 * d * many:=Nat.mul_comm _ _
 have Ao:=fun (i:Fin many)=>QI (b:=b) hd hb i.isLt
 refine aj1 (A:=Fin many) rfl aif [q,c] ?_ (fun w1 m=>ai3 (x:=xt) (k:=32 * d) (N:=many) (by omega) (by omega) kt.cap (by omega) ((H.av 4 rfl).aG m) ((H.av 5 rfl).aG m)) H
  (fun pre M N'=>∃ out xs,M=[.av p [.int .i64 d] bD,.av p1 [.slice none 0 0] fA,.av p2 [.bool false] lJ,.av p3 [.slice out.a out.n out.c] fA,.av q [.slice xt.a xt.n xt.c] bJ,.av c [.int .i64 ((32 * d:Nat):Int)] bD]∧
   N'=.row fk 1 out (xs.map ah.v) :: lU xs (pre.map fun i=>iS d b i.val)∧xs.length=pre.length∧(d=12→∀ i∈pre,rM (iS d b i.val)=true))
  (fun pre M N'=>(∃ out:ah,M=[.av p [.int .i64 d] bD,.av p1 [.slice none 0 0] fA,.av p2 [.bool false] lJ,.av p3 [.slice out.a out.n out.c] fA,.av q [.slice xt.a xt.n xt.c] bJ,.av c [.int .i64 ((32 * d:Nat):Int)] bD])∧nS d many b=false) ?_ ?_ ?_ ?_
 ·intro e he
  rcases List.mem_cons.1 he with rfl | he
  ·exact (H.av 4 rfl).lt
  ·rw [List.mem_singleton.1 he]; exact (H.av 5 rfl).lt
 ·intro W o HW
  have HW:=HW.jk fk 1
  rw [alX] at HW
  exact ⟨_,_,⟨⟨none,0,0⟩,[],rfl,rfl,rfl,fun _ i hi=>by cases hi⟩,HW⟩
 ·rintro pre i W o M N' K Kr ⟨out,xs,rfl,rfl,jr,lV⟩ hlen HW hK hKr
  have J7:i.val * (32 * d)+32 * d≤xt.n:=by
   have h2:(i.val+1) * (32 * d)≤many * (32 * d):=Nat.mul_le_mul_right _ i.isLt
   rw [Nat.succ_mul] at h2
   omega
  have kp:=ahB (kt.aG HW.mod) (k:=32 * d) (i:=i.val) (by omega) J7
  have ep:(((b.take (32 * d * many)).drop (i.val * (32 * d))).take (32 * d))=(b.drop (32 * d * i.val)).take (32 * d):=by
   rw [List.drop_take,List.take_take,Nat.min_eq_left (by omega),Nat.mul_comm i.val]
  rw [ep] at kp
  have hU:=Ao i
  have hT:(pre ++ [i]).map (fun j:Fin many=>iS d b j.val)=pre.map (fun j:Fin many=>iS d b j.val) ++ [iS d b i.val]:=by rw [List.map_append]; rfl
  have hlp:((b.drop (32 * d * i.val)).take (32 * d)).length≤1000000:=by rw [List.length_take]; omega
  refine HW.an 0 rfl rfl rfl (aB (G9 d hd (by omega) (Ej xt (32 * d) i.val) _ hlp W kp) ?_)
  rintro _ j8 ⟨y,rfl,hy,TH⟩
  have hy:Own j8 W.heap.size bD 1 y (cu (iS d b i.val)):=hy
  have HW0:=HW
  have HW:=HW.cB TH hy
  have nJ:=(HW.fI 8 rfl).len
  rw [List.length_map,Nat.mul_one] at nJ
  have ak5:∀ W2,nS d many b=false→ak w [] W2 (RL w5.heap.size o [.av p [.int .i64 d] bD,.av p1 [.slice none 0 0] fA,.av p2 [.bool false] lJ,.av p3 [.slice out.a out.n out.c] fA,.av q [.slice xt.a xt.n xt.c] bJ,.av c [.int .i64 ((32 * d:Nat):Int)] bD] (.row fk 1 out (xs.map ah.v) :: lU xs (pre.map fun i=>iS d b i.val)) ++ [.row bD 1 y (cu (iS d b i.val))])→
    st ⟨p1,0,none⟩ (.slice none 0 0) W2 fun fF=>st ⟨p2,0,none⟩ (.bool false) fF fun fX=>Kr fX:=by
   intro W2 dx HW
   refine HW.st 1 (i:=0) rfl rfl (Nat.lt_succ_self 0) rfl fun fF HW=>HW.st 2 (i:=0) rfl rfl (Nat.lt_succ_self 0) rfl fun fX HW=>?_
   exact hKr fX _ _ ⟨⟨out,rfl⟩,dx⟩ (HW.front)
  have aaz:∀ W2,(d=12→rM (iS d b i.val)=true)→ak w [] W2 (RL w5.heap.size o [.av p [.int .i64 d] bD,.av p1 [.slice none 0 0] fA,.av p2 [.bool false] lJ,.av p3 [.slice out.a out.n out.c] fA,.av q [.slice xt.a xt.n xt.c] bJ,.av c [.int .i64 ((32 * d:Nat):Int)] bD] (.row fk 1 out (xs.map ah.v) :: lU xs (pre.map fun i=>iS d b i.val)) ++ [.row bD 1 y (cu (iS d b i.val))])→
    ax ⟨p3,0,none⟩ W2 fun t31=>nw fk [.slice y.a y.n y.c] W2 fun TI w9=>cG Pr [fA,fA] fA [.slice t31.a t31.n t31.c,.slice (some TI) 1 1] w9 fun t34 cL=>st ⟨p3,0,none⟩ (.slice t34.a t34.n t34.c) cL fun cX=>K cX:=by
   intro W2 aok HW
   refine HW.ax 3 rfl rfl rfl (HW.Cm 8 BB rfl rfl (by intro u hu; rw [List.mem_singleton.1 hu]; rfl) (by omega) (by omega) fun k8 cL HW _=>HW.st 3 (i:=0) rfl rfl (Nat.lt_succ_self 0) rfl fun cX HW=>?_)
   refine hK cX _ (.row fk 1 k8 ((xs ++ [y]).map ah.v) :: lU (xs ++ [y]) ((pre ++ [i]).map fun i=>iS d b i.val)) ?_ ⟨k8,xs ++ [y],rfl,rfl,by simp [jr],fun iC j hj=>?_⟩ ?_
   ·intro e he
    rcases List.mem_cons.1 he with rfl | he
    ·exact (HW.av 4 rfl).trans (HW0.av 4 rfl).symm
    ·rw [List.mem_singleton.1 he]; exact (HW.av 5 rfl).trans (HW0.av 5 rfl).symm
   ·rcases List.mem_append.1 hj with h | h
    ·exact lV iC j h
    ·rw [List.mem_singleton.1 h]; exact aok iC
   ·rw [hT,aie (by simp [jr]),List.map_append]
    exact HW
  refine bW (jV fun go bY=>jA fun jG iB=>HW.an 0 rfl rfl rfl (bU (fun hc=>?_) (fun hc=>?_)))
  ·have hc:=of_decide_eq_true hc
   refine aB (yL y _ (by omega) _ hy.dD) ?_
   rintro _ qS ⟨rfl,m19⟩
   have HW:=HW.frame m19
   refine bu (iB _ _ ?_)
   cases xJ:rM (iS d b i.val) with
   | false=>
    refine ite_true rfl (ak5 qS (Bool.eq_false_iff.2 fun h=>?_) HW)
    have iC:d=12:=by omega
    subst iC
    rw [YB.1 h i.val i.isLt] at xJ
    cases xJ
   | true=>exact ite_false rfl (bY _ (aaz qS (fun _=>xJ) HW))
  ·have hc:=of_decide_eq_false hc
   exact iB _ _ (ite_false rfl (bY _ (aaz j8 (fun h=>absurd h (by omega)) HW)))
 ·rintro all W o M N' hS ⟨out,xs,rfl,rfl,jr,lV⟩ HW
  have eT:all.map (fun i:Fin many=>iS d b i.val)=gC d many b:=by
   have:all.map (fun i:Fin many=>iS d b i.val)=(all.map (·.val)).map (iS d b):=by rw [List.map_map]; rfl
   rw [this,hS]; rfl
  have dV:nS d many b=true:=by
   by_cases iC:d=12
   ·subst iC
    refine YB.2 fun i hi=>?_
    have hm:i∈all.map (·.val):=by rw [hS]; exact List.mem_range.2 hi
    obtain ⟨j,hj,rfl⟩:=List.mem_map.1 hm
    exact lV rfl j hj
   ·unfold nS; rw [decide_eq_false iC]; rfl
  have hlen:xs.length=(gC d many b).length:=by rw [← eT,List.length_map]; exact jr
  rw [eT] at HW
  refine HW.ax 3 rfl rfl rfl (HW.st 1 (i:=0) rfl rfl (Nat.lt_succ_self 0) rfl fun j8 HW=>HW.st 2 (i:=0) rfl rfl (Nat.lt_succ_self 0) rfl fun qS HW=>HW.zQ 6 rfl fun AB _ HW=>HW.ax 1 rfl rfl rfl (HW.lZ 2 rfl rfl rfl (.inl ⟨dV,out,rfl,xs,hlen,HW.drop 8⟩)))
 ·rintro pre W o M N' hS ⟨⟨out,rfl⟩,dx⟩ HW
  exact HW.zQ 6 rfl fun AB _ HW=>HW.ax 1 (n:=⟨none,0,0⟩) rfl rfl rfl (HW.lZ 2 rfl rfl rfl (.inr ⟨dx,rfl,HW.mod⟩))
end Go.Proofs.YtgjoehgomjgckaaGreatDoor
end
section
set_option linter.unusedVariables false
set_option linter.unusedSimpArgs false
namespace Go.Proofs.YtgjoehgomjgckaaGreatDoor
open Go Go.Ev
set_option maxRecDepth 20000
set_option linter.unusedVariables false
def jN (d:Nat):List Int→Nat
 | []=>0
 | x :: r=>x.toNat+2 ^ d * jN d r
def m9 (k N:Nat):List B8:=(List.range k).map fun j=>BitVec.ofNat 8 (N / 2 ^ (8 * j))
@[irreducible] def uZ (d:Nat) (xs:List Int):List B8:=m9 ((d * xs.length+7) / 8) (jN d xs)
theorem N3 (k N:Nat):(m9 k N).length=k:=by simp [m9]
theorem N4 (d:Nat) (xs:List Int):(uZ d xs).length=(d * xs.length+7) / 8:=by unfold uZ; exact N3 _ _
theorem ahD (d:Nat) (l m:List Int):jN d (l ++ m)=jN d l+2 ^ (d * l.length) * jN d m:=by
 induction l with
 | nil=>simp [jN]
 | cons x r ih=>
  simp only [List.cons_append,jN,ih,List.length_cons,Nat.mul_add,Nat.mul_one,Nat.pow_add,Nat.add_assoc,← Nat.mul_assoc]
  rw [Nat.mul_comm (2 ^ d) (2 ^ (d * r.length))]
theorem IW (d:Nat) (l:List Int) (h:∀ x∈l,x.toNat<2 ^ d):jN d l<2 ^ (d * l.length):=by
 induction l with
 | nil=>simp [jN]
 | cons x r ih=>
  have h1:=ih fun y hy=>h y (by simp [hy])
  have h2:=h x (by simp)
  simp only [jN,List.length_cons,Nat.mul_add,Nat.mul_one,Nat.pow_add]
  rw [Nat.mul_comm (2 ^ (d * r.length))]
  have h3:2 ^ d * (jN d r+1)≤2 ^ d * 2 ^ (d * r.length):=Nat.mul_le_mul_left _ h1
  rw [Nat.mul_add,Nat.mul_one] at h3
  omega
theorem Wk (k N:Nat):m9 (k+1) N=m9 k N ++ [BitVec.ofNat 8 (N / 2 ^ (8 * k))]:=by
 simp [m9,List.range_succ]
theorem ai5 (k c M N:Nat) (h:8 * k≤c):m9 k (N+2 ^ c * M)=m9 k N:=by
 unfold m9
 refine List.map_congr_left fun j hj=>?_
 have hj:=List.mem_range.1 hj
 refine BitVec.eq_of_toNat_eq ?_
 rw [BitVec.toNat_ofNat,BitVec.toNat_ofNat]
 have e:=Zn N M c (8 * j) 8 (by omega)
 exact e
theorem Q9 (n:Nat):IntKind.wrap .u8 (n:Int)=((BitVec.ofNat 8 n).toNat:Int):=by
 rw [yI,BitVec.ofInt_natCast]
theorem ak6 (a x n:Nat) (h:a<2 ^ n):a ||| (x * 2 ^ n)=a+x * 2 ^ n:=Yn h
structure um (d:Nat) (xs:List Int):Prop where
 pos:∀ x∈xs,0≤x
 lt:∀ x∈xs,x<((2 ^ d:Nat):Int)
theorem um.at {d:Nat} {xs:List Int} (h:um d xs) {i:Nat} (hi:i<xs.length):∃ y:Nat,xs.getD i 0=(y:Int)∧y<2 ^ d:=by
 have e:xs.getD i 0=xs[i]:=by simp [List.getD_eq_getElem?_getD,hi]
 have hm:xs[i]∈xs:=List.getElem_mem hi
 have h1:=h.pos _ hm
 have h2:=h.lt _ hm
 exact ⟨xs[i].toNat,by omega,by omega⟩
theorem um.take {d:Nat} {xs:List Int} (h:um d xs) (k:Nat):um d (xs.take k):=⟨fun x hx=>h.pos x (List.mem_of_mem_take hx),fun x hx=>h.lt x (List.mem_of_mem_take hx)⟩
theorem um.IW {d:Nat} {xs:List Int} (h:um d xs):jN d xs<2 ^ (d * xs.length):=
 YtgjoehgomjgckaaGreatDoor.IW d xs fun x hx=>by
  have h1:=h.pos x hx
  have h2:=h.lt x hx
  omega
theorem afo (d:Nat) (xs:List Int) (i y:Nat) (hi:i<xs.length) (hy:xs.getD i 0=(y:Int)):jN d (xs.take (i+1))=jN d (xs.take i)+2 ^ (d * i) * y:=by
 rw [kW _ _ hi 0,ahD,hy,List.length_take,Nat.min_eq_left (by omega)]
 simp [jN]
theorem VD (d:Nat) (qQ:1≤d) (hd:d≤24) (x:ah) (xs:List Int) (hl:xs.length≤1000000) (hx:um d xs) (w:World) (hn:dS w x xs) :
  Ok Pr HI [.int .i64 (d:Int),.slice x.a x.n x.c] w fun v w'=>nC w w' v (uZ d xs):=by
 refine ae2 ?_
 unfold OR
 have bV:=hn.len
 refine ite_false (by rw [decide_eq_false (show ¬ (d:Int)<1 by omega),decide_eq_false (show ¬ (24:Int)<(d:Int) by omega)]; rfl) ?_
 have h24:(2:Nat) ^ 24=16777216:=by decide
 have art:2 ^ d≤2 ^ 24:=Nat.pow_le_pow_right (by omega) hd
 refine Xt 0 xs.length (fun i (out:ah) (held:Int) (n:Int) w'=>held=((jN d (xs.take i) / 2 ^ (8 * (d * i / 8)):Nat):Int)∧n=((d * i % 8:Nat):Int)∧
   ak w [] w' [.row bh 1 out (bn (m9 (d * i / 8) (jN d (xs.take i))))]) rfl (by omega) ⟨by simp [jN],by simp,by simpa [m9,bn] using (ak.start w).jk bh 1⟩ ?_ ?_
 ·rintro again i out _ _ w1 _ hi ⟨rfl,rfl,H⟩ aM
  refine ite_true (decide_eq_true (by omega)) ((hn.aG H.mod).ld (i:=i) hi rfl ?_)
  obtain ⟨y,hy,hyd⟩:=hx.at hi
  rw [hy]
  have hT:=afo d xs i y hi hy
  have bZ:=(hx.take i).IW
  rw [List.length_take,Nat.min_eq_left (by omega)] at bZ
  generalize jN d (xs.take i)=N at *
  generalize jN d (xs.take (i+1))=N' at *
  obtain ⟨c,hc⟩:∃ c,c=d * i:=⟨_,rfl⟩
  have TJ:d * (i+1)=c+d:=by rw [Nat.mul_add,Nat.mul_one,hc]
  rw [TJ] at aM
  rw [← hc] at H hT bZ ⊢
  have nM:c≤24 * 1000000:=by rw [hc]; exact Nat.mul_le_mul hd (by omega)
  have hq:N / 2 ^ (8 * (c / 8))<2 ^ (c % 8):=by
   refine Nat.div_lt_of_lt_mul ?_
   rw [← Nat.pow_add,show 8 * (c / 8)+c % 8=c by omega]
   exact bZ
  have hp8:2 ^ (c % 8)≤2 ^ 7:=Nat.pow_le_pow_right (by omega) (by omega)
  have h7:(2:Nat) ^ 7=128:=by decide
  have hym:y * 2 ^ (c % 8)≤16777216 * 128:=Nat.mul_le_mul (by omega) (by omega)
  refine jV fun go bY=>?_
  have hsh:shr .i64 (y:Int) (d:Int)=0:=by
   rw [E9 (by omega),Nat.div_eq_of_lt hyd]; rfl
  refine ite_false (decide_eq_false (by omega)) (kL (by omega) (ite_false (by rw [hsh]; rfl) (bY _ ?_)))
  refine kL (by omega) (pn ?_)
  rw [Co (by omega) (by omega),orN (by omega) (by omega),ak6 _ _ _ hq]
  refine ⟨⟨by omega,by omega⟩,?_⟩
  have hN:N / 2 ^ (8 * (c / 8))+y * 2 ^ (c % 8)=N' / 2 ^ (8 * (c / 8)):=by
   rw [hT]
   conv=>rhs; rw [show 2 ^ c=2 ^ (8 * (c / 8)) * 2 ^ (c % 8) by rw [← Nat.pow_add]; congr 1; omega]
   rw [Nat.mul_assoc,Nat.add_mul_div_left _ _ (Nat.pow_pos (by omega)),Nat.mul_comm y]
  rw [hN]
  have aaA:m9 (c / 8) N=m9 (c / 8) N':=by rw [hT,ai5 _ _ _ _ (by omega)]
  rw [aaA] at H
  have ans:N' / 2 ^ (8 * (c / 8))<2147483776:=by rw [← hN]; omega
  clear aaA hN hT hq bZ hym hsh
  refine IE (fun (out:ah) (held:Int) (n:Int) w'=>∃ k:Nat,c / 8≤k∧8 * k≤c+d∧held=((N' / 2 ^ (8 * k):Nat):Int)∧n=((c+d - 8 * k:Nat):Int)∧N' / 2 ^ (8 * k)<2147483776∧ak w [] w' [.row bh 1 out (bn (m9 k N'))])
   (fun _ _ n _=>n.toNat) ⟨c / 8,Nat.le_refl _,by omega,rfl,by omega,ans,H⟩ ?_
  rintro mh aru _ _ w2 ⟨k,mz,qR,rfl,rfl,hh,H⟩ jD
  have nJ:=(H.bytes 0 rfl).len
  rw [N3] at nJ
  refine bU (fun sw=>?_) (fun sw=>?_)
  ·have sw:=of_decide_eq_true sw
   rw [Q9]
   refine H.Rr 0 _ iJ rfl rfl (by omega) fun aaB w3 H _=>⟨⟨by omega,by omega⟩,?_⟩
   rw [show (8:Int)=((8:Nat):Int) from rfl,E9 (by omega),Nat.div_div_eq_div_mul,← Nat.pow_add,show 8 * k+8=8 * (k+1) by omega]
   refine jD _ _ _ w3 ⟨k+1,by omega,by omega,rfl,by omega,?_,?_⟩ (by omega)
   ·rw [show 8 * (k+1)=8 * k+8 by omega,Nat.pow_add,← Nat.div_div_eq_div_mul]
    omega
   ·rw [Wk]; exact H
  ·have sw:=of_decide_eq_false sw
   refine ⟨⟨by omega,by omega⟩,aM _ _ _ w2 ?_⟩
   obtain rfl:k=(c+d) / 8:=by omega
   exact ⟨rfl,by omega,H⟩
 ·rintro again out _ _ w1 ⟨rfl,rfl,H⟩
  refine ite_false (decide_eq_false (by omega)) ?_
  rw [List.take_of_length_le (Nat.le_refl _)] at H ⊢
  have bZ:=hx.IW
  obtain ⟨c,hc⟩:∃ c,c=d * xs.length:=⟨_,rfl⟩
  have nM:c≤24 * 1000000:=by rw [hc]; exact Nat.mul_le_mul hd (by omega)
  have F4:uZ d xs=m9 ((c+7) / 8) (jN d xs):=by unfold uZ; rw [hc]
  rw [F4]
  rw [← hc] at H bZ ⊢
  generalize jN d xs=N at *
  have nJ:=(H.bytes 0 rfl).len
  rw [N3] at nJ
  refine bU (fun sw=>?_) (fun sw=>?_)
  ·have sw:=of_decide_eq_true sw
   rw [Q9]
   refine H.Rr 0 _ iJ rfl rfl (by omega) fun aaB w3 H _=>⟨aaB,rfl,?_,H.mod⟩
   rw [show (c+7) / 8=c / 8+1 by omega,Wk]
   exact H.fN 0 rfl
  ·have sw:=of_decide_eq_false sw
   rw [show (c+7) / 8=c / 8 by omega]
   exact ⟨out,rfl,H.fN 0 rfl,H.mod⟩
end Go.Proofs.YtgjoehgomjgckaaGreatDoor
end
section
set_option linter.unusedVariables false
set_option linter.unusedSimpArgs false
namespace Go.Proofs.YtgjoehgomjgckaaGreatDoor
open Go Go.Ev
set_option maxRecDepth 20000
set_option linter.unusedVariables false
theorem ahE (eta:Nat) (l:List B8):(lean eta l).length=256:=by unfold lean; rw [List.length_map,List.length_range]
theorem ak7 (l:List B8):(su l).length=256:=by
 unfold su
 have:=RO (e9 168 31 l 4095) 1365
 generalize jI (e9 168 31 l 4095) 1365=e at *
 rw [List.length_append,List.length_replicate]
 omega
end Go.Proofs.YtgjoehgomjgckaaGreatDoor
end
section
set_option linter.unusedVariables false
set_option linter.unusedSimpArgs false
namespace Go.Proofs.YtgjoehgomjgckaaGreatDoor
open Go Go.Ev
set_option maxRecDepth 20000
set_option linter.unusedVariables false
def Sw (w w':World) (v:Value) (ls:List (List Int)):Prop:=∃ y:ah,v=.slice y.a y.n y.c∧fJ w w' fun w=>fK w y ls
def zR (w:World) (s:ah) (a:List (List (List Int))):Prop:=mC fK w s a
theorem zR.aG {w w':World} {s:ah} {a:List (List (List Int))} (h:zR w s a) (m:Mod [] w w'):zR w' s a:=mC.aG (E:=fK) (fun m h=>fK.aG h m) h m
def al0 (w w':World) (v:Value) (a:List (List (List Int))):Prop:=∃ y:ah,v=.slice y.a y.n y.c∧fJ w w' fun w=>zR w y a
theorem aj2:fh Pr HJ fA 1 24:=.of (by kernel_rfl)
theorem Kf {A:Type} (f:Nat→A) (i:Nat):(List.range (i+1)).map f=(List.range i).map f ++ [f i]:=by simp [List.range_succ]
def mF (ls:List (List Int)):Prop:=∀ l∈ls,Pq l
theorem mF.get {ls:List (List Int)} (h:mF ls) {i:Nat} (hi:i<ls.length):Pq (ls.getD i []):=h _ (DZ hi [])
theorem Qh (d:Nat) (l:List B8):∀ x∈unpack d l,0≤x∧x<((2 ^ d:Nat):Int):=by
 intro x hx
 unfold unpack at hx
 obtain ⟨i,_,rfl⟩:=List.mem_map.1 hx
 have:=Zo (num l) d i
 omega
theorem _root_.Go.Ev.dS.kept {w w':World} {x:ah} {l:List Int} (h:dS w x l) {i:Nat} (hi:i<l.length) (m:Mod [] w w'):kept (Addr.add (base x.a) (Int.toNat (i:Int) * 1)) 1 w w':=by
 refine yY m (v:=i64 l[i]) ?_
 rw [Int.toNat_natCast,Nat.mul_one]
 exact h.cell i _ (by simp [cu,hi])
theorem _root_.Go.Ev.fK.kept {w w':World} {x:ah} {ls:List (List Int)} (h:fK w x ls) {i:Nat} (hi:i<ls.length) (m:Mod [] w w'):kept (Addr.add (base x.a) (Int.toNat (i:Int) * 1)) 1 w w':=by
 obtain ⟨y,_,_,hc⟩:=h.at hi
 exact yY m (by rw [Int.toNat_natCast]; exact hc)
theorem qA.aaC {w w':World} {v:Value} {l:List Int} (h:qA w w' v l):∃ y:ah,v=.slice y.a y.n y.c∧fJ w w' fun w=>dS w y l:=by
 obtain ⟨y,rfl,hy,m⟩:=h
 exact ⟨y,rfl,fJ.Ex hy m fun w2 h=>h.dD⟩
theorem ai6 {A:Type} (f:List Int→List A) (fs:List (List Int)) (i:Nat) (h:i<fs.length):(fs.take (i+1)).flatMap f=(fs.take i).flatMap f ++ f (fs.getD i []):=by
 rw [kW _ _ h [],List.flatMap_append]; simp
@[irreducible] def zF (f:List Int):List B8:=uZ 12 f
def xK (fs:List (List Int)):List B8:=fs.flatMap zF
theorem WT {f:List Int} (h:f.length=256):(zF f).length=384:=by unfold zF; rw [N4,h]
theorem II {fs:List (List Int)} (h:mF fs):(xK fs).length=384 * fs.length:=by
 unfold xK
 induction fs with
 | nil=>rfl
 | cons f r ih=>rw [List.flatMap_cons,List.length_append,ih fun l hl=>h l (by simp [hl]),WT (h f (by simp)).len,List.length_cons]; omega
theorem al1 {f:List Int} (h:Pq f):um 12 f:=⟨fun x hx=>(h.Tz x hx).1,fun x hx=>by
 have:=h.Tz x hx
 show x<((2 ^ 12:Nat):Int)
 omega⟩
theorem Wl (x:ah) (fs:List (List Int)) (hl:fs.length≤100) (hp:mF fs) (w:World) (hx:fK w x fs):Ok Pr Iu [.slice x.a x.n x.c] w fun v w'=>nC w w' v (xK fs):=by
 refine ag2 ?_
 unfold QG
 have bV:=hx.len
 refine k5 0 fs.length (fun i (o:ah) w'=>ak w [] w' [.row bh 1 o (bn ((fs.take i).flatMap zF))]) rfl (by omega) (by simpa [bn] using (ak.start w).jk bh 1) ?_ ?_
 ·intro again i o w1 _ hi H aM
  have hA:((fs.take i).flatMap zF).length≤384 * 100:=by
   have:=II (fs:=fs.take i) fun l hl=>hp l (List.mem_of_mem_take hl)
   unfold xK at this
   rw [this,List.length_take]
   omega
  have sx:=(H.bytes 0 rfl).len
  refine ite_true (decide_eq_true (by omega)) ((hx.aG H.mod).ld (i:=i) hi rfl fun y hy=>?_)
  rw [ai6 _ _ _ hi] at aM
  have hP:=hp.get hi
  generalize fs.getD i []=f at *
  have F5:=hP.len
  refine aB (VD 12 (by omega) (by omega) y f (by omega) (al1 hP) _ hy) ?_
  rintro _ w2 ⟨z,rfl,hz,m⟩
  rw [show uZ 12 f=zF f by unfold zF; rfl] at hz
  have H:=H.cB m hz
  have pZ:=hz.bytes.len
  have:=WT F5
  refine bW (H.vp 0 iJ rfl hz.bytes (by omega) fun o' w3 H _=>⟨⟨by omega,by omega⟩,aM o' w3 H.front⟩)
 ·intro again o w1 H
  rw [List.take_of_length_le (Nat.le_refl _)] at H
  exact ite_false (decide_eq_false (by omega)) ⟨o,rfl,H.fN 0 rfl,H.mod⟩
def vX (d:Nat) (f:List Int):List Int:=f.map fun x=>(CN d x:Int)
@[irreducible] def lz (d:Nat) (f:List Int):List B8:=uZ d (vX d f)
theorem IX {d:Nat} {f:List Int} (h:f.length=256):(lz d f).length=32 * d:=by
 unfold lz vX
 rw [N4,List.length_map,h]; omega
theorem ak8 (d:Nat) (f:List Int):um d (vX d f):=⟨fun x hx=>by
 obtain ⟨y,_,rfl⟩:=List.mem_map.1 hx
 omega,fun x hx=>by
 obtain ⟨y,_,rfl⟩:=List.mem_map.1 hx
 have:=alU (d:=d) y
 omega⟩
theorem getD_map' {f:Int→Int} {l:List Int} {i:Nat} (h:i<l.length):(l.map f).getD i 0=f (l.getD i 0):=by
 simp [List.getD_eq_getElem?_getD,h]
theorem M8 (d:Nat) (h1:1≤d) (hd:d≤11) (x:ah) (f:List Int) (hf:f.length=256) (w:World) (hx:dS w x f):Ok Pr Dy [.int .i64 (d:Int),.slice x.a x.n x.c] w fun v w'=>nC w w' v (lz d f):=by
 refine aeG ?_
 unfold N1
 have bV:=hx.len
 have hN:=N4 d (vX d f)
 have Ka:(vX d f).length=256:=by unfold vX; rw [List.length_map,hf]
 have xL:∀ i,i<256→(vX d f).getD i 0=(CN d (f.getD i 0):Int):=fun i hi=>getD_map' (by omega)
 have aol:=ak8 d f
 rw [show lz d f=uZ d (vX d f) by unfold lz; rfl]
 generalize vX d f=N at *
 refine k5 0 256 (fun i (xs:ah) w'=>ak w [] w' [.row bD 1 xs (cu (N.take i))]) rfl (by omega) (by simpa [cu] using (ak.start w).jk bD 1) ?_ ?_
 ·intro again i xs w3 _ hi H aM
  have hn:=(H.dD 0 rfl).len
  rw [List.length_take,Nat.min_eq_left (by omega)] at hn
  refine ite_true (decide_eq_true (by omega)) ((hx.aG H.mod).ld (i:=i) (by omega) rfl (aB (afi d h1 hd _ _) ?_))
  rintro _ w4 ⟨rfl,m⟩
  have H:=H.frame m
  rw [← xL i hi]
  refine fm (H.Sq 0 BA rfl (by omega) fun xs' w5 H _=>⟨⟨by omega,by omega⟩,aM xs' w5 ?_⟩)
  rw [kW _ _ (by omega) 0]
  exact H
 ·intro again xs w3 H
  rw [List.take_of_length_le (by omega)] at H
  refine ite_false (decide_eq_false (by omega)) (aB (VD d h1 (by omega) xs N (by omega) aol _ (H.dD 0 rfl)) ?_)
  rintro _ w5 ⟨y,rfl,hy,m5⟩
  have H:=H.cB m5 hy
  exact bW ⟨y,rfl,H.fN 1 rfl,H.mod⟩
def zS (d:Nat) (l:List Int):List Int:=l.map fun x=>p7 d x.toNat
def rP (d many:Nat) (b:List B8):List (List Int):=(gC d many b).map (zS d)
theorem Ra (d many:Nat) (b:List B8):(rP d many b).length=many:=by unfold rP gC; simp
theorem YC {d many:Nat} (h1:1≤d) (hd:d≤11) {b:List B8} (hb:32 * d * many≤b.length):mF (rP d many b):=by
 intro l hl
 unfold rP gC at hl
 rw [List.map_map] at hl
 obtain ⟨i,hi,rfl⟩:=List.mem_map.1 hl
 refine ⟨by show (zS d _).length=256; unfold zS; rw [List.length_map]; exact QI h1 hb (List.mem_range.1 hi),fun x hx=>?_⟩
 obtain ⟨y,_,rfl⟩:=List.mem_map.1 hx
 exact ak0 hd h1
theorem QJ (d many:Nat) (b:List B8):(gC d many b).length=many:=by unfold gC; simp
theorem WU {d many:Nat} {b:List B8} {i:Nat} (h:i<many):(gC d many b)[i]? = some (iS d b i):=by
 unfold gC; rw [List.getElem?_map,List.getElem?_range h]; rfl
theorem IY {A:Type} (f:A→A) (l:List A) (i:Nat) (h:i<l.length) (d:A):((l.take i).map f ++ l.drop i).set i (f (l.getD i d))=(l.take (i+1)).map f ++ l.drop (i+1):=by
 have hl:((l.take i).map f).length=i:=by rw [List.length_map,List.length_take]; omega
 rw [List.set_append_right _ _ (by omega),hl,Nat.sub_self,List.drop_eq_getElem_cons h,List.set_cons_zero,kW _ _ h d,List.map_append,List.append_assoc]
 simp [List.getD_eq_getElem?_getD,h]
theorem IZ {A:Type} (f:A→A) (l:List A) (i:Nat) (h:i<l.length):((l.take i).map f ++ l.drop i)[i]? = l[i]?:=by
 rw [List.getElem?_append_right (by simp; omega),List.length_map,List.length_take,Nat.min_eq_left (by omega),Nat.sub_self,List.getElem?_drop,Nat.add_zero]
theorem U2 (d many:Nat) (h1:1≤d) (hd:d≤11) (hm:many≤8) (x:ah) (b:List B8) (hb:32 * d * many≤b.length) (jO:b.length≤1000000) (w:World) (hx:Bytes w x b) :
  Ok Pr Ho [.int .i64 (d:Int),.int .i64 (many:Int),.slice x.a x.n x.c] w fun v w'=>Sw w w' v (rP d many b):=by
 refine adW ?_
 unfold M6
 refine aB (HL d many h1 (by omega) hm x b hb jO w hx) ?_
 rintro _ w1 (⟨_,out,rfl,hG⟩ | ⟨dx,_⟩)
 case inr=>
  unfold nS at dx
  rw [decide_eq_false (show ¬ d=12 by omega)] at dx
  cases dx
 obtain ⟨xs,jr,H⟩:=hG
 have CQ:=QJ d many b
 have hxn:=(H.fI 0 rfl).len
 rw [List.length_map,Nat.mul_one,jr,CQ] at hxn
 refine ⟨_,rfl,out,rfl,true,rfl,rfl,?_⟩
 refine cZ 0 many (fun i w'=>ak w [] w' (.row fk 1 out (xs.map ah.v) :: lU xs (((gC d many b).take i).map (zS d) ++ (gC d many b).drop i))) rfl (by omega) H ?_ ?_
 ·intro again i w2 _ hi H aM
  obtain ⟨z,hz⟩:∃ z,xs[i]? = some z:=⟨_,List.getElem?_eq_getElem (by omega)⟩
  have nh:w2.cell? (Addr.add (base out.a) (Int.toNat (i:Int) * 1))=some z.v:=by
   rw [Int.toNat_natCast,Nat.mul_one]
   exact (H.fI 0 rfl).cell i _ (by rw [List.getElem?_map,hz]; rfl)
  refine ite_true (decide_eq_true (by omega)) ⟨⟨(H.fI 0 rfl).pre (by omega),by omega,by omega⟩,z,nh,?_⟩
  have hg:(((gC d many b).take i).map (zS d) ++ (gC d many b).drop i)[i]? = some (iS d b i):=by rw [IZ _ _ _ (by omega)]; exact WU hi
  have hlen:=QI h1 hb hi
  have bZ:=Qh d ((b.drop (32 * d * i)).take (32 * d))
  change ∀ x∈iS d b i,0≤x∧x<((2 ^ d:Nat):Int) at bZ
  have qF:=IY (zS d) (gC d many b) i (by omega) []
  rw [show (gC d many b).getD i []=iS d b i by rw [List.getD_eq_getElem?_getD,WU hi]; rfl] at qF
  rw [← qF] at aM
  generalize (((gC d many b).take i).map (zS d) ++ (gC d many b).drop i)=LS at *
  generalize iS d b i=U at *
  have hLi:i<LS.length:=(List.getElem?_eq_some_iff.1 hg).1
  have FX:=(H.dD (i+1) (QH hz hg)).len
  have h2:=BF hd
  refine cZ 0 256 (fun j w'=>ak w [] w' (.row fk 1 out (xs.map ah.v) :: lU xs (LS.set i ((U.take j).map (fun x=>p7 d x.toNat) ++ U.drop j)))) rfl (by omega) ?_ ?_ ?_
  ·have e:LS.set i U=LS:=by
    refine List.ext_getElem? fun j=>?_
    rw [List.getElem?_set]
    by_cases h:i=j
    ·subst h; rw [if_pos rfl,if_pos hLi,hg]
    ·rw [if_neg h]
   show ak w [] w2 (.row fk 1 out (xs.map ah.v) :: lU xs (LS.set i U))
   rw [e]; exact H
  ·intro mh j w3 _ hj H jD
   have xL:(lU xs (LS.set i ((U.take j).map (fun x=>p7 d x.toNat) ++ U.drop j)))[i]? = some (.row bD 1 z (cu ((U.take j).map (fun x=>p7 d x.toNat) ++ U.drop j))):=QH hz (by rw [List.getElem?_set,if_pos rfl,if_pos hLi])
   have aom:=H.dD (i+1) xL
   have Ao:((U.take j).map (fun x=>p7 d x.toNat) ++ U.drop j).length=256:=by simp only [List.length_append,List.length_map,List.length_take,List.length_drop]; omega
   have TK:((U.take j).map (fun x=>p7 d x.toNat) ++ U.drop j).getD j 0=U.getD j 0:=by
    rw [List.getD_eq_getElem?_getD,IZ _ _ _ (by omega),List.getD_eq_getElem?_getD]
   refine ite_true (decide_eq_true (by omega)) (aom.ld (i:=j) (by omega) rfl ?_)
   rw [TK]
   obtain ⟨h3,h4⟩:=bZ _ (DZ (l:=U) (i:=j) (by omega) 0)
   obtain ⟨u,hu⟩:∃ u:Nat,U.getD j 0=(u:Int):=⟨(U.getD j 0).toNat,by omega⟩
   rw [hu]
   refine aB (UT d h1 hd u (by omega) _) ?_
   rintro _ w4 ⟨rfl,m⟩
   have H:=H.frame m
   refine fm (H.rW (i+1) (i:=j) xL (by omega) rfl fun w5 H=>⟨⟨by omega,by omega⟩,jD w5 ?_⟩)
   have e:=IY (fun x:Int=>p7 d x.toNat) U j (by omega) 0
   rw [hu,Int.toNat_natCast] at e
   rw [e,List.set_cons_succ,ai4 hz,List.set_set] at H
   exact H
  ·intro mh w3 H
   rw [List.take_of_length_le (by omega),List.drop_of_length_le (by omega),List.append_nil] at H
   exact ite_false (decide_eq_false (by omega)) ⟨⟨by omega,by omega⟩,aM w3 H⟩
 ·intro again w2 H
  rw [List.take_of_length_le (by omega),List.drop_of_length_le (by omega),List.append_nil] at H
  exact ite_false (decide_eq_false (by omega)) ⟨out,rfl,Jt.box ⟨xs,by rw [jr,CQ,Ra],H⟩⟩
def ot (eta:Nat) (aq:List B8) (from_ many:Nat):List (List Int):=(List.range many).map fun (i:Nat)=>rC (eta:Int) aq (BitVec.ofInt 8 ((from_+i:Nat):Int))
theorem aj3 {eta:Nat} (he:eta=2∨eta=3) {aq:List B8} (hs:aq.length=32) (n:B8):Pq (rC (eta:Int) aq n):=by
 have ec:tI (eta:Int) aq.length=0:=by unfold tI; rw [if_pos (by omega),if_pos hs]
 unfold rC
 rw [if_pos ec]
 generalize e9 136 31 (aq ++ [n]) (64 * (eta:Int))=z
 refine ⟨ahE _ _,fun x hx=>?_⟩
 unfold lean at hx
 obtain ⟨i,_,rfl⟩:=List.mem_map.1 hx
 omega
theorem wP (eta:Nat) (aq:List B8) (from_ many:Nat):(ot eta aq from_ many).length=many:=by unfold ot; simp
theorem yW {eta:Nat} (he:eta=2∨eta=3) {aq:List B8} (hs:aq.length=32) (from_ many:Nat):mF (ot eta aq from_ many):=fun l hl=>by
 unfold ot at hl
 obtain ⟨i,_,rfl⟩:=List.mem_map.1 hl
 exact aj3 he hs _
theorem HN (eta:Nat) (x:ah) (aq:List B8) (from_ many:Nat) (hm:many≤100) (hf:from_≤100) (hs:aq.length≤100000) (w:World) (hx:Bytes w x aq) :
  Ok Pr Br [.int .i64 (eta:Int),.slice x.a x.n x.c,.int .i64 (from_:Int),.int .i64 (many:Int)] w fun v w'=>Sw w w' v (ot eta aq from_ many):=by
 refine agr ?_
 unfold P8
 refine k5 0 many (fun i (out:ah) w'=>gZ dS fk w [] [] w' out (ot eta aq from_ i)) rfl (by omega) (gZ.start (ak.start w)) ?_ ?_
 ·intro again i out w2 _ hi C aM
  refine ite_true (decide_eq_true (by omega)) ⟨⟨by omega,by omega⟩,?_⟩
  rw [show (from_:Int)+(i:Int)=((from_+i:Nat):Int) by omega,yI]
  refine aB (af7 (eta:Int) x aq _ (by omega) _ (hx.aG C.mod)) ?_
  rintro _ w3 ⟨y,er,rfl,hy,he,hn,m3⟩
  have hs:ot eta aq from_ (i+1)=ot eta aq from_ i ++ [rC (eta:Int) aq (BitVec.ofInt 8 ((from_+i:Nat):Int))]:=Kf _ _
  rw [hs] at aM
  exact ⟨_,rfl,y,rfl,rfl,C.add (fJ.Ex hy m3 fun w2 h=>h.dD) BB (by rw [wP]; omega) fun k8 w4 C=>⟨⟨by omega,by omega⟩,aM k8 w4 C⟩⟩
 ·intro again out w2 C
  exact ite_false (decide_eq_false (by omega)) ⟨out,rfl,C.boxed.mono fun w h=>IG h⟩
def nk (cN:List B8) (k:Nat) (fY:Bool) (i:Nat):List (List Int):=(List.range k).map fun (j:Nat)=>if fY=true then su (cN ++ [BitVec.ofInt 8 (i:Int),BitVec.ofInt 8 (j:Int)]) else su (cN ++ [BitVec.ofInt 8 (j:Int),BitVec.ofInt 8 (i:Int)])
def pE (cN:List B8) (k:Nat) (fY:Bool) (i:Nat):List (List (List Int)):=(List.range i).map (nk cN k fY)
theorem ak9 (l:List B8) (t:Nat):∀ x∈jI l t,0≤x∧x<3329:=by
 have push:∀ (o:List Int) (x:Int),(∀ x∈o,0≤x∧x<3329)→0≤x→∀ y∈p6 o x,0≤y∧y<3329:=by
  intro o x ho hx y hy
  unfold p6 at hy
  split at hy
  ·rename_i hc
   rcases List.mem_append.1 hy with h | h
   ·exact ho y h
   ·rw [List.mem_singleton.1 h]; exact ⟨hx,hc.1⟩
  ·exact ho y hy
 induction t with
 | zero=>intro x hx; cases hx
 | succ t ih=>exact push _ _ (push _ _ ih (by unfold cx; omega)) (by unfold cy; omega)
theorem al2 (l:List B8):Pq (su l):=by
 refine ⟨ak7 l,fun x hx=>?_⟩
 unfold su at hx
 rcases List.mem_append.1 hx with h | h
 ·exact ak9 _ _ x h
 ·rw [List.eq_of_mem_replicate h]; omega
theorem Rb (cN:List B8) (k:Nat) (fY:Bool) (i:Nat):(nk cN k fY i).length=k∧mF (nk cN k fY i):=by
 refine ⟨by unfold nk; simp,fun l hl=>?_⟩
 unfold nk at hl
 obtain ⟨j,_,rfl⟩:=List.mem_map.1 hl
 split <;> exact al2 _
theorem DW (cN:List B8) (k:Nat) (fY:Bool) (i:Nat):(pE cN k fY i).length=i:=by unfold pE; simp
theorem WV {cN:List B8} {k:Nat} {fY:Bool} {n i:Nat} (h:i<n):(pE cN k fY n).getD i []=nk cN k fY i:=by
 unfold pE; rw [List.getD_eq_getElem?_getD,List.getElem?_map,List.getElem?_range h]; rfl
theorem VT (s:iF) (hk:s.k≤100) (x:ah) (cN:List B8) (hr:cN.length=32) (fY:Bool) (w:World) (hx:Bytes w x cN):Ok Pr HV [.agg ⟨s.cells⟩,.slice x.a x.n x.c,.bool fY] w fun v w'=>al0 w w' v (pE cN s.k fY s.k):=by
 refine ags ?_
 unfold P9
 refine (ak.start w).nw fun p w1 H _=>H.an 0 rfl (au p 0) rfl ?_
 refine k5 0 s.k (fun i (out:ah) w'=>gZ fK fA w [] [.av p s.cells iq] w' out (pE cN s.k fY i)) rfl (by omega) (gZ.start H) ?_ ?_
 ·intro again i out w2 _ hi C aM
  have H:=C.front
  refine ite_true (decide_eq_true (by omega)) (H.an 0 rfl (au p 0) rfl ?_)
  have hs:pE cN s.k fY (i+1)=pE cN s.k fY i ++ [nk cN s.k fY i]:=Kf _ _
  rw [hs] at aM
  refine k5 0 s.k (fun j (row:ah) w'=>gZ dS fk w2 [] [] w' row (nk cN j fY i)) rfl (by omega) (gZ.start (ak.start w2)) ?_ ?_
  ·intro mh j row w3 _ hj D jD
   have CR:nk cN (j+1) fY i=nk cN j fY i ++ [if fY=true then su (cN ++ [BitVec.ofInt 8 (i:Int),BitVec.ofInt 8 (j:Int)]) else su (cN ++ [BitVec.ofInt 8 (j:Int),BitVec.ofInt 8 (i:Int)])]:=Kf _ _
   rw [CR] at jD
   have hx3:=(hx.aG H.mod).aG D.mod
   have CQ:=(Rb cN j fY i).1
   refine ite_true (decide_eq_true (by omega)) (uO fun go bY=>?_)
   cases fY with
   | true=>
    refine ite_true rfl (bY _ _ _ ?_)
    rw [yI,yI]
    refine aB (VB x cN hr _ _ _ hx3) ?_
    rintro _ w4 ⟨y,er,rfl,hy,he,hn,m4⟩
    exact ⟨_,rfl,y,rfl,rfl,D.add (fJ.Ex hy m4 fun w2 h=>h.dD) BB (by omega) fun S6 w5 D=>⟨⟨by omega,by omega⟩,jD S6 w5 D⟩⟩
   | false=>
    refine ite_false rfl (bY _ _ _ ?_)
    rw [yI,yI]
    refine aB (VB x cN hr _ _ _ hx3) ?_
    rintro _ w4 ⟨y,er,rfl,hy,he,hn,m4⟩
    exact ⟨_,rfl,y,rfl,rfl,D.add (fJ.Ex hy m4 fun w2 h=>h.dD) BB (by omega) fun S6 w5 D=>⟨⟨by omega,by omega⟩,jD S6 w5 D⟩⟩
  ·intro mh row w3 D
   exact ite_false (decide_eq_false (by omega)) (C.add (D.boxed.mono fun w h=>IG h) aj2 (by rw [DW]; omega) fun k8 w4 C=>⟨⟨by omega,by omega⟩,aM k8 w4 C⟩)
 ·intro again out w2 C
  exact ite_false (decide_eq_false (by omega)) ⟨out,rfl,C.boxed⟩
def mV (fs:List (List Int)):List (List Int):=fs.map uY
theorem Iy {fs:List (List Int)} (h:mF fs):mF (mV fs):=fun l hl=>by
 unfold mV at hl
 obtain ⟨f,hf,rfl⟩:=List.mem_map.1 hl
 exact ajR (h f hf)
theorem DT (fs:List (List Int)):(mV fs).length=fs.length:=by unfold mV; simp
theorem HO (x:ah) (fs:List (List Int)) (hl:fs.length≤1000) (hp:mF fs) (w:World) (hx:fK w x fs):Ok Pr Bq [.slice x.a x.n x.c] w fun v w'=>Sw w w' v (mV fs):=by
 refine agq ?_
 unfold P7
 have bV:=hx.len
 refine k5 0 fs.length (fun i (out:ah) w'=>gZ dS fk w [] [] w' out (mV (fs.take i))) rfl (by omega) (gZ.start (ak.start w)) ?_ ?_
 ·intro again i out w1 _ hi C aM
  have hs:mV (fs.take (i+1))=mV (fs.take i) ++ [uY (fs.getD i [])]:=by unfold mV; rw [kW _ _ hi [],List.map_append]; rfl
  rw [hs] at aM
  refine ite_true (decide_eq_true (by omega)) ((hx.aG C.mod).ld (i:=i) hi rfl fun y hy=>aB (agZ y _ (hp.get hi) _ hy) ?_)
  rintro _ w2 h
  obtain ⟨z,rfl,hz⟩:=h.aaC
  exact bW (C.add hz BB (by rw [DT,List.length_take]; omega) fun k8 w3 C=>⟨⟨by omega,by omega⟩,aM k8 w3 C⟩)
 ·intro again out w1 C
  rw [List.take_of_length_le (Nat.le_refl _)] at C
  exact ite_false (decide_eq_false (by omega)) ⟨out,rfl,C.boxed.mono fun w h=>IG h⟩
@[irreducible] def Fo (m:List B8):List Int:=(unpack 1 m).map fun x=>x * 1665
theorem ala {m:List B8} (h:m.length=32):Pq (Fo m):=by
 unfold Fo
 refine ⟨by rw [List.length_map,MY,h],fun x hx=>?_⟩
 obtain ⟨y,hy,rfl⟩:=List.mem_map.1 hx
 have:=Qh 1 m y hy
 omega
theorem ant:p7 1 1=1665:=by decide
theorem afp (x:ah) (m:List B8) (h:m.length=32) (w:World) (hx:Bytes w x m):Ok Pr MP [.slice x.a x.n x.c] w fun v w'=>qA w w' v (Fo m):=by
 refine adX ?_
 unfold M7
 refine aB (G9 1 (by omega) (by omega) x m (by omega) w hx) ?_
 rintro _ w1 ⟨y,rfl,hy,m1⟩
 have hU:(unpack 1 m).length=256:=by rw [MY,h]
 have bZ:=Qh 1 m
 unfold Fo
 generalize unpack 1 m=U at *
 have H:=(ak.start w).cB m1 hy
 have xY:=(H.dD 0 rfl).len
 refine bW (cZ 0 256 (fun j w'=>ak w [] w' [.row bD 1 y (cu ((U.take j).map (fun x=>x * 1665) ++ U.drop j))]) rfl (by omega) (by simpa using H) ?_ ?_)
 ·intro again j w2 _ hj H aM
  have Ao:((U.take j).map (fun x=>x * 1665) ++ U.drop j).length=256:=by simp only [List.length_append,List.length_map,List.length_take,List.length_drop]; omega
  have TK:((U.take j).map (fun x=>x * 1665) ++ U.drop j).getD j 0=U.getD j 0:=by
   rw [List.getD_eq_getElem?_getD,IZ _ _ _ (by omega),List.getD_eq_getElem?_getD]
  have H:=H.drew
  have hg:=bZ _ (DZ (l:=U) (i:=j) (by omega) 0)
  refine ite_true (decide_eq_true (by omega)) ((H.dD 0 rfl).ld (i:=j) (by omega) rfl ?_)
  rw [TK]
  refine aB (UT 1 (by omega) (by omega) 1 (by omega) _) ?_
  rintro _ w3 ⟨rfl,m3⟩
  rw [ant]
  have kp:=(H.dD 0 rfl).kept (i:=j) (by omega) m3
  have H:=H.frame m3
  refine fm ⟨kp,⟨by omega,by omega⟩,H.rW 0 (i:=j) rfl (by omega) rfl fun w4 H=>⟨⟨by omega,by omega⟩,aM w4 ?_⟩⟩
  rw [← IY (fun x:Int=>x * 1665) U j (by omega) 0]
  exact H
 ·intro again w2 H
  rw [List.take_of_length_le (by omega),List.drop_of_length_le (by omega),List.append_nil] at H
  exact ite_false (decide_eq_false (by omega)) ⟨y,rfl,H.fN 0 rfl,H.mod⟩
end Go.Proofs.YtgjoehgomjgckaaGreatDoor
end
section
set_option linter.unusedVariables false
set_option linter.unusedSimpArgs false
namespace Go.Proofs.YtgjoehgomjgckaaGreatDoor
open Go Go.Ev
set_option maxRecDepth 20000
set_option linter.unusedVariables false
theorem _root_.Go.Ev.ak.jZ {w0 w w':World} {S:List Nat} {L:List aE} (H:ak w0 S w L) (k:Nat) {b:Nat} {cs:List Value} {t:TypeId} (hk:L[k]? = some (.av b cs t)) (m:Mod [] w w') (j:Nat):kept (Addr.add ⟨b,0,none⟩ j) 1 w w':=
 D6 m (by rw [jK]; exact (H.av k hk).lt) (by simp)
theorem qw (w w':World):cO w w' .nilIface 0:=⟨.inl ⟨rfl,rfl⟩,fun b hb=>by cases hb⟩
def iH (set:Int) (b:List B8):Int:=if isSet set=true then (if b.length=iG set then (if nS 12 (dz set).k b=true then 0 else 4) else 3) else 2
theorem Wm (set:Int) (x:ah) (b:List B8) (w:World) (hx:Bytes w x b):Ok Pr It [.int .i64 set,.slice x.a x.n x.c] w fun v w'=>cO w w' v (iH set b)∧Mod [] w w':=by
 refine ag1 ?_
 unfold QF
 rw [wY]
 have bV:=hx.len
 refine aB (yV set w) ?_
 rintro _ w1 ⟨rfl,m1⟩
 have H:=(ak.start w).frame m1
 have fin:∀ {L:List aE} {w2 w3:World} {e:Value} {c:Int},ak w [] w2 L→cO w2 w3 e c→Mod [] w2 w3→cO w w3 e c∧Mod [] w w3:=fun H h m=>⟨⟨h.1,fun b hb=>by
  have:=h.2 b hb
  have:=H.mod.size
  omega⟩,H.mod.trans m⟩
 refine ⟨_,rfl,zo ⟨_,rfl,rfl,H.nw fun p w2 H _=>H.jh 0 rfl rfl fun w3 H=>?_⟩⟩
 have H:ak w [] w3 [.av p (dz set).cells iq]:=H
 unfold iH
 cases cD:isSet set with
 | false=>
  refine ite_true rfl (aB (A6 2 (by decide) w3) ?_)
  rintro e w4 ⟨h,m⟩
  rw [if_neg (by decide)]
  exact fin H h m
 | true=>
  have hg:=mZ cD
  have hk:=hg.k
  rw [if_pos rfl]
  refine ite_false rfl (aB (HB set w3) ?_)
  rintro _ w5 ⟨rfl,m5⟩
  have H:=H.frame m5
  have hA:iG set=384 * (dz set).k+32:=by unfold iG; rw [if_pos cD]
  refine ⟨_,rfl,_,rfl,_,rfl,_,rfl,rfl,?_⟩
  by_cases hn:b.length=iG set
  case neg=>
   rw [if_neg hn]
   refine ite_true (by rw [decide_eq_false (show ¬ ((x.n:Nat):Int)=((iG set:Nat):Int) by omega)]; rfl) (aB (A6 3 (by decide) w5) ?_)
   rintro e w6 ⟨h,m⟩
   exact fin H h m
  rw [if_pos hn]
  refine ite_false (by rw [decide_eq_true (show ((x.n:Nat):Int)=((iG set:Nat):Int) by omega)]; rfl) (H.an 0 rfl (au p 0) rfl (aB (HL 12 (dz set).k (by omega) (by omega) (by omega) x b (by omega) (by omega) _ (hx.aG H.mod)) ?_))
  rintro _ w7 (⟨dV,out,rfl,hG⟩ | ⟨dx,rfl,m7⟩)
  ·rw [if_pos dV]
   refine ⟨_,rfl,_,rfl,_,rfl,rfl,ite_false rfl ⟨qw _ _,H.mod.trans hG.box.mod⟩⟩
  ·rw [if_neg (by rw [dx]; decide)]
   refine ⟨_,rfl,⟨none,0,0⟩,rfl,_,rfl,rfl,ite_true rfl (aB (A6 4 (by decide) w7) ?_)⟩
   rintro e w8 ⟨h,m⟩
   exact fin (H.frame m7) h m
def tK (k:Nat) (cN:List B8) (s e:List (List Int)):List (List Int):=(List.range k).map fun i=>pL (qG (nk cN k false i) s) (e.getD i [])
def gK (s:iF) (d:List B8):List B8:=e9 72 6 (d ++ [BitVec.ofNat 8 s.k]) 64
def sK (s:iF) (g:List B8):List (List Int):=mV (ot s.e1 (g.drop 32) 0 s.k)
def eK (s:iF) (g:List B8):List (List Int):=mV (ot s.e1 (g.drop 32) s.k s.k)
@[irreducible] def B6 (s:iF) (g:List B8):List B8:=xK (tK s.k (g.take 32) (sK s g) (eK s g)) ++ g.take 32
@[irreducible] def B7 (s:iF) (g:List B8):List B8:=xK (sK s g)
def uo (set:Int) (n:Nat):Int:=if isSet set=true then (if n=32 then 0 else 3) else 2
@[irreducible] def p9 (set:Int) (d:List B8):List B8:=if uo set d.length=0 then B6 (dz set) (gK (dz set) d) else []
@[irreducible] def vY (set:Int) (d:List B8):List B8:=if uo set d.length=0 then B7 (dz set) (gK (dz set) d) else []
theorem Sx {s:iF} (hs:zE s) {g:List B8} (hg:g.length=64):(sK s g).length=s.k∧mF (sK s g):=by
 unfold sK
 exact ⟨by rw [DT,wP],Iy (yW (by have:=hs.e1; omega) (by rw [List.length_drop]; omega) _ _)⟩
theorem anu {s:iF} (hs:zE s) {g:List B8} (hg:g.length=64):(eK s g).length=s.k∧mF (eK s g):=by
 unfold eK
 exact ⟨by rw [DT,wP],Iy (yW (by have:=hs.e1; omega) (by rw [List.length_drop]; omega) _ _)⟩
theorem RT (k:Nat) (cN:List B8) (s e:List (List Int)):(tK k cN s e).length=k:=by unfold tK; simp
theorem Sy (k:Nat) (cN:List B8) (s e:List (List Int)):mF (tK k cN s e):=fun l hl=>by
 unfold tK at hl
 obtain ⟨i,_,rfl⟩:=List.mem_map.1 hl
 exact Eh _ _
theorem ai7 {s:iF} (hs:zE s) {g:List B8} (hg:g.length=64):(B6 s g).length=384 * s.k+32:=by
 unfold B6
 rw [List.length_append,II (Sy _ _ _ _),RT,List.length_take]; omega
theorem ai8 {s:iF} (hs:zE s) {g:List B8} (hg:g.length=64):(B7 s g).length=384 * s.k:=by
 unfold B7
 rw [II (Sx hs hg).2,(Sx hs hg).1]
theorem ahF (set:Int) (x:ah) (d:List B8) (hd:d.length≤100000) (w:World) (hx:Bytes w x d) :
  Ok Pr PF [.int .i64 set,.slice x.a x.n x.c] w fun v w'=>∃ (y z:ah) (er:Value),v=.tuple ⟨[.slice y.a y.n y.c,.slice z.a z.n z.c,er]⟩∧
   ak w [] w' [.row bh 1 y (bn (p9 set d)),.row bh 1 z (bn (vY set d)),aE.err er (uo set d.length)]:=by
 refine agp ?_
 unfold P6
 rw [wY]
 have bV:=hx.len
 have hC:uo set d.length=if isSet set=true then (if d.length=32 then 0 else 3) else 2:=rfl
 have hV:p9 set d=if uo set d.length=0 then B6 (dz set) (gK (dz set) d) else []:=by unfold p9; rfl
 have hS:vY set d=if uo set d.length=0 then B7 (dz set) (gK (dz set) d) else []:=by unfold vY; rfl
 have TL:=fun h:isSet set=true=>mZ h
 refine aB (yV set w) ?_
 rintro _ w1 ⟨rfl,m1⟩
 have H:=(ak.start w).frame m1
 generalize p9 set d=V at *
 generalize vY set d=K at *
 generalize uo set d.length=C at *
 generalize dz set=s at *
 refine ⟨_,rfl,zo ⟨_,rfl,rfl,H.nw fun p w2 H _=>H.jh 0 rfl rfl fun w3 H=>?_⟩⟩
 have H:ak w [] w3 [.av p s.cells iq]:=H
 have no:∀ (c:Int),c≠0→C=c→az Pr oW [.int .i64 c] w3 fun F6 w4=>∃ (y z:ah) (er:Value),Value.tuple ⟨[.slice none 0 0,.slice none 0 0,F6]⟩=.tuple ⟨[.slice y.a y.n y.c,.slice z.a z.n z.c,er]⟩∧
   ak w [] w4 [.row bh 1 y (bn V),.row bh 1 z (bn K),aE.err er C]:=by
  intro c hc g8
  rw [g8] at hV hS
  rw [if_neg hc] at hV hS
  subst hV hS
  refine aB (A6 c hc w3) ?_
  rintro e w4 ⟨h,m4⟩
  rw [g8]
  exact ⟨⟨none,0,0⟩,⟨none,0,0⟩,e,rfl,((((ak.start w).jk bh 1).jk bh 1).frame H.mod).gD m4 h⟩
 cases cD:isSet set with
 | false=>
  rw [cD,if_neg (by decide)] at hC
  exact ite_true rfl (no 2 (by decide) hC)
 | true=>
  rw [cD,if_pos rfl] at hC
  refine ite_false rfl ?_
  by_cases kG:d.length=32
  case neg=>
   rw [if_neg kG] at hC
   exact ite_true (by rw [decide_eq_false (show ¬ ((x.n:Nat):Int)=32 by omega)]; rfl) (no 3 (by decide) hC)
  rw [if_pos kG] at hC
  clear no
  subst hC
  rw [if_pos rfl] at hV hS
  subst hV hS
  have hG:=TL cD
  have hk:=hG.k
  refine ite_false (by rw [decide_eq_true (show ((x.n:Nat):Int)=32 by omega)]; rfl) (H.an 0 rfl (au p 0) rfl ?_)
  rw [Q9]
  refine H.nw fun p1 w4 H _=>H.nw fun p2 w5 H _=>?_
  have FL:=H.Q2 1 (l:=[BitVec.ofNat 8 s.k]) rfl
  refine aB (LJ ⟨some ⟨p2,0,none⟩,2,2⟩ [d,[BitVec.ofNat 8 s.k]] _ (e8.zM (H.av 2 rfl) (by simp) (hx.aG H.mod) (jX _) FL (jX _)) (zm rfl (by omega) (by show (1:Nat)≤_; omega))) ?_
  rintro _ w6 ⟨g,rfl,hg,m6⟩
  rw [show [d,[BitVec.ofNat 8 s.k]].flatten=d ++ [BitVec.ofNat 8 s.k] by simp] at hg
  have hGl:(gK s d).length=64:=s4 72 6 _ 64 (by omega)
  change Own w6 w5.heap.size bh 1 g (bn (gK s d)) at hg
  generalize gK s d=G at *
  have H:=((H.cB m6 hg).drew).drew
  have hgn:=(H.bytes 3 rfl).len
  have hgc:=(H.bytes 3 rfl).cap
  refine bW (IV 32 rfl (by omega) fun zr hzr hr=>zn 32 rfl (by omega) fun zk hzk qR=>?_)
  have hr:=fun w' (h:Bytes w' g G)=>hr w' G h (by omega)
  have qR:=fun w' (h:Bytes w' g G)=>qR w' G h (by omega)
  have Kb:(G.drop 32).length=32:=by rw [List.length_drop]; omega
  have CQ:(G.take 32).length=32:=by rw [List.length_take]; omega
  obtain ⟨B1,hB1⟩:∃ r:aE,r=.av p1 (bn [BitVec.ofNat 8 s.k]) bh:=⟨_,rfl⟩
  obtain ⟨B2,Kc⟩:∃ r:aE,r=.av p2 [x.v,.slice (some ⟨p1,0,none⟩) 1 1] bJ:=⟨_,rfl⟩
  have H:ak w [] w6.drew.drew [.av p s.cells iq,B1,B2,.row bh 1 g (bn G)]:=by rw [hB1,Kc]; exact H
  clear hB1 Kc FL
  have TM:=yW (eta:=s.e1) (by have:=hG.e1; omega) Kb 0 s.k
  have le2:=yW (eta:=s.e1) (by have:=hG.e1; omega) Kb s.k s.k
  have nl1:=wP s.e1 (G.drop 32) 0 s.k
  have nl2:=wP s.e1 (G.drop 32) s.k s.k
  refine H.an 0 rfl (au p 1) rfl (H.an 0 rfl (au p 0) rfl (H.an 0 rfl (au p 1) rfl (H.an 0 rfl (au p 0) rfl (H.an 0 rfl (au p 0) rfl ?_))))
  refine aB (HN s.e1 zk (G.drop 32) 0 s.k (by omega) (by omega) (by omega) _ (qR _ (H.bytes 3 rfl))) ?_
  rintro _ w7 ⟨y1,rfl,sy⟩
  obtain ⟨f1,H1⟩:=H.iu sy
  refine bW ⟨H.jZ 0 rfl sy.mod 0,H.jZ 0 rfl sy.mod 0,H.jZ 0 rfl sy.mod 1,aB (HO y1 _ (by omega) TM _ (H1.box 4 rfl)) ?_⟩
  rintro _ w8 ⟨y2,rfl,sA⟩
  obtain ⟨f2,H2⟩:=H1.iu sA
  refine bW ⟨H1.jZ 0 rfl sA.mod 0,H1.jZ 0 rfl sA.mod 0,H1.jZ 0 rfl sA.mod 1,aB (HN s.e1 zk (G.drop 32) s.k s.k (by omega) (by omega) (by omega) _ (qR _ (H2.bytes 3 rfl))) ?_⟩
  rintro _ w9 ⟨y3,rfl,F7⟩
  obtain ⟨f3,H3⟩:=H2.iu F7
  refine bW (aB (HO y3 _ (by omega) le2 _ (H3.box 6 rfl)) ?_)
  rintro _ cL ⟨y4,rfl,TN⟩
  obtain ⟨f4,H⟩:=H3.iu TN
  clear H1 H2 H3
  refine bW (H.mP 0 rfl (aB (VT s (by omega) zr (G.take 32) CQ false _ (hr _ (H.bytes 3 rfl))) ?_))
  rintro _ cX ⟨y5,rfl,F8⟩
  obtain ⟨f5,H⟩:=H.iu F8
  have uq:=Sx hG hGl
  have Kg:=anu hG hGl
  have hS:fK cX y2 (sK s G):=H.box 5 rfl
  have hE:fK cX y4 (eK s G):=H.box 7 rfl
  have hM:zR cX y5 (pE (G.take 32) s.k false s.k):=H.box 8 rfl
  have TO:=mC.len hM
  rw [DW] at TO
  have eS:B6 s G=xK (tK s.k (G.take 32) (sK s G) (eK s G)) ++ G.take 32:=by unfold B6; rfl
  have eO:B7 s G=xK (sK s G):=by unfold B7; rfl
  rw [eS,eO]
  clear eS eO
  obtain ⟨SK,hSK⟩:∃ z,z=sK s G:=⟨_,rfl⟩
  rw [← hSK] at hS uq ⊢
  generalize eK s G=EK at *
  refine bW ?_
  have rows:=fun i=>Rb (G.take 32) s.k false i
  obtain ⟨f,hf⟩:∃ f:Nat→List Int,f=fun i=>pL (qG (nk (G.take 32) s.k false i) SK) (EK.getD i []):=⟨_,rfl⟩
  have htK:tK s.k (G.take 32) SK EK=(List.range s.k).map f:=by rw [hf]; rfl
  refine k5 0 s.k (fun i (out:ah) w'=>gZ dS fk cX [] [] w' out ((List.range i).map f)) rfl (by omega) (gZ.start (ak.start cX)) ?_ ?_
  ·intro again i out fR _ hi C aM
   have mi:=C.mod
   rw [Kf] at aM
   have FZ:i<(pE (G.take 32) s.k false s.k).length:=by rw [DW]; exact hi
   refine ite_true (decide_eq_true (by omega)) (mC.ld (hM.aG mi) (i:=i) FZ rfl (d:=[]) fun r iU=>?_)
   rw [WV hi] at iU
   have TP:=mi.trans (Mod.drew [] fR)
   refine (hE.aG TP).ld (i:=i) (by omega) rfl fun e he=>?_
   have iU:=(iU.aG (Mod.drew [] fR):fK fR.drew r _)
   refine aB (HK r y2 _ SK (by rw [(rows i).1,uq.1]) (by rw [(rows i).1]; omega) (by rw [(rows i).1]; omega) (rows i).2 uq.2 _ iU (hS.aG TP)) ?_
   rintro _ fF ⟨q,rfl,hq,jt⟩
   refine bW ⟨(hE.aG TP).kept (by omega) jt,aB (DK q e _ _ (IS _ _ (by rw [(rows i).1,uq.1])) (Kg.2.get (by omega)) _ hq.dD (he.aG jt)) ?_⟩
   rintro _ fX xZ
   obtain ⟨t,rfl,ht⟩:=xZ.aaC
   have C:=(C.frame (Mod.drew [] fR)).frame jt
   have ef:pL (qG (nk (G.take 32) s.k false i) SK) (EK.getD i [])=f i:=by rw [hf]
   rw [ef] at ht
   refine bW (C.add ht BB (by rw [List.length_map,List.length_range]; omega) fun k8 kH C'=>⟨⟨by omega,by omega⟩,aM k8 kH C'⟩)
  ·intro again out fR C
   rw [← htK] at C
   obtain ⟨f6,H⟩:=H.iu (C.boxed.mono fun w h=>IG h)
   have hT:fK fR out (tK s.k (G.take 32) SK EK):=H.box 9 rfl
   refine ite_false (decide_eq_false (by omega)) (aB (Wl out _ (by rw [RT]; omega) (Sy _ _ _ _) _ hT) ?_)
   rintro _ fF ⟨a,rfl,ha,jt⟩
   have H:=H.cB jt ha
   have sx:=(H.bytes 10 rfl).len
   have TQ:=II (Sy s.k (G.take 32) SK EK)
   rw [RT] at TQ
   refine bW (H.vp 10 iJ rfl (hr _ (H.bytes 3 rfl)) (by omega) fun a' fX H _=>?_)
   refine aB (Wl y2 SK (by omega) uq.2 _ (by rw [hSK]; exact H.box 5 rfl)) ?_
   rintro _ kH ⟨b,rfl,hb,vZ⟩
   have H:=H.cB vZ hb
   exact bW ⟨a',b,.nilIface,rfl,(H.drop 10).gD (Mod.refl _ _) (qw _ _)⟩
end Go.Proofs.YtgjoehgomjgckaaGreatDoor
end
section
set_option linter.unusedVariables false
set_option linter.unusedSimpArgs false
namespace Go.Proofs.YtgjoehgomjgckaaGreatDoor
open Go Go.Ev
set_option maxRecDepth 20000
set_option linter.unusedVariables false
theorem XD {k:Nat} {b:List B8} (h:nS 12 k b=true):mF (gC 12 k b):=fun l hl=>by
 unfold nS at h
 rw [decide_eq_true (rfl:12=12),Bool.not_true,Bool.false_or,List.all_eq_true] at h
 exact XA.1 (h l hl)
def yK (s:iF) (r:List B8):List (List Int):=mV (ot s.e1 r 0 s.k)
def nK (s:iF) (r:List B8):List (List Int):=ot s.e2 r s.k (s.k+1)
def cU (s:iF) (cN:List B8) (y n:List (List Int)) (i:Nat):List Int:=pL (qB (qG (nk cN s.k true i) y)) (n.getD i [])
def cV (s:iF) (t y n:List (List Int)) (m:List B8):List Int:=pL (pL (qB (qG t y)) (n.getD s.k [])) (Fo m)
@[irreducible] def Ju (s:iF) (b m r:List B8):List B8:=((List.range s.k).flatMap fun i=>lz s.du (cU s (b.drop (384 * s.k)) (yK s r) (nK s r) i)) ++ lz s.dv (cV s (gC 12 s.k b) (yK s r) (nK s r) m)
def AD (set:Int) (b m r:List B8):Int:=if iH set b=0 then (if m.length=32∧r.length=32 then 0 else 3) else iH set b
@[irreducible] def ur (set:Int) (b m r:List B8):List B8:=if AD set b m r=0 then Ju (dz set) b m r else []
theorem XE {set:Int} {b:List B8} (h:iH set b=0):isSet set=true∧b.length=384 * (dz set).k+32∧nS 12 (dz set).k b=true:=by
 unfold iH at h
 cases cD:isSet set with
 | false=>rw [cD,if_neg (by decide)] at h; exact absurd h (by decide)
 | true=>
  have hA:iG set=384 * (dz set).k+32:=by unfold iG; rw [if_pos cD]
  rw [cD,if_pos rfl] at h
  split at h
  ·split at h
   ·rename_i h1 h2; exact ⟨rfl,by rw [h1,hA],h2⟩
   ·exact absurd h (by decide)
  ·exact absurd h (by decide)
theorem anv {s:iF} (hs:zE s) {r:List B8} (hr:r.length=32):(yK s r).length=s.k∧mF (yK s r):=by
 unfold yK
 exact ⟨by rw [DT,wP],Iy (yW (by have:=hs.e1; omega) hr _ _)⟩
theorem anw {s:iF} (hs:zE s) {r:List B8} (hr:r.length=32):(nK s r).length=s.k+1∧mF (nK s r):=by
 unfold nK
 exact ⟨wP _ _ _ _,yW (by have:=hs.e2; omega) hr _ _⟩
theorem VU (d:Nat) (f:Nat→List Int) (hf:∀ i,Pq (f i)) (n:Nat):((List.range n).flatMap fun i=>lz d (f i)).length=32 * d * n:=by
 induction n with
 | zero=>rfl
 | succ n ih=>rw [List.range_succ,List.flatMap_append,List.length_append,ih]; simp [IX (hf n).len,Nat.mul_succ]
theorem anx (s:iF) (cN:List B8) (y n:List (List Int)) (i:Nat):Pq (cU s cN y n i):=Eh _ _
theorem anz (s:iF) (t y n:List (List Int)) (m:List B8):Pq (cV s t y n m):=Eh _ _
theorem VV (set:Int) (x xm xr:ah) (b m r:List B8) (w:World) (hx:Bytes w x b) (hm:Bytes w xm m) (hr:Bytes w xr r) :
  Ok Pr HU [.int .i64 set,.slice x.a x.n x.c,.slice xm.a xm.n xm.c,.slice xr.a xr.n xr.c] w fun v w'=>jC bh 1 w w' v (bn (ur set b m r)) (AD set b m r):=by
 refine ago ?_
 unfold P5
 rw [wY]
 have bV:=hx.len
 have Tt:=hm.len
 have CQ:=hr.len
 have hC:AD set b m r=if iH set b=0 then (if m.length=32∧r.length=32 then 0 else 3) else iH set b:=rfl
 have hV:ur set b m r=if AD set b m r=0 then Ju (dz set) b m r else []:=by unfold ur; rfl
 generalize AD set b m r=C at *
 generalize ur set b m r=V at *
 refine aB (Wm set x b w hx) ?_
 rintro e w1 ⟨he,m1⟩
 by_cases h0:iH set b=0
 case neg=>
  rw [if_neg h0] at hC
  rw [hC,if_neg h0] at hV
  subst hV
  rw [hC]
  refine he.1.isNil (ite_true (by rw [decide_eq_false h0]; rfl) (jC.no he m1))
 obtain ⟨cD,jO,dV⟩:=XE h0
 have hG:=mZ cD
 have hk:=hG.k
 rw [if_pos h0] at hC
 refine he.1.isNil (ite_false (by rw [decide_eq_true h0]; rfl) ?_)
 by_cases kG:m.length=32∧r.length=32
 case neg=>
  rw [if_neg kG] at hC
  rw [hC,if_neg (by decide)] at hV
  subst hV
  rw [hC]
  refine ite_true ?_ (aB (A6 3 (by decide) w1) ?_)
  ·by_cases h:m.length=32
   ·rw [decide_eq_false (show ¬ ((xr.n:Nat):Int)=32 by omega),Bool.not_false,Bool.or_true]
   ·rw [decide_eq_false (show ¬ ((xm.n:Nat):Int)=32 by omega)]; rfl
  ·rintro e2 w2 ⟨h2,m2⟩
   exact jC.no ⟨h2.1,fun b hb=>by have:=h2.2 b hb; have:=m1.size; omega⟩ (m1.trans m2)
 rw [if_pos kG] at hC
 rw [hC,if_pos rfl] at hV
 subst hV
 rw [hC]
 clear hC
 obtain ⟨kG,zT⟩:=kG
 refine ite_false (by rw [decide_eq_true (show ((xr.n:Nat):Int)=32 by omega),decide_eq_true (show ((xm.n:Nat):Int)=32 by omega)]; rfl) (aB (yV set w1) ?_)
 rintro _ w2 ⟨rfl,m2⟩
 have H:=(ak.start w).frame (m1.trans m2)
 rw [cD]
 generalize dz set=s at *
 refine ⟨_,rfl,zo ⟨_,rfl,rfl,H.nw fun p w3 H _=>H.jh 0 rfl rfl fun w5 H=>?_⟩⟩
 have H:ak w [] w5 [.av p s.cells iq]:=H
 refine H.an 0 rfl (au p 0) rfl (aB (HL 12 s.k (by omega) (by omega) (by omega) x b (by omega) (by omega) _ (hx.aG H.mod)) ?_)
 rintro _ w6 (⟨_,yt,rfl,TR⟩ | ⟨dx,_⟩)
 case inr=>rw [dx] at dV; cases dV
 obtain ⟨f0,H⟩:=H.iu TR.box
 have H:=H.drew
 have TM:=yW (eta:=s.e1) (by have:=hG.e1; omega) zT 0 s.k
 have nl1:=wP s.e1 r 0 s.k
 refine ⟨_,rfl,_,rfl,_,rfl,rfl,H.an 0 rfl (au p 1) rfl (H.an 0 rfl (au p 0) rfl (H.an 0 rfl (au p 2) rfl (H.an 0 rfl (au p 0) rfl (H.an 0 rfl (au p 0) rfl ⟨⟨by omega,by omega⟩,?_⟩))))⟩
 refine aB (HN s.e1 xr r 0 s.k (by omega) (by omega) (by omega) _ (hr.aG H.mod)) ?_
 rintro _ w7 ⟨y1,rfl,sy⟩
 obtain ⟨f1,H1⟩:=H.iu sy
 refine bW ⟨H.jZ 0 rfl sy.mod 0,H.jZ 0 rfl sy.mod 0,H.jZ 0 rfl sy.mod 2,aB (HO y1 _ (by omega) TM _ (H1.box 2 rfl)) ?_⟩
 rintro _ w8 ⟨y2,rfl,sA⟩
 obtain ⟨f2,H2⟩:=H1.iu sA
 refine bW ⟨H1.jZ 0 rfl sA.mod 0,H1.jZ 0 rfl sA.mod 0,H1.jZ 0 rfl sA.mod 2,?_⟩
 rw [show (s.k:Int)+1=((s.k+1:Nat):Int) by omega]
 refine aB (HN s.e2 xr r s.k (s.k+1) (by omega) (by omega) (by omega) _ (hr.aG H2.mod)) ?_
 rintro _ w9 ⟨y3,rfl,F7⟩
 obtain ⟨f3,H⟩:=H2.iu F7
 clear H1 H2
 have H:=H.drew
 refine bW (H.mP 0 rfl (H.an 0 rfl (au p 0) rfl ⟨⟨by omega,by omega⟩,zn (384 * s.k) (by omega) (by omega) fun zr hzr kr=>?_⟩))
 have kr:=fun w' h=>kr w' b h (by omega)
 have aon:(b.drop (384 * s.k)).length=32:=by rw [List.length_drop]; omega
 refine aB (VT s (by omega) zr (b.drop (384 * s.k)) aon true _ (kr _ (hx.aG H.mod))) ?_
 rintro _ cL ⟨y5,rfl,F8⟩
 obtain ⟨f5,H⟩:=H.iu F8
 have uq:=anv hG zT
 have Kg:=anw hG zT
 have JK:=XD dV
 have lT:=QJ 12 s.k b
 have hT:fK cL yt (gC 12 s.k b):=H.box 1 rfl
 have hS:fK cL y2 (yK s r):=H.box 3 rfl
 have hE:fK cL y3 (nK s r):=H.box 4 rfl
 have hM:zR cL y5 (pE (b.drop (384 * s.k)) s.k true s.k):=H.box 5 rfl
 have TO:=mC.len hM
 rw [DW] at TO
 have eC:Ju s b m r=((List.range s.k).flatMap fun i=>lz s.du (cU s (b.drop (384 * s.k)) (yK s r) (nK s r) i)) ++ lz s.dv (cV s (gC 12 s.k b) (yK s r) (nK s r) m):=by unfold Ju; rfl
 rw [eC]
 clear eC
 have H:ak w [] cL [.av p s.cells iq,.box f0 fun w=>fK w yt (gC 12 s.k b),.box f1 fun w=>fK w y1 (ot s.e1 r 0 s.k),.box f2 fun w=>fK w y2 (yK s r),.box f3 fun w=>fK w y3 (nK s r),.box f5 fun w=>zR w y5 (pE (b.drop (384 * s.k)) s.k true s.k)]:=H
 generalize ot s.e1 r 0 s.k=L1 at *
 generalize yK s r=Y at *
 generalize nK s r=N at *
 generalize b.drop (384 * s.k)=cN at *
 generalize gC 12 s.k b=T at *
 have rows:=fun i=>Rb cN s.k true i
 have hdu:=hG.du
 have hdv:=hG.dv
 refine bW ?_
 obtain ⟨f,hf⟩:∃ f:Nat→List Int,f=cU s cN Y N:=⟨_,rfl⟩
 rw [← hf]
 have Kh:∀ i,Pq (f i):=fun i=>by rw [hf]; exact anx _ _ _ _ _
 refine k5 0 s.k (fun i (out:ah) w'=>ak cL [] w' [.row bh 1 out (bn ((List.range i).flatMap fun i=>lz s.du (f i)))]) rfl (by omega) (by simpa [bn] using (ak.start cL).jk bh 1) ?_ ?_
 ·intro again i out cX _ hi D aM
  have hs:((List.range (i+1)).flatMap fun i=>lz s.du (f i))=((List.range i).flatMap fun i=>lz s.du (f i)) ++ lz s.du (f i):=by rw [List.range_succ,List.flatMap_append]; simp
  rw [hs] at aM
  have hlen:=VU s.du f Kh i
  have anA:32 * s.du * i≤32 * 11 * 4:=Nat.mul_le_mul (by omega) (by omega)
  have sx:=(D.bytes 0 rfl).len
  generalize ((List.range i).flatMap fun i=>lz s.du (f i))=A at *
  have FZ:i<(pE cN s.k true s.k).length:=by rw [DW]; exact hi
  have m0:=D.mod
  have Hw:=(H.frame D.mod).drew
  have D:=D.drew
  have mi:=D.mod
  refine ite_true (decide_eq_true (by omega)) (mC.ld (hM.aG m0) (i:=i) FZ rfl (d:=[]) fun q iU=>?_)
  rw [WV hi] at iU
  refine Hw.an 0 rfl (au p 3) rfl ((hE.aG mi).ld (i:=i) (by omega) rfl fun e he=>?_)
  have iU:=(iU.aG (Mod.drew [] cX):fK cX.drew q _)
  refine aB (HK q y2 _ Y (by rw [(rows i).1,uq.1]) (by rw [(rows i).1]; omega) (by rw [(rows i).1]; omega) (rows i).2 uq.2 _ iU (hS.aG mi)) ?_
  rintro _ fR ⟨d1,rfl,qQ,kI⟩
  have D:=D.cB kI qQ
  have Hx:=Hw.frame kI
  refine bW ⟨(hE.aG mi).kept (by omega) kI,Hw.jZ 0 rfl kI 3,aB (N0 d1 _ (IS _ _ (by rw [(rows i).1,uq.1])) _ qQ.dD) ?_⟩
  rintro _ fF ⟨d2,rfl,sv,jt⟩
  have D:=D.cB jt sv
  have Hy:=Hx.frame jt
  refine bW ⟨(hE.aG (mi.trans kI)).kept (by omega) jt,Hx.jZ 0 rfl jt 3,aB (DK d2 e _ _ (Q6 _) (Kg.2.get (by omega)) _ sv.dD (he.aG (kI.trans jt))) ?_⟩
  rintro _ fX ⟨d3,rfl,v9,qh⟩
  have D:=D.cB qh v9
  have ef:pL (qB (qG (nk cN s.k true i) Y)) (N.getD i [])=f i:=by rw [hf]; rfl
  rw [ef] at v9
  refine bW ⟨Hy.jZ 0 rfl qh 3,aB (M8 s.du (by omega) (by omega) d3 (f i) (Kh i).len _ v9.dD) ?_⟩
  rintro _ kH ⟨z,rfl,hz,vZ⟩
  have D:=D.cB vZ hz
  have pZ:=hz.bytes.len
  have dP:=IX (d:=s.du) (Kh i).len
  exact bW (D.vp 0 iJ rfl hz.bytes (by omega) fun o' kJ D _=>⟨⟨by omega,by omega⟩,aM o' kJ D.front⟩)
 ·intro again out cX D
  have hlen:=VU s.du f Kh s.k
  have anA:32 * s.du * s.k≤32 * 11 * 4:=Nat.mul_le_mul (by omega) (by omega)
  have sx:=(D.bytes 0 rfl).len
  generalize ((List.range s.k).flatMap fun i=>lz s.du (f i))=A at *
  have H:=(H.join D).drew
  have mi:=(D.drew).mod
  refine ite_false (decide_eq_false (by omega)) (H.an 0 rfl (au p 0) rfl ((hE.aG mi).ld (i:=s.k) (by omega) rfl fun e he=>aB (HK yt y2 T Y (by omega) (by omega) (by omega) JK uq.2 _ (hT.aG mi) (hS.aG mi)) ?_))
  rintro _ fR ⟨d1,rfl,qQ,kI⟩
  have H1:=H.cB kI qQ
  refine bW ⟨(hE.aG mi).kept (by omega) kI,H.jZ 0 rfl kI 0,aB (N0 d1 _ (IS _ _ (by omega)) _ qQ.dD) ?_⟩
  rintro _ fF ⟨d2,rfl,sv,jt⟩
  have H2:=H1.cB jt sv
  refine bW ⟨(hE.aG (mi.trans kI)).kept (by omega) jt,H1.jZ 0 rfl jt 0,aB (DK d2 e _ _ (Q6 _) (Kg.2.get (by omega)) _ sv.dD (he.aG (kI.trans jt))) ?_⟩
  rintro _ fX ⟨d3,rfl,v9,qh⟩
  have H:=H2.cB qh v9
  refine bW (aB (afp xm m kG _ (hm.aG H.mod)) ?_)
  rintro _ kH ⟨d4,rfl,hd4,vZ⟩
  have H:=H.cB vZ hd4
  refine bW (aB (DK d3 d4 _ _ (Eh _ _) (ala kG) _ (H.dD 9 rfl) hd4.dD) ?_)
  rintro _ kJ ⟨d5,rfl,TS,m16⟩
  have H:=H.cB m16 TS
  change Own kJ kH.heap.size bD 1 d5 (cu (cV s T Y N m)) at TS
  have pV:Pq (cV s T Y N m):=anz _ _ _ _ _
  refine bW (H.an 0 rfl (au p 4) rfl (aB (M8 s.dv (by omega) (by omega) d5 _ pV.len _ TS.dD) ?_))
  rintro _ sB ⟨z,rfl,hz,TT⟩
  have H:=H.cB TT hz
  have pZ:=hz.bytes.len
  have dP:=IX (d:=s.dv) pV.len
  refine bW (H.vp 6 iJ rfl hz.bytes (by omega) fun o' j8 H _=>?_)
  exact jC.yes (H.fN 6 rfl) H.mod
def we (set:Int) (b c:List B8):Int:=if isSet set=true then (if b.length=js set∧c.length=nR set then (if nS 12 (dz set).k b=true then 0 else 4) else 3) else 2
def EL (s:iF) (b c:List B8):List Int:=JJ ((rP s.dv 1 (c.drop (32 * s.du * s.k))).getD 0 []) (qB (qG (gC 12 s.k b) (mV (rP s.du s.k c))))
@[irreducible] def B9 (s:iF) (b c:List B8):List B8:=lz 1 (EL s b c)
@[irreducible] def AE (set:Int) (b c:List B8):List B8:=if we set b c=0 then B9 (dz set) b c else []
theorem ai9 (s:iF) (b c:List B8):(B9 s b c).length=32:=by
 unfold B9; rw [IX (show (EL s b c).length=256 from (Yv _ _).len)]
theorem ahG (set:Int) (x xc:ah) (b c:List B8) (w:World) (hx:Bytes w x b) (hc:Bytes w xc c) :
  Ok Pr PE [.int .i64 set,.slice x.a x.n x.c,.slice xc.a xc.n xc.c] w fun v w'=>jC bh 1 w w' v (bn (AE set b c)) (we set b c):=by
 refine agn ?_
 unfold P4
 rw [wY]
 have bV:=hx.len
 have Ki:=hc.len
 have hC:we set b c=if isSet set=true then (if b.length=js set∧c.length=nR set then (if nS 12 (dz set).k b=true then 0 else 4) else 3) else 2:=rfl
 have hV:AE set b c=if we set b c=0 then B9 (dz set) b c else []:=by unfold AE; rfl
 have hB:js set=384 * (dz set).k:=rfl
 have hZ:nR set=32 * ((dz set).du * (dz set).k+(dz set).dv):=rfl
 have TL:=fun h:isSet set=true=>mZ h
 have jQ:=HB set
 generalize we set b c=C at *
 generalize AE set b c=V at *
 generalize js set=B at *
 generalize nR set=Z at *
 refine aB (yV set w) ?_
 rintro _ w1 ⟨rfl,m1⟩
 have H:=(ak.start w).frame m1
 generalize dz set=s at *
 refine ⟨_,rfl,zo ⟨_,rfl,rfl,H.nw fun p w2 H _=>H.jh 0 rfl rfl fun w3 H=>?_⟩⟩
 have H:ak w [] w3 [.av p s.cells iq]:=H
 have no:∀ {L:List aE} {w4:World} (e:Int),ak w [] w4 L→e≠0→C=e→az Pr oW [.int .i64 e] w4 fun v w5=>jC bh 1 w w5 (.tuple ⟨[.slice none 0 0,v]⟩) (bn V) C:=by
  intro L w4 e H he hCe
  rw [hCe,if_neg he] at hV
  subst hV
  rw [hCe]
  refine aB (A6 e he w4) ?_
  rintro v w5 ⟨h,m⟩
  exact jC.no ⟨h.1,fun b hb=>by have:=h.2 b hb; have:=H.mod.size; omega⟩ (H.mod.trans m)
 cases cD:isSet set with
 | false=>
  rw [cD,if_neg (by decide)] at hC
  exact ite_true rfl (no 2 H (by decide) hC)
 | true=>
  rw [cD,if_pos rfl] at hC
  have hG:=TL cD
  have hk:=hG.k
  have hdu:=hG.du
  have hdv:=hG.dv
  refine ite_false rfl (aB (jQ w3) ?_)
  rintro _ w5 ⟨rfl,m5⟩
  have H:=H.frame m5
  refine ⟨_,rfl,_,rfl,_,rfl,_,rfl,rfl,?_⟩
  by_cases hn:b.length=B∧c.length=Z
  case neg=>
   rw [if_neg hn] at hC
   refine ite_true ?_ (no 3 H (by decide) hC)
   by_cases h:b.length=B
   ·rw [decide_eq_false (show ¬ ((xc.n:Nat):Int)=((Z:Nat):Int) by omega),Bool.not_false,Bool.or_true]
   ·rw [decide_eq_false (show ¬ ((x.n:Nat):Int)=((B:Nat):Int) by omega)]; rfl
  rw [if_pos hn] at hC
  obtain ⟨hn,tX⟩:=hn
  have hdk:s.du * s.k≤11 * 4:=Nat.mul_le_mul (by omega) hk.2
  refine ite_false (by rw [decide_eq_true (show ((xc.n:Nat):Int)=((Z:Nat):Int) by omega),decide_eq_true (show ((x.n:Nat):Int)=((B:Nat):Int) by omega)]; rfl) (H.an 0 rfl (au p 0) rfl (aB (HL 12 s.k (by omega) (by omega) (by omega) x b (by omega) (by omega) _ (hx.aG H.mod)) ?_))
  rintro _ w7 (⟨dV,yt,rfl,TR⟩ | ⟨dx,rfl,m7⟩)
  case inr=>
   rw [dx,if_neg (by decide)] at hC
   exact ⟨_,rfl,⟨none,0,0⟩,rfl,_,rfl,rfl,ite_true rfl (no 4 (H.frame m7) (by decide) hC)⟩
  rw [if_pos dV] at hC
  rw [hC,if_pos rfl] at hV
  subst hV
  rw [hC]
  clear hC no
  obtain ⟨f0,H⟩:=H.iu TR.box
  have e1:32 * (s.du:Int) * (s.k:Int)=((32 * s.du * s.k:Nat):Int):=by simp only [Int.natCast_mul]; rfl
  have e2:32 * s.du * s.k=32 * (s.du * s.k):=Nat.mul_assoc _ _ _
  refine ⟨_,rfl,_,rfl,_,rfl,rfl,ite_false rfl (H.an 0 rfl (au p 3) rfl ⟨⟨by omega,by omega⟩,H.an 0 rfl (au p 0) rfl ?_⟩)⟩
  rw [e1]
  have H:=H.drew
  refine ⟨⟨by omega,by omega⟩,H.an 0 rfl (au p 3) rfl (H.an 0 rfl (au p 0) rfl (H.an 0 rfl (au p 4) rfl (zn (32 * s.du * s.k) rfl (by omega) fun zc pY kc=>?_)))⟩
  have kc:=fun w' h=>kc w' c h (by omega)
  have Kj:(c.drop (32 * s.du * s.k)).length=32 * s.dv:=by rw [List.length_drop]; omega
  refine aB (U2 s.du s.k (by omega) (by omega) (by omega) xc c (by omega) (by omega) _ (hc.aG H.mod)) ?_
  rintro _ w9 ⟨yu,rfl,hyu⟩
  obtain ⟨f1,H1⟩:=H.iu hyu
  have pu:=YC (d:=s.du) (many:=s.k) (by omega) (by omega) (b:=c) (by omega)
  have pv:=YC (d:=s.dv) (many:=1) (by omega) (by omega) (b:=c.drop (32 * s.du * s.k)) (by omega)
  have lu:=Ra s.du s.k c
  have lv:=Ra s.dv 1 (c.drop (32 * s.du * s.k))
  refine bW ⟨H.jZ 0 rfl hyu.mod 4,aB (U2 s.dv 1 (by omega) (by omega) (by omega) zc _ (by omega) (by omega) _ (kc _ (hc.aG H1.mod))) ?_⟩
  rintro _ cL ⟨yv,rfl,hyv⟩
  obtain ⟨f2,H⟩:=H1.iu hyv
  have H:=H.drew
  have JK:=XD dV
  have lT:=QJ 12 s.k b
  have eC:B9 s b c=lz 1 (EL s b c):=by unfold B9; rfl
  have eW:EL s b c=JJ ((rP s.dv 1 (c.drop (32 * s.du * s.k))).getD 0 []) (qB (qG (gC 12 s.k b) (mV (rP s.du s.k c)))):=rfl
  rw [eC]
  clear eC
  generalize rP s.dv 1 (c.drop (32 * s.du * s.k))=SV at *
  generalize rP s.du s.k c=SU at *
  generalize gC 12 s.k b=T at *
  have hV:fK cL.drew yv SV:=H.box 3 rfl
  refine bW (hV.ld (i:=0) (by omega) rfl fun v0 hv0=>aB (HO yu SU (by omega) pu _ (H.box 2 rfl)) ?_)
  rintro _ cX ⟨yo,rfl,F9⟩
  obtain ⟨f3,H⟩:=H.iu F9
  have lo:=DT SU
  refine bW ⟨hV.kept (i:=0) (by omega) F9.mod,aB (HK yt yo T (mV SU) (by omega) (by omega) (by omega) JK (Iy pu) _ (H.box 1 rfl) (H.box 4 rfl)) ?_⟩
  rintro _ fR ⟨d1,rfl,qQ,kI⟩
  have H:=H.cB kI qQ
  refine bW ⟨(hV.aG F9.mod).kept (i:=0) (by omega) kI,aB (N0 d1 _ (IS _ _ (by omega)) _ qQ.dD) ?_⟩
  rintro _ fF ⟨d2,rfl,sv,jt⟩
  have H:=H.cB jt sv
  have mm:=F9.mod.trans (kI.trans jt)
  refine bW ⟨(hV.aG (F9.mod.trans kI)).kept (i:=0) (by omega) jt,aB (ahy v0 d2 _ _ (pv.get (by omega)) (Q6 _) _ (hv0.aG mm) sv.dD) ?_⟩
  rintro _ fX ⟨d3,rfl,v9,qh⟩
  have H:=H.cB qh v9
  rw [← eW] at v9
  have pW:Pq (EL s b c):=Yv _ _
  refine bW (aB (M8 1 (by omega) (by omega) d3 _ pW.len _ v9.dD) ?_)
  rintro _ kH ⟨z,rfl,hz,vZ⟩
  have H:=H.cB vZ hz
  exact bW (jC.yes (H.fN 8 rfl) H.mod)
end Go.Proofs.YtgjoehgomjgckaaGreatDoor
end
section
set_option linter.unusedVariables false
set_option linter.unusedSimpArgs false
namespace Go.Ev
open Go Go.RowKit
theorem Own.shrink {w:World} {lo:Nat} {e:TypeId} {sz:Nat} {s:ah} {vs:List Value} (h:Own w lo e sz s vs) (k:Nat) (hk:k≤s.n):Own w lo e sz ⟨s.a,k,s.c⟩ (vs.take (k * sz)):=by
 obtain ⟨a,n,c⟩:=s
 obtain ⟨hl,h1 | ⟨g,cap,cur,h1,h2,h3,h4,h5,h6,h7⟩⟩:=h
 ·obtain ⟨h1,h2⟩:=h1
  simp only [ah.v,Value.slice.injEq] at h1
  obtain ⟨rfl,rfl,rfl⟩:=h1
  have hk0:k=0:=by simpa using hk
  subst hk0
  rw [Nat.zero_mul,List.take_zero]
  exact Own.nil w lo e sz
 ·simp only [ah.v,Value.slice.injEq] at h1
  obtain ⟨rfl,hn,rfl⟩:=h1
  have fE:k≤n:=hk
  refine ⟨?_,.inr ⟨g,c,cur,rfl,h2,h3,Nat.le_trans fE h4,h5,h6,?_⟩⟩
  ·rw [List.length_take,hl]
   exact Nat.min_eq_left (Nat.mul_le_mul_right _ fE)
  ·rw [← h7,List.take_take]
   congr 1
   exact (Nat.min_eq_left (Nat.mul_le_mul_right _ fE)).symm
end Go.Ev
namespace Go.Proofs.YtgjoehgomjgckaaGreatDoor
open Go Go.Ev
set_option maxRecDepth 20000
set_option linter.unusedVariables false
theorem acP {A:Type} (ls:List (List A)) (i:Nat) (h:i<ls.length):(ls.take (i+1)).flatten.length=(ls.take i).flatten.length+(ls.getD i []).length:=by
 rw [kW _ _ h [],List.flatten_append,List.length_append]; simp
theorem WW {A:Type} {l:List (List A)} {i:Nat} (hi:i<l.length):l.getD i []∈l:=by
 rw [List.getD_eq_getElem?_getD,List.getElem?_eq_getElem hi]; exact List.getElem_mem hi
theorem YD:fh Pr bJ bh 1 1:=.of (by kernel_rfl)
theorem aj4:Pr.underlying bD=some (.int .i64):=by kernel_rfl
theorem aco (n:Nat) (hn:n≤1000000) (w:World):Ok Pr KS [.slice none 0 0,.int .i64 (n:Int)] w fun v w'=>∃ y:ah,v=.slice y.a y.n y.c∧Own w' w.heap.size bh 1 y []∧Mod [] w w':=by
 refine acg (s:=⟨none,0,0⟩) ?_
 unfold KU
 refine jV fun go bY=>ite_false (decide_eq_false (by omega)) (bY w ⟨⟨by decide,by decide⟩,⟨by show _≤(n:Int) - (0 - 0); omega,by show (n:Int) - (0 - 0)≤_; omega⟩,pn ?_⟩)
 refine bU (fun hc=>?_) (fun hc=>?_)
 ·refine ⟨⟨by decide,by decide⟩,?_⟩
  have H:=(ak.start w).jk bh 1
  refine H.anl (s:=⟨none,0,0⟩) (q:=.i64) (m:=n) (v:=.int .u8 0) (vs:=[]) 0 YD aj4 (by kernel_rfl) rfl rfl (by show (n:Int) - (0 - 0)=n; omega) (by show (0+n) * 1≤_; omega) (by show 0+n≤_; omega) fun y w2 H2 hy=>?_
  refine ⟨⟨by decide,by show (0:Int)≤(y.c:Int); omega⟩,⟨y.a,0,y.c⟩,rfl,?_,H2.mod⟩
  have:=(H2.fN 0 rfl).shrink 0 (Nat.zero_le _)
  simpa using this
 ·exact ⟨⟨none,0,0⟩,rfl,Own.nil _ _ _ _,Mod.refl _ _⟩
theorem ach (x:ah) (ls:List (List B8)) (hl:ls.length≤1000) (F5:∀ i,(ls.take i).flatten.length≤1000000) (hb:∀ l∈ls,l.length≤1000000) (w:World) (hx:e8 w [] x ls):Ok Pr KM [.slice x.a x.n x.c] w fun v w'=>nC w w' v ls.flatten:=by
 refine ab9 ?_
 unfold KO
 have bV:=hx.len
 refine k5 0 ls.length (fun i (s:Int) w'=>s=((ls.take i).flatten.length:Int)∧w'=w) rfl (by omega) ⟨rfl,rfl⟩ ?_ ?_
 ·rintro again i _ w1 _ hi ⟨rfl,hw⟩ aM
  subst hw
  refine ite_true (decide_eq_true (by omega)) (hx.ld hi fun y hy _=>?_)
  have kS:=hy.len
  have h1:=F5 i
  have h2:=hb _ (WW hi)
  have h3:=acP ls i hi
  exact ⟨⟨by omega,by omega⟩,ite_false (decide_eq_false (by omega)) ⟨⟨by omega,by omega⟩,aM _ _ ⟨by omega,rfl⟩⟩⟩
 ·rintro again _ w1 ⟨rfl,hw⟩
  subst hw
  rw [List.take_of_length_le (Nat.le_refl _)]
  have h1:=F5 ls.length
  rw [List.take_of_length_le (Nat.le_refl _)] at h1
  refine ite_false (decide_eq_false (by omega)) (aB (aco _ (by omega) _) ?_)
  rintro _ w2 ⟨y,rfl,hy,m2⟩
  have H:=(ak.start w1).cB m2 hy
  refine bW ?_
  refine k5 0 ls.length (fun i (s:ah) w'=>ak w1 [] w' [.row bh 1 s (bn (ls.take i).flatten)]) rfl (by omega) H ?_ ?_
  ·intro mh i s w3 _ hi H aM
   have dP:=(H.bytes 0 rfl).len
   refine ite_true (decide_eq_true (by omega)) ((hx.mod H.mod).ld hi fun z hz _=>?_)
   have pZ:=hz.len
   have h2:=F5 i
   have h3:=hb _ (WW hi)
   refine H.vp 0 YD rfl hz (by omega) fun s' w4 H _=>⟨⟨by omega,by omega⟩,aM s' w4 ?_⟩
   rw [kW _ _ hi [],List.flatten_append]
   simpa using H
  ·intro mh s w3 H
   rw [List.take_of_length_le (Nat.le_refl _)] at H
   exact ite_false (decide_eq_false (by omega)) ⟨s,rfl,H.fN 0 rfl,H.mod⟩
end Go.Proofs.YtgjoehgomjgckaaGreatDoor
end
section
set_option linter.unusedVariables false
set_option linter.unusedSimpArgs false
namespace Go.Ev
open Go Go.RowKit
set_option linter.unusedVariables false
def Cut (w:World) (y:ah) (l:List B8):Prop:=(y=⟨none,0,0⟩∧l=[])∨∃ g cur t,y.a=some ⟨g,0,none⟩∧bX w g cur t∧y.n=l.length∧y.n≤y.c∧(y.c≤maxLen∧t=Go.Proofs.YtgjoehgomjgckaaGreatDoor.bh∧(y.c=y.n∧y.c≤cur.length∨y.c=cur.length))∧cur.take y.n=bn l
theorem Cut.bytes {w:World} {y:ah} {l:List B8} (h:Cut w y l):Bytes w y l:=by
 rcases h with ⟨rfl,rfl⟩ | ⟨g,cur,t,h1,h2,h3,h4,h5,h6⟩
 ·exact Sl.nil w 1
 ·refine ⟨by rw [yN]; omega,h4,fun _=>by rw [h1]; rfl,fun i v hv=>?_⟩
  show w.cell? (Addr.add (base y.a) i)=some v
  rw [h1]
  show w.cell? (Addr.add ⟨g,0,none⟩ i)=some v
  rw [tw,Nat.zero_add,h2.cell]
  rw [← h6,List.getElem?_take] at hv
  split at hv
  ·exact hv
  ·cases hv
def aE.cut (y:ah) (l:List B8):aE where
 fp:=y.row
 ok w:=Cut w y l
 kC w w' h k:=by
  rcases k with k | ⟨g,cur,t,h1,h2,h3⟩
  ·exact .inl k
  ·exact .inr ⟨g,cur,t,h1,(h g (by simp [ah.row,h1])).trans h2,h3⟩
 lt w h b hb:=by
  rcases h with ⟨rfl,_⟩ | ⟨g,cur,t,h1,h2,_⟩
  ·simp [ah.row] at hb
  ·simp only [ah.row,h1,List.mem_singleton] at hb
   subst hb
   exact h2.lt
theorem ak.Zy {w0 w:World} {S:List Nat} {L:List aE} (H:ak w0 S w L) (k:Nat) {y:ah} {l:List B8} (hk:L[k]? = some (.row Go.Proofs.YtgjoehgomjgckaaGreatDoor.bh 1 y (bn l))) (n:Nat) (hn:0<n) (Tn:n≤l.length):ak w0 S w (L.set k (.cut ⟨y.a,n,n⟩ (l.take n))):=by
 refine H.less k hk ?_ (fun b hb=>hb)
 obtain ⟨hl,h1 | ⟨g,cap,cur,h1,h2,h3,h4,h5,h6,h7⟩⟩:=H.ok k _ hk
 ·have:=h1.2
  rw [this,yN] at hl
  omega
 ·simp only [ah.v,Value.slice.injEq] at h1
  rw [yN] at hl
  have hy:y.a=some ⟨g,0,none⟩:=h1.1
  refine .inr ⟨g,cur.toList,Go.Proofs.YtgjoehgomjgckaaGreatDoor.bh,hy,h3,?_,Nat.le_refl _,⟨by show n≤_; omega,rfl,.inl ⟨rfl,by show n≤cur.toList.length; rw [Array.length_toList]; omega⟩⟩,?_⟩
  ·show n=_
   rw [List.length_take]; omega
  ·show cur.toList.take n=_
   rw [← IF,← h7,List.take_take,Nat.min_eq_left (by omega)]
theorem ak.Ey {w0 w:World} {S:List Nat} {L:List aE} (H:ak w0 S w L) (k:Nat) {y:ah} {l:List B8} (hk:L[k]? = some (.row Go.Proofs.YtgjoehgomjgckaaGreatDoor.bh 1 y (bn l))):ak w0 S w (L.set k (.cut y l)):=by
 refine H.less k hk ?_ (fun b hb=>hb)
 obtain ⟨hl,h1 | ⟨g,cap,cur,h1,h2,h3,h4,h5,h6,h7⟩⟩:=H.ok k _ hk
 ·obtain ⟨h1,h2⟩:=h1
  rw [h2,yN] at hl
  obtain ⟨a,n,c⟩:=y
  simp only [ah.v,Value.slice.injEq] at h1
  obtain ⟨rfl,rfl,rfl⟩:=h1
  exact .inl ⟨rfl,List.length_eq_zero_iff.1 (by omega)⟩
 ·simp only [ah.v,Value.slice.injEq] at h1
  rw [yN,Nat.mul_one] at hl
  have hy:y.a=some ⟨g,0,none⟩:=h1.1
  refine .inr ⟨g,cur.toList,Go.Proofs.YtgjoehgomjgckaaGreatDoor.bh,hy,h3,hl.symm,by rw [h1.2.2]; exact h4,⟨by rw [h1.2.2]; exact h5,rfl,.inr (by rw [h1.2.2,Array.length_toList]; omega)⟩,?_⟩
  rw [← h7,Nat.mul_one]
end Go.Ev
namespace Go.Proofs.YtgjoehgomjgckaaGreatDoor
open Go Go.Ev
set_option maxRecDepth 20000
set_option linter.unusedVariables false
theorem A7 (e:Value) (c d:Int) (w:World) (h:fZ w e c):Ok Pr A9 [e,.iface qq (.int .i64 d)] w fun v w'=>v=.bool (decide (c=d) && !decide (c=0))∧w'=w:=by
 rcases h with ⟨rfl,rfl⟩ | ⟨b,s,rfl,hb,hc⟩
 ·refine Calls.mono (ahS d w) ?_
  rintro _ _ ⟨rfl,rfl⟩
  exact ⟨_,rfl,by simp,rfl⟩
 ·have nh:w.cell? ⟨b,0,none⟩=some (.int .i64 c):=by rw [hb.cell]; rfl
  by_cases vH:c=d
  ·subst vH
   refine Calls.mono (X1 b c w nh) ?_
   rintro _ _ ⟨rfl,rfl⟩
   exact ⟨_,rfl,by simp [hc],rfl⟩
  ·refine Calls.mono (ahi b c d vH w nh) ?_
   rintro _ _ ⟨rfl,rfl⟩
   exact ⟨_,rfl,by simp [vH],rfl⟩
theorem DA (c:Int) (hc:c≠0) (w:World):Ok Pr mM [.int .i64 c] w fun v w'=>cO w w' v c∧Mod [] w w':=by
 refine afk ?_
 unfold O7
 exact qv fun b w' hb h1 h2 _=>⟨cO.mk h1 (by omega) hc,h2⟩
theorem BG {w w1 w2:World} {e:Value} {c:Int} (h:cO w1 w2 e c) (m:Mod [] w w1):cO w w2 e c:=⟨h.1,fun b hb=>by
 have:=h.2 b hb
 have:=m.size
 omega⟩
def oN (set:Int):Nat:=if isSet set=true then iG set+js set+64 else 0
theorem AF {set:Int} (h:isSet set=true):iG set=384 * (dz set).k+32∧js set=384 * (dz set).k∧oN set=768 * (dz set).k+96∧nR set=32 * ((dz set).du * (dz set).k+(dz set).dv):=by
 have hA:iG set=384 * (dz set).k+32:=by unfold iG; rw [if_pos h]
 have hB:js set=384 * (dz set).k:=rfl
 refine ⟨hA,hB,?_,rfl⟩
 unfold oN
 rw [if_pos h,hA,hB]; omega
theorem szN {set:Int} (h:isSet set=false):iG set=0∧js set=0∧oN set=0∧nR set=0:=by
 have hk:=noK h
 refine ⟨by unfold iG; rw [h]; rfl,by unfold js; simp [hk],by unfold oN; rw [h]; rfl,by unfold nR; simp [hk]⟩
theorem VE (set:Int) (w:World):Ok Pr HE [.int .i64 set] w fun v w'=>v=.tuple ⟨[.int .i64 (iG set:Int),.int .i64 (oN set:Int),.int .i64 (nR set:Int)]⟩∧Mod [] w w':=by
 refine afj ?_
 unfold O6
 refine aB (HB set w) ?_
 rintro _ w1 ⟨rfl,m1⟩
 refine ⟨_,rfl,_,rfl,_,rfl,_,rfl,rfl,?_⟩
 cases cD:isSet set with
 | false=>
  obtain ⟨h1,h2,h3,h4⟩:=szN cD
  rw [h1,h3,h4]
  exact ite_true rfl ⟨rfl,m1⟩
 | true=>
  obtain ⟨h1,h2,h3,h4⟩:=AF cD
  have hk:=(mZ cD).k
  refine ite_false (decide_eq_false (by omega)) ⟨⟨by omega,by omega⟩,⟨by omega,by omega⟩,?_,m1⟩
  rw [show (iG set:Int)+(js set:Int)+64=(oN set:Int) by omega]
def pO (set:Int) (l:List B8):List B8:=l.take (js set)
def pS (set:Int) (l:List B8):List B8:=(l.drop (js set)).take (iG set)
def pH (set:Int) (l:List B8):List B8:=(l.drop (iG set+js set)).take 32
def pR (set:Int) (l:List B8):List B8:=l.drop (iG set+js set+32)
theorem al3:zc Pr rm=[.slice none 0 0,.slice none 0 0,.slice none 0 0,.slice none 0 0]:=by kernel_rfl
theorem VF (set:Int) (cD:isSet set=true) (x:ah) (hn:x.n=oN set) (hc:x.n≤x.c) (w:World):Ok Pr HG [.int .i64 set,.slice x.a x.n x.c] w fun v w'=>∃ x0 x1 x2 x3:ah,v=.agg ⟨[.slice x0.a x0.n x0.c,.slice x1.a x1.n x1.c,.slice x2.a x2.n x2.c,.slice x3.a x3.n x3.c]⟩∧Mod [] w w'∧
  ∀ w2 l,Bytes w2 x l→Bytes w2 x0 (pO set l)∧Bytes w2 x1 (pS set l)∧Bytes w2 x2 (pH set l)∧Bytes w2 x3 (pR set l):=by
 refine afl ?_
 unfold O8
 rw [al3]
 obtain ⟨h1,h2,h3,h4⟩:=AF cD
 have hk:=(mZ cD).k
 refine (ak.start w).nw fun p w1 H _=>aB (HB set w1) ?_
 rintro _ w2 ⟨rfl,m2⟩
 have H:=(H.frame m2).drew
 refine ⟨_,rfl,_,rfl,_,rfl,_,rfl,rfl,IV (js set) rfl (by omega) fun x0 n0 k0=>⟨⟨by omega,by omega⟩,XC (js set) (iG set+js set) rfl (by omega) (by omega) (by omega) fun x1 n1 k1=>⟨⟨by omega,by omega⟩,⟨by omega,by omega⟩,⟨by omega,by omega⟩,XC (iG set+js set) (iG set+js set+32) (by omega) (by omega) (by omega) (by omega) fun x2 n2 k2=>⟨⟨by omega,by omega⟩,⟨by omega,by omega⟩,zn (iG set+js set+32) (by omega) (by omega) fun x3 n3 k3=>?_⟩⟩⟩⟩
 refine H.wN 0 rfl rfl fun w3 H=>H.DO 0 rfl ⟨x0,x1,x2,x3,rfl,H.mod,fun w2 l hl=>?_⟩
 have TQ:=hl.len
 refine ⟨k0 w2 l hl (by omega),?_,?_,k3 w2 l hl (by omega)⟩
 ·have:=k1 w2 l hl (by omega)
  rwa [Nat.add_sub_cancel] at this
 ·have:=k2 w2 l hl (by omega)
  rwa [Nat.add_sub_cancel_left] at this
def mG (set:Int) (n:Nat):Int:=if isSet set=true then (if n=64 then 0 else 3) else 2
@[irreducible] def ju (set:Int) (aq:List B8):List B8:=if mG set aq.length=0 then p9 set (aq.take 32) else []
@[irreducible] def uu (set:Int) (aq:List B8):List B8:=if mG set aq.length=0 then vY set (aq.take 32) ++ p9 set (aq.take 32) ++ e9 136 6 (p9 set (aq.take 32)) 32 ++ aq.drop 32 else []
theorem al4 {set:Int} (cD:isSet set=true) {d:List B8} (hd:d.length=32):uo set d.length=0∧(p9 set d).length=iG set∧(vY set d).length=js set:=by
 have hc:uo set d.length=0:=by unfold uo; rw [if_pos cD,if_pos hd]
 obtain ⟨h1,h2,h3,h4⟩:=AF cD
 have hg:(gK (dz set) d).length=64:=s4 72 6 _ 64 (by omega)
 refine ⟨hc,?_,?_⟩
 ·unfold p9; rw [if_pos hc,ai7 (mZ cD) hg,h1]
 ·unfold vY; rw [if_pos hc,ai8 (mZ cD) hg,h2]
theorem ahH (set:Int) (x:ah) (aq:List B8) (w:World) (hx:Bytes w x aq) :
  Ok Pr PD [.int .i64 set,.slice x.a x.n x.c] w fun v w'=>∃ (y z:ah) (er:Value),v=.tuple ⟨[.slice y.a y.n y.c,.slice z.a z.n z.c,er]⟩∧
   ak w [] w' [.row bh 1 y (bn (ju set aq)),.row bh 1 z (bn (uu set aq)),aE.err er (mG set aq.length)]:=by
 refine agm ?_
 unfold P3
 rw [wY]
 have bV:=hx.len
 have tY:=hx.cap
 have hC:mG set aq.length=if isSet set=true then (if aq.length=64 then 0 else 3) else 2:=rfl
 have hV:ju set aq=if mG set aq.length=0 then p9 set (aq.take 32) else []:=by unfold ju; rfl
 have hS:uu set aq=if mG set aq.length=0 then vY set (aq.take 32) ++ p9 set (aq.take 32) ++ e9 136 6 (p9 set (aq.take 32)) 32 ++ aq.drop 32 else []:=by unfold uu; rfl
 generalize ju set aq=V at *
 generalize uu set aq=K at *
 generalize mG set aq.length=C at *
 refine aB (yV set w) ?_
 rintro _ w1 ⟨rfl,m1⟩
 have H:=(ak.start w).frame m1
 refine ⟨_,rfl,zo ⟨_,rfl,rfl,H.nw fun p w2 H _=>H.jh 0 rfl rfl fun w3 H=>?_⟩⟩
 have no:∀ (c:Int),c≠0→C=c→az Pr mM [.int .i64 c] w3 fun F6 w4=>∃ (y z:ah) (er:Value),Value.tuple ⟨[.slice none 0 0,.slice none 0 0,F6]⟩=.tuple ⟨[.slice y.a y.n y.c,.slice z.a z.n z.c,er]⟩∧
   ak w [] w4 [.row bh 1 y (bn V),.row bh 1 z (bn K),aE.err er C]:=by
  intro c hc g8
  rw [g8] at hV hS
  rw [if_neg hc] at hV hS
  subst hV hS
  refine aB (DA c hc w3) ?_
  rintro e w4 ⟨h,m4⟩
  rw [g8]
  exact ⟨⟨none,0,0⟩,⟨none,0,0⟩,e,rfl,((((ak.start w).jk bh 1).jk bh 1).frame H.mod).gD m4 h⟩
 cases cD:isSet set with
 | false=>
  rw [cD,if_neg (by decide)] at hC
  exact ite_true rfl (no 2 (by decide) hC)
 | true=>
  rw [cD,if_pos rfl] at hC
  refine ite_false rfl ?_
  by_cases gX:aq.length=64
  case neg=>
   rw [if_neg gX] at hC
   exact ite_true (by rw [decide_eq_false (show ¬ ((x.n:Nat):Int)=64 by omega)]; rfl) (no 3 (by decide) hC)
  rw [if_pos gX] at hC
  clear no
  subst hC
  rw [if_pos rfl] at hV hS
  subst hV hS
  have kG:(aq.take 32).length=32:=by rw [List.length_take]; omega
  obtain ⟨c0,lA,lB⟩:=al4 cD kG
  obtain ⟨h1,h2,h3,h4⟩:=AF cD
  have hk:=(mZ cD).k
  refine ite_false (by rw [decide_eq_true (show ((x.n:Nat):Int)=64 by omega)]; rfl) (IV 32 rfl (by omega) fun xd nd kd=>aB (ahF set xd (aq.take 32) (by omega) w3 (kd _ aq (hx.aG H.mod) (by omega))) ?_)
  rw [c0]
  rintro _ w6 ⟨y,z,er,rfl,D⟩
  have H:=(H.join D).drew
  have he:=D.err 2 rfl
  generalize p9 set (aq.take 32)=A at *
  generalize vY set (aq.take 32)=B at *
  refine ⟨_,rfl,y,rfl,z,rfl,rfl,he.isNil (ite_false rfl (zn 32 rfl (by omega) fun xr nr kr=>H.nw fun p1 w7 H _=>?_))⟩
  refine aB (LH ⟨some ⟨p1,0,none⟩,1,1⟩ [A] _ (e8.JT (H.av 4 rfl) (by simp) (H.bytes 1 rfl) (jX _)) (RM rfl (by omega))) ?_
  rintro _ w8 ⟨g,rfl,hg,m8⟩
  rw [show [A].flatten=A by simp] at hg
  have hgl:=s4 136 6 A 32 (by omega)
  rw [show ((32:Nat):Int)=32 from rfl] at hgl
  have H:=H.cB m8 hg
  refine bW (H.nw fun p2 w9 H _=>?_)
  generalize hR:e9 136 6 A 32=R at *
  refine aB (ach ⟨some ⟨p2,0,none⟩,4,4⟩ [B,A,R,aq.drop 32] (by show 4≤1000; omega) (fun i=>?_) (fun l hl=>?_) _ ?_) ?_
  ·have e:(([B,A,R,aq.drop 32]:List (List B8)).take i).flatten.length≤([B,A,R,aq.drop 32]:List (List B8)).flatten.length:=by
    conv=>rhs; rw [← List.take_append_drop i [B,A,R,aq.drop 32],List.flatten_append,List.length_append]
    omega
   refine Nat.le_trans e ?_
   simp only [List.flatten_cons,List.flatten_nil,List.length_append,List.length_nil,List.length_drop]
   omega
  ·simp only [List.mem_cons,List.not_mem_nil,or_false] at hl
   have Kj:(aq.drop 32).length=32:=by rw [List.length_drop]; omega
   rcases hl with rfl | rfl | rfl | rfl <;> omega
  ·refine e8.ofs (ss:=[z,y,g,xr]) (H.av 6 rfl) (by simp) rfl fun i s l hs hl=>?_
   match i with
   | 0=>simp at hs hl; subst hs hl; exact ⟨H.bytes 2 rfl,jX _⟩
   | 1=>simp at hs hl; subst hs hl; exact ⟨H.bytes 1 rfl,jX _⟩
   | 2=>simp at hs hl; subst hs hl; exact ⟨H.bytes 5 rfl,jX _⟩
   | 3=>simp at hs hl; subst hs hl; exact ⟨kr _ aq (hx.aG H.mod) (by omega),jX _⟩
   | k+4=>simp at hs
  rintro _ cL ⟨u,rfl,hu,Gh⟩
  have eU:[B,A,R,aq.drop 32].flatten=B ++ A ++ R ++ aq.drop 32:=by simp
  rw [eU] at hu
  have H:=H.cB Gh hu
  exact bW ⟨y,u,.nilIface,rfl,(H.two 1 7 rfl rfl (by omega)).gD (Mod.refl _ _) (qw _ _)⟩
theorem U3 (set:Int) (x:ah) (b:List B8) (w:World) (hx:Bytes w x b):Ok Pr Hl [.int .i64 set,.slice x.a x.n x.c] w fun v w'=>cO w w' v (iH set b)∧Mod [] w w':=by
 refine adV ?_
 unfold M5
 refine aB (Wm set x b w hx) ?_
 rintro e w1 ⟨he,m1⟩
 have jo:iH set b=0∨iH set b=2∨iH set b=3∨iH set b=4:=by
  unfold iH
  split
  ·split
   ·split
    ·exact .inl rfl
    ·exact .inr (.inr (.inr rfl))
   ·exact .inr (.inr (.inl rfl))
  ·exact .inr (.inl rfl)
 generalize iH set b=c at *
 refine aB (A7 e c 2 w1 he.1) ?_
 rintro _ w2 ⟨rfl,hw⟩
 subst hw
 have fault:∀ d:Int,d≠0→az Pr mM [.int .i64 d] w2 fun v w3=>cO w w3 v d∧Mod [] w w3:=fun d hd=>by
  refine aB (DA d hd w2) ?_
  rintro v w3 ⟨h,m⟩
  exact ⟨BG h m1,m1.trans m⟩
 rcases jo with rfl | rfl | rfl | rfl
 ·refine bu (ite_false rfl (aB (A7 e 0 3 w2 he.1) ?_))
  rintro _ w4 ⟨rfl,hw⟩
  subst hw
  refine bu (ite_false rfl (aB (A7 e 0 4 w4 he.1) ?_))
  rintro _ w6 ⟨rfl,hw⟩
  subst hw
  exact bu (ite_false rfl ⟨he,m1⟩)
 ·exact bu (ite_true rfl (fault 2 (by decide)))
 ·refine bu (ite_false rfl (aB (A7 e 3 3 w2 he.1) ?_))
  rintro _ w4 ⟨rfl,hw⟩
  subst hw
  exact bu (ite_true rfl (fault 3 (by decide)))
 ·refine bu (ite_false rfl (aB (A7 e 4 3 w2 he.1) ?_))
  rintro _ w4 ⟨rfl,hw⟩
  subst hw
  refine bu (ite_false rfl (aB (A7 e 4 4 w4 he.1) ?_))
  rintro _ w6 ⟨rfl,hw⟩
  subst hw
  exact bu (ite_true rfl (fault 4 (by decide)))
end Go.Proofs.YtgjoehgomjgckaaGreatDoor
end
section
set_option linter.unusedVariables false
set_option linter.unusedSimpArgs false
namespace Go.Proofs.YtgjoehgomjgckaaGreatDoor
open Go Go.Ev
set_option maxRecDepth 100000
set_option linter.unusedVariables false
def M9 (b:ah) (ns:ah) (w:World) (R:Value→World→Prop):Prop:=
 az Pr sQ [.slice b.a b.n b.c] w fun a c=>
 aT a fun d=>
 iy (fun (e:ah) (f:Int)=>[(0,some (.slice e.a e.n e.c)),(12,some (.int .i64 f))])
 (fun g e f i=>aA (decide (f<(ns.n:Int)))
 (aU ns.a f ns.n
 (an .i64 (Addr.add (base ns.a) (Int.toNat f * 1)) i fun j=>
 iy (fun (k:ah) (l:Int)=>[(0,some (.slice k.a k.n k.c)),(7,some (.int .i64 l))])
 (fun m k l n=>aA (decide (0≤l))
 (gU l (nw bh [.int .u8 (IntKind.wrap .u8 (shr .u64 (IntKind.wrap .u64 (j)) l))] n fun o p=>
 cG Pr [bJ,bJ] bJ [.slice k.a k.n k.c,.slice (some o) 1 1] p fun q s=>
 (aF (l - 8)∧
 m q (l - 8) s)))
 ((aF (f+1)∧
 g k (f+1) n)))
 e 56 i))
 (R (.slice e.a e.n e.c) i))
 d 0 c
theorem adY {b:ah} {ns:ah} {w:World} {R:Value→World→Prop} (h:M9 b ns w R):Ok Pr Hj [.slice b.a b.n b.c,.slice ns.a ns.n ns.c] w R:=
 aL (m:=⟨true,true⟩) (J:=[]) (L:=[(3,[(0,.sl),(12,.int .i64)]),(6,[(0,.sl),(7,.int .i64)])]) aJ Tryz.func165 (by kernel_rfl) ((by kernel_rfl:aK Pr _ _ _ Tryz.f165 _ w R=M9 b ns w R).mpr h)
def N5 (b:ah) (parts:ah) (w:World) (R:Value→World→Prop):Prop:=
 az Pr sQ [.slice b.a b.n b.c] w fun a c=>
 aT a fun d=>
 iy (fun (e:ah) (f:Int)=>[(0,some (.slice e.a e.n e.c)),(11,some (.int .i64 f))])
 (fun g e f i=>aA (decide (f<(parts.n:Int)))
 (aU parts.a f parts.n
 (ax (Addr.add (base parts.a) (Int.toNat f * 1)) i fun j=>
 nw bD [.int .i64 (j.n:Int)] i fun k l=>
 az Pr Hj [.slice e.a e.n e.c,.slice (some k) 1 1] l fun m n=>
 aT m fun o=>
 cG Pr [bJ,bJ] bJ [.slice o.a o.n o.c,.slice j.a j.n j.c] n fun p q=>
 (aF (f+1)∧
 g p (f+1) q)))
 (R (.slice e.a e.n e.c) i))
 d 0 c
theorem aeH {b:ah} {parts:ah} {w:World} {R:Value→World→Prop} (h:N5 b parts w R):Ok Pr AZ [.slice b.a b.n b.c,.slice parts.a parts.n parts.c] w R:=
 aL (m:=⟨true,true⟩) (J:=[]) (L:=[(3,[(0,.sl),(11,.int .i64)])]) aJ Tryz.func167 (by kernel_rfl) ((by kernel_rfl:aK Pr _ _ _ Tryz.f167 _ w R=N5 b parts w R).mpr h)
end Go.Proofs.YtgjoehgomjgckaaGreatDoor
end
section
set_option linter.unusedVariables false
set_option linter.unusedSimpArgs false
namespace Go.Proofs.YtgjoehgomjgckaaGreatDoor
open Go Go.Ev
set_option linter.unusedVariables false
theorem aih:Pr.underlying yZ=some .string:=by kernel_rfl
theorem Uy (x:ah) (l:List B8) (hl:l.length≤1000000000) (w:World) (hx:Bytes w x l):Ok Pr sQ [.slice x.a x.n x.c] w fun v w'=>nC w w' v l:=by
 refine Ut ?_
 unfold GN
 have bV:=hx.len
 refine bU (fun h=>?_) (fun h=>?_)
 ·have h0:x.n=0:=by
   rcases Nat.eq_zero_or_pos x.n with e | e
   ·exact e
   ·have:=Sl.pre hx e
    cases ha:x.a with
    | none=>rw [ha] at this; cases this
    | some a=>rw [ha] at h; cases h
  obtain rfl:l=[]:=List.eq_nil_of_length_eq_zero (by omega)
  exact ⟨⟨none,0,0⟩,rfl,Own.nil _ _ _ _,Mod.refl _ _⟩
 ·refine (ak.start w).nw fun p w1 H _=>?_
  have H:=H.rB 0 1 0 0 rfl rfl (Nat.le_refl _) (by simp only [maxLen]; omega)
  refine H.vp (s:=⟨some ⟨p,0,none⟩,0,0⟩) (vs:=[]) 0 iJ rfl (hx.aG H.mod) (by show 0+x.n≤_; omega) fun y w2 H hy=>?_
  exact ⟨y,rfl,H.fN 0 rfl,H.mod⟩
def be (n:Int):List B8:=(List.range 8).map fun k=>((BitVec.ofInt 64 n:aI) >>> (56 - 8 * k)).setWidth 8
def iX (ns:List Int):List B8:=(ns.map be).flatten
theorem Iz (n:Int):(be n).length=8:=by simp [be]
theorem Qj (ns:List Int):(iX ns).length=8 * ns.length:=by
 induction ns with
 | nil=>rfl
 | cons a r ih=>
  show ((be a) ++ iX r).length=_
  rw [List.length_append,Iz,ih,List.length_cons]
  omega
theorem aii (a b:List Int):iX (a ++ b)=iX a ++ iX b:=by simp [iX]
theorem ag3 (n:Int):IntKind.wrap .u64 n=((BitVec.ofInt 64 n).toNat:Int):=by
 rw [wrap_u64,BitVec.toNat_ofInt]
 omega
theorem alb (n:Int) (k:Nat) (hk:k<8) (s:Int) (hs:s=((56 - 8 * k:Nat):Int)):IntKind.wrap .u8 (shr .u64 (IntKind.wrap .u64 n) s)=(((be n).getD k 0).toNat:Int):=by
 subst hs
 rw [ag3,zD,aau]
 simp [be,hk]
theorem U4 (x:ah) (l:List B8) (y:ah) (ns:List Int) (hl:l.length≤1000000) (hn:ns.length≤1000000) (w:World) (hx:Bytes w x l) (hy:dS w y ns) :
  Ok Pr Hj [.slice x.a x.n x.c,.slice y.a y.n y.c] w fun v w'=>nC w w' v (l ++ iX ns):=by
 refine adY ?_
 unfold M9
 have kS:=hy.len
 refine aB (Uy x l (by omega) w hx) ?_
 rintro _ w1 ⟨z,rfl,hz,m⟩
 have H:=(ak.start w).cB m hz
 refine bW (k5 0 ns.length (fun i (b:ah) w'=>ak w [] w' [.row bh 1 b (bn (l ++ iX (ns.take i)))]) rfl (by omega) (by simpa [iX] using H) ?_ ?_)
 ·intro again i b w2 _ hi H aM
  refine ite_true (decide_eq_true (by omega)) ((hy.aG H.mod).ld hi rfl ?_)
  have xX:iX (ns.take (i+1))=iX (ns.take i) ++ be (ns.getD i 0):=by rw [kW _ _ hi 0,aii]; simp [iX]
  have jO:=Qj (ns.take i)
  rw [List.length_take,Nat.min_eq_left (by omega)] at jO
  rw [xX] at aM
  generalize ns.getD i 0=n at *
  have Tn:=Iz n
  refine wU (fun (b:ah) (s:Int) w'=>∃ j:Nat,j≤8∧s=56 - 8 * (j:Int)∧ak w [] w' [.row bh 1 b (bn (l ++ iX (ns.take i) ++ (be n).take j))]) (fun _ s _=>(s+8).toNat) ⟨0,by omega,by omega,by simpa using H⟩ ?_
  rintro mh b s w3 ⟨j,hj,rfl,H⟩ jD
  have hb:=(H.bytes 0 rfl).len
  rw [List.length_append,List.length_append,List.length_take,Nat.min_eq_left (by omega)] at hb
  refine bU (fun hc=>?_) (fun hc=>?_)
  ·have hc:=of_decide_eq_true hc
   refine kL (by omega) (H.Rr 0 ((be n).getD j 0) iJ rfl (alb n j (by omega) _ (by omega)) (by omega) fun b' w4 H _=>⟨⟨by omega,by omega⟩,jD _ _ w4 ⟨j+1,by omega,by omega,?_⟩ (by omega)⟩)
   rw [kW _ _ (by omega) 0,← List.append_assoc]
   exact H
  ·have hc:=of_decide_eq_false hc
   rw [List.take_of_length_le (l:=be n) (by omega),List.append_assoc] at H
   exact ⟨⟨by omega,by omega⟩,aM b w3 H⟩
 ·intro again b w2 H
  rw [List.take_length] at H
  exact ite_false (decide_eq_false (by omega)) ⟨b,rfl,H.fN 0 rfl,H.mod⟩
def laid (p:List B8):List B8:=be (p.length:Int) ++ p
def nq (ps:List (List B8)):List B8:=(ps.map laid).flatten
theorem ag4 (a b:List (List B8)):nq (a ++ b)=nq a ++ nq b:=by simp [nq]
theorem UU:∀ (ps:List (List B8)) (k:Nat),(∀ p∈ps,p.length≤k)→(nq ps).length≤ps.length * (k+8)
 | [],_,_=>by simp [nq]
 | p :: r,k,h=>by
  have h1:=UU r k fun q hq=>h q (List.mem_cons_of_mem _ hq)
  have h2:=h p List.mem_cons_self
  show (laid p ++ nq r).length≤_
  rw [List.length_append,laid,List.length_append,Iz,List.length_cons,Nat.add_mul]
  omega
theorem alc (n:Int):iX [n]=be n:=by simp [iX]
theorem _root_.Go.Ev.ak.YE {w0 w:World} {S:List Nat} {L:List aE} (H:ak w0 S w L) (k:Nat) {b:Nat} {l:List Int} {t:TypeId} (hk:L[k]? = some (.av b (cu l) t)):dS w ⟨some ⟨b,0,none⟩,l.length,l.length⟩ l:=by
 have:=(H.av k hk).sl 1 l.length l.length (by simp) (Nat.le_refl _)
 rw [Nat.mul_one,List.take_of_length_le (by simp)] at this
 exact this
theorem agt (x:ah) (l:List B8) (y:ah) (ps:List (List B8)) (hl:l.length≤100000) (hn:ps.length≤10) (uk:∀ p∈ps,p.length≤10000) (w:World) (hx:Bytes w x l) (hy:e8 w [] y ps) :
  Ok Pr AZ [.slice x.a x.n x.c,.slice y.a y.n y.c] w fun v w'=>nC w w' v (l ++ nq ps):=by
 refine aeH ?_
 unfold N5
 have kS:=hy.len
 refine aB (Uy x l (by omega) w hx) ?_
 rintro _ w1 ⟨z,rfl,hz,m⟩
 have H:=(ak.start w).cB m hz
 refine bW (k5 0 ps.length (fun i (b:ah) w'=>ak w [] w' [.row bh 1 b (bn (l ++ nq (ps.take i)))]) rfl (by omega) (by simpa [nq] using H) ?_ ?_)
 ·intro again i b w2 _ hi H aM
  have jO:=UU (ps.take i) 10000 fun p hp=>uk p (List.mem_of_mem_take hp)
  rw [List.length_take] at jO
  have xX:nq (ps.take (i+1))=nq (ps.take i) ++ laid (ps.getD i []):=by rw [kW _ _ hi [],ag4]; simp [nq]
  have Ao:=uk (ps.getD i []) (by simp [hi])
  rw [xX] at aM
  have arv:min i ps.length * (10000+8)≤10 * (10000+8):=Nat.mul_le_mul_right _ (by omega)
  refine ite_true (decide_eq_true (by omega)) (hy.ld0 H.mod hi fun u hu _=>H.nw fun p w3 H _=>?_)
  have jE:=hu.len
  generalize ps.getD i []=pt at *
  have hbn:=(H.bytes 0 rfl).len
  simp only [List.length_append] at hbn
  refine aB (U4 b _ ⟨some ⟨p,0,none⟩,1,1⟩ [((u.n:Nat):Int)] (by rw [List.length_append]; omega) (by simp) _ (H.bytes 0 rfl) (H.YE 1 (l:=[((u.n:Nat):Int)]) rfl)) ?_
  rintro _ w4 ⟨q,rfl,hq,m4⟩
  have H:=H.cB m4 hq
  have hql:=hq.bytes.len
  simp only [List.length_append,Qj,List.length_cons,List.length_nil] at hql
  refine bW (H.vp 2 iJ rfl (hu.aG H.mod) (by omega) fun b' w5 H _=>⟨⟨by omega,by omega⟩,aM b' w5 ?_⟩)
  have H:=H.only 2 rfl
  rw [alc,← jE,List.append_assoc,List.append_assoc] at H
  exact H
 ·intro again b w2 H
  rw [List.take_length] at H
  exact ite_false (decide_eq_false (by omega)) ⟨b,rfl,H.fN 0 rfl,H.mod⟩
end Go.Proofs.YtgjoehgomjgckaaGreatDoor
end
section
set_option linter.unusedVariables false
set_option linter.unusedSimpArgs false
namespace Go.Proofs.YtgjoehgomjgckaaGreatDoor
open Go Go.Ev
set_option maxRecDepth 100000
set_option linter.unusedVariables false
def GV (eE:Int) (eH:Int) (eI:Int) (dI:ah) (sC:Int) (sD:Int) (sF:Int) (kT:ah) (w:World) (R:Value→World→Prop):Prop:=
 nw cI [.int .i64 eE,.int .i64 eH,.int .i64 eI,.slice dI.a dI.n dI.c] w fun a b=>
 nw cI [.int .i64 sC,.int .i64 sD,.int .i64 sF,.slice kT.a kT.n kT.c] b fun c d=>
 an .i64 (Addr.add a 0) d fun e=>
 an .i64 (Addr.add c 0) d fun f=>
 an .i64 (Addr.add a 1) d fun g=>
 an .i64 (Addr.add c 1) d fun i=>
 an .i64 (Addr.add a 2) d fun j=>
 an .i64 (Addr.add c 2) d fun k=>
 ax (Addr.add a 3) d fun l=>
 ax (Addr.add c 3) d fun m=>
 aA (((decide (e=f)) && (decide (g=i))) && (decide (j=k)))
 (az Pr C8 [.slice l.a l.n l.c,.slice m.a m.n m.c] d fun n o=>
 aW n fun p=>
 R (.bool p) o)
 (R (.bool false) d)
theorem Ux {eE:Int} {eH:Int} {eI:Int} {dI:ah} {sC:Int} {sD:Int} {sF:Int} {kT:ah} {w:World} {R:Value→World→Prop} (h:GV eE eH eI dI sC sD sF kT w R):Ok Pr GU [.agg ⟨[.int .i64 eE,.int .i64 eH,.int .i64 eI,.slice dI.a dI.n dI.c]⟩,.agg ⟨[.int .i64 sC,.int .i64 sD,.int .i64 sF,.slice kT.a kT.n kT.c]⟩] w R:=
 aL (m:=⟨true,true⟩) (J:=[]) (L:=[]) aJ Tryz.func17 (by kernel_rfl) ((by kernel_rfl:aK Pr _ _ _ Tryz.f17 _ w R=GV eE eH eI dI sC sD sF kT w R).mpr h)
def Lp (a:ah) (b:ah) (w:World) (R:Value→World→Prop):Prop:=
 aA (!decide ((a.n:Int)=(b.n:Int)))
 (R (.bool false) w)
 (cY (fun (c:Int)=>[(5,some (.int .i64 c))])
 (fun d c e=>aA (decide (c<(a.n:Int)))
 (aU a.a c a.n
 (AS (Addr.add (base a.a) (Int.toNat c * 3)) (World.drew e) fun f g i=>
 aU b.a c b.n
 (AS (Addr.add (base b.a) (Int.toNat c * 3)) (World.drew e) fun j k l=>
 FA Pr .neq dF [.int .i64 f,.int .i64 g,.string i] [.int .i64 j,.int .i64 k,.string l] (World.drew e) fun m n=>
 aA m
 (R (.bool false) n)
 ((aF (c+1)∧
 d (c+1) n)))))
 (R (.bool true) e))
 0 w)
theorem acw {a:ah} {b:ah} {w:World} {R:Value→World→Prop} (h:Lp a b w R):Ok Pr K9 [.slice a.a a.n a.c,.slice b.a b.n b.c] w R:=
 aL (m:=⟨true,true⟩) (J:=[]) (L:=[(4,[(5,.int .i64)])]) aJ Tryz.func19 (by kernel_rfl) ((by kernel_rfl:aK Pr _ _ _ Tryz.f19 _ w R=Lp a b w R).mpr h)
def He (eE:Int) (eH:Int) (eI:Int) (dI:ah) (sC:Int) (sD:Int) (sF:Int) (kT:ah) (w:World) (R:Value→World→Prop):Prop:=
 nw aV [.int .i64 eE,.int .i64 eH,.int .i64 eI,.slice dI.a dI.n dI.c] w fun a b=>
 nw aV [.int .i64 sC,.int .i64 sD,.int .i64 sF,.slice kT.a kT.n kT.c] b fun c d=>
 an .i64 (Addr.add a 0) d fun e=>
 an .i64 (Addr.add c 0) d fun f=>
 an .i64 (Addr.add a 1) d fun g=>
 an .i64 (Addr.add c 1) d fun i=>
 an .i64 (Addr.add a 2) d fun j=>
 an .i64 (Addr.add c 2) d fun k=>
 ax (Addr.add a 3) d fun l=>
 ax (Addr.add c 3) d fun m=>
 aA ((((!decide (e=f)) || (!decide (g=i))) || (!decide (j=k))) || (!decide ((l.n:Int)=(m.n:Int))))
 (R (.bool false) d)
 (cY (fun (n:Int)=>[(5,some (.int .i64 n))])
 (fun o n p=>ax (Addr.add a 3) p fun q=>
 aA (decide (n<(q.n:Int)))
 (ax (Addr.add a 3) (World.drew p) fun s=>
 aU s.a n s.n
 (jx (Addr.add (base s.a) (Int.toNat n * 4)) (World.drew p) fun t u v x=>
 ax (Addr.add c 3) (World.drew p) fun y=>
 aU y.a n y.n
 (jx (Addr.add (base y.a) (Int.toNat n * 4)) (World.drew p) fun z A B C=>
 az Pr GU [.agg ⟨[.int .i64 t,.int .i64 u,.int .i64 v,.slice x.a x.n x.c]⟩,.agg ⟨[.int .i64 z,.int .i64 A,.int .i64 B,.slice C.a C.n C.c]⟩] (World.drew p) fun D E=>
 aW D fun F=>
 aA (!F)
 (R (.bool false) E)
 ((aF (n+1)∧
 o (n+1) E)))))
 (R (.bool true) p))
 0 d)
theorem UF {eE:Int} {eH:Int} {eI:Int} {dI:ah} {sC:Int} {sD:Int} {sF:Int} {kT:ah} {w:World} {R:Value→World→Prop} (h:He eE eH eI dI sC sD sF kT w R):Ok Pr Dm [.agg ⟨[.int .i64 eE,.int .i64 eH,.int .i64 eI,.slice dI.a dI.n dI.c]⟩,.agg ⟨[.int .i64 sC,.int .i64 sD,.int .i64 sF,.slice kT.a kT.n kT.c]⟩] w R:=
 aL (m:=⟨true,true⟩) (J:=[]) (L:=[(4,[(5,.int .i64)])]) aJ Tryz.func20 (by kernel_rfl) ((by kernel_rfl:aK Pr _ _ _ Tryz.f20 _ w R=He eE eH eI dI sC sD sF kT w R).mpr h)
def L0 (eE:Int) (eH:Int) (eI:Int) (dI:Int) (gJ:Int) (gL:Int) (gM:Int) (gN:Int) (gO:Int) (gP:Int) (gE:Int) (gF:ByteArray) (dG:ah) (dH:ah) (w:World) (R:Value→World→Prop):Prop:=
 nw kZ [.int .i64 eE,.int .i64 eH,.int .i64 eI,.int .i64 dI,.int .i64 gJ,.int .i64 gL,.int .i64 gM,.int .i64 gN,.int .i64 gO,.int .i64 gP,.int .i64 gE,.string gF,.slice dG.a dG.n dG.c,.slice dH.a dH.n dH.c] w fun a b=>
 fS (Addr.add a 11) b fun c=>
 ax (Addr.add a 12) b fun d=>
 ax (Addr.add a 13) b fun e=>
 R (.bool (((decide (400<((ByteArray.size c:Nat):Int))) || (decide (3000<(d.n:Int)))) || (decide (200<(e.n:Int))))) b
theorem adf {eE:Int} {eH:Int} {eI:Int} {dI:Int} {gJ:Int} {gL:Int} {gM:Int} {gN:Int} {gO:Int} {gP:Int} {gE:Int} {gF:ByteArray} {dG:ah} {dH:ah} {w:World} {R:Value→World→Prop} (h:L0 eE eH eI dI gJ gL gM gN gO gP gE gF dG dH w R):Ok Pr LM [.agg ⟨[.int .i64 eE,.int .i64 eH,.int .i64 eI,.int .i64 dI,.int .i64 gJ,.int .i64 gL,.int .i64 gM,.int .i64 gN,.int .i64 gO,.int .i64 gP,.int .i64 gE,.string gF,.slice dG.a dG.n dG.c,.slice dH.a dH.n dH.c]⟩] w R:=
 aL (m:=⟨true,true⟩) (J:=[]) (L:=[]) aJ Tryz.func25 (by kernel_rfl) ((by kernel_rfl:aK Pr _ _ _ Tryz.f25 _ w R=L0 eE eH eI dI gJ gL gM gN gO gP gE gF dG dH w R).mpr h)
end Go.Proofs.YtgjoehgomjgckaaGreatDoor
end
section
set_option linter.unusedVariables false
set_option linter.unusedSimpArgs false
namespace Go.Proofs.YtgjoehgomjgckaaGreatDoor
open Go Go.Ev
set_option maxRecDepth 20000
set_option linter.unusedVariables false
structure bG where
 (n0 n1 n2 n3 n4 n5 n6 n7 n8 n9 nT:Int)
 name:ByteArray
 (gp tok:ah)
@[reducible] def bG.cells (q:bG):List Value:=Ik q.n0 q.n1 q.n2 q.n3 q.n4 q.n5 q.n6 q.n7 q.n8 q.n9 q.nT q.name q.gp q.tok
def bG.dD (q:bG):List Int:=[q.n0,q.n1,q.n2,q.n3,q.n4,q.n5,q.n6,q.n7,q.n8,q.n9,q.nT]
def bG.rest (q:bG):List Int:=[q.n3,q.n4,q.n5,q.n6,q.n7,q.n8,q.n9,q.nT]
def aP (lo hi n:Int):Bool:=decide (lo≤n) && decide (n≤hi)
def ou (q:bG):Bool:=aP 1 6 q.n0 && (aP 1 1099511627776 q.n1 && (aP 1 13 q.n2 && (q.rest.all (aP 0 1099511627776) && (decide (q.name.size≤300) && (decide (q.gp.n≤2000) && decide (q.tok.n≤100))))))
theorem IA (n lo hi:Int) (w:World):Ok Pr Bz [.int .i64 n,.int .i64 lo,.int .i64 hi] w fun v w'=>v=.bool (aP lo hi n)∧w'=w:=by
 refine ahq ?_
 unfold Q3
 exact ⟨rfl,rfl⟩
theorem ag5 (n:Int) (w:World):Ok Pr DE [.int .i64 n] w fun v w'=>v=.bool (!aP 0 1099511627776 n)∧w'=w:=by
 refine afc ?_
 unfold O0
 refine aB (IA n 0 1099511627776 w) ?_
 rintro _ w1 ⟨rfl,hw⟩
 subst hw
 exact bu ⟨rfl,rfl⟩
theorem adZ (g:FuncId) (p:Int→Bool) (hb:jB Pr g=true) (hg:∀ n w,Ok Pr g [.int .i64 n] w fun v w'=>v=.bool (p n)∧w'=w) (x:ah) (l:List Int) (hl:l.length≤1000000) (w:World) (hx:dS w x l) :
  Ok Pr GK [.slice x.a x.n x.c,.func (.func g) #[] #[]] w fun v w'=>∃ n:Int,v=.int .i64 n∧(decide (0≤n)=l.any p)∧w'=w:=by
 refine Us ?_
 unfold GL
 have bV:=hx.len
 refine cZ 0 l.length (fun i w'=>w'=w∧(l.take i).any p=false) rfl (by omega) ⟨rfl,rfl⟩ ?_ ?_
 ·rintro again i w1 _ hi ⟨mD,ha⟩ aM
  have Kk:dS w1 x l:=by rw [mD]; exact hx
  refine ite_true (decide_eq_true (by omega)) (Kk.ld hi rfl ?_)
  have key:az Pr g [.int .i64 (l.getD i 0)] w1 fun v w2=>aW v fun t16=>aA t16 ((fun (v:Value) (w':World)=>∃ n:Int,v=.int .i64 n∧(decide (0≤n)=l.any p)∧w'=w) (.int .i64 (i:Int)) w2) (aF ((i:Int)+1)∧again ((i:Int)+1) w2):=by
   refine aB (hg _ _) ?_
   rintro _ w2 ⟨rfl,qT⟩
   have SM:l.getD i 0∈l:=by simp [hi]
   refine bu (bU (fun h=>?_) (fun h=>?_))
   ·refine ⟨_,rfl,?_,qT.trans mD⟩
    rw [decide_eq_true (by omega)]
    exact (List.any_eq_true.2 ⟨_,SM,h⟩).symm
   ·refine ⟨⟨by omega,by omega⟩,aM _ ⟨qT.trans mD,?_⟩⟩
    rw [kW _ _ hi 0,List.any_append,ha,List.any_cons,h]
    rfl
  show cond (jB Pr g) _ False
  rw [hb]
  exact key
 ·rintro again w1 ⟨mD,ha⟩
  rw [List.take_length] at ha
  exact ite_false (decide_eq_false (by omega)) ⟨_,rfl,by rw [ha]; rfl,mD⟩
theorem acQ (g:FuncId) (p:Int→Bool) (hb:jB Pr g=true) (hg:∀ n w,Ok Pr g [.int .i64 n] w fun v w'=>v=.bool (p n)∧w'=w) (x:ah) (l:List Int) (hl:l.length≤1000000) (w:World) (hx:dS w x l) :
  Ok Pr C2 [.slice x.a x.n x.c,.func (.func g) #[] #[]] w fun v w'=>v=.bool (l.any p)∧w'=w:=by
 refine Ur ?_
 unfold GJ
 refine aB (adZ g p hb hg x l hl w hx) ?_
 rintro _ w1 ⟨n,rfl,hn,hw⟩
 subst hw
 exact fm ⟨by rw [hn],rfl⟩
theorem afq (q:bG) (w:World):Ok Pr ML [.agg ⟨q.cells⟩] w fun v w'=>∃ y:ah,v=.slice y.a y.n y.c∧Own w' w.heap.size bD 1 y (cu q.dD)∧Mod [] w w':=by
 refine adQ ?_
 unfold MX
 refine (ak.start w).nw fun p w1 H _=>?_
 refine H.an 0 rfl (au p 0) rfl (H.an 0 rfl (au p 1) rfl (H.an 0 rfl (au p 2) rfl (H.an 0 rfl (au p 3) rfl (H.an 0 rfl (au p 4) rfl (H.an 0 rfl (au p 5) rfl ?_)))))
 refine H.an 0 rfl (au p 6) rfl (H.an 0 rfl (au p 7) rfl (H.an 0 rfl (au p 8) rfl (H.an 0 rfl (au p 9) rfl (H.an 0 rfl (au p 10) rfl (H.nw fun p1 w2 H _=>?_)))))
 have H:=H.rB 1 1 11 11 rfl rfl (Nat.le_refl _) (by simp only [maxLen]; omega)
 exact ⟨⟨some ⟨p1,0,none⟩,11,11⟩,rfl,H.fN 1 rfl,H.mod⟩
theorem aja:jB Pr DE=true:=by kernel_rfl
theorem aij (q:bG) (w:World):Ok Pr QA [.agg ⟨q.cells⟩] w fun v w'=>v=.bool (ou q)∧Mod [] w w':=by
 refine agV ?_
 unfold QC
 refine (ak.start w).nw fun p w1 H _=>?_
 refine H.an 0 rfl (au p 0) rfl (aB (IA _ _ _ _) ?_)
 rintro _ w2 ⟨rfl,hw⟩
 subst hw
 refine bu (H.an 0 rfl (au p 1) rfl ?_)
 unfold ou
 refine bU (fun h1=>?_) (fun h1=>?_)
 ·rw [h1,Bool.true_and]
  refine aB (IA _ _ _ _) ?_
  rintro _ w3 ⟨rfl,hw⟩
  subst hw
  refine bu (H.an 0 rfl (au p 2) rfl ?_)
  refine bU (fun h2=>?_) (fun h2=>?_)
  ·rw [h2,Bool.true_and]
   refine aB (IA _ _ _ _) ?_
   rintro _ w4 ⟨rfl,hw⟩
   subst hw
   refine bu (H.jz 0 rfl ?_)
   refine bU (fun h3=>?_) (fun h3=>?_)
   ·rw [h3,Bool.true_and]
    refine aB (afq q _) ?_
    rintro _ w5 ⟨y,rfl,hy,m5⟩
    have H:=H.cB m5 hy
    have kS:=hy.dD.len
    refine bW (Sl.l (H.dD 1 rfl) (by omega) 3 rfl (by rw [← kS]; show 3≤11; omega) fun z hz jR _=>?_)
    have FX:dS w5 z q.rest:=jR
    refine aB (acQ DE _ aja ag5 z q.rest (by show 8≤1000000; omega) _ FX) ?_
    rintro _ w6 ⟨rfl,hw⟩
    subst hw
    refine bu (H.fS 0 rfl (au p 11) rfl (H.ax 0 rfl (au p 12) rfl (H.ax 0 rfl (au p 13) rfl ⟨?_,H.mod⟩)))
    congr 1
    have e:(!q.rest.any fun n=>!aP 0 1099511627776 n)=q.rest.all (aP 0 1099511627776):=by
     rw [List.not_any_eq_all_not]
     simp
    rw [e]
    have e1:∀ a b:Nat,decide (((a:Nat):Int)≤(b:Int))=decide (a≤b):=fun a b=>by simp
    have aoo:=e1 q.name.size 300
    have anB:=e1 q.gp.n 2000
    have aop:=e1 q.tok.n 100
    simp only [Bool.and_assoc]
    rw [← aoo,← anB,← aop]
    rfl
   ·rw [h3,Bool.false_and]
    exact H.fS 0 rfl (au p 11) rfl (H.ax 0 rfl (au p 12) rfl (H.ax 0 rfl (au p 13) rfl ⟨rfl,H.mod⟩))
  ·rw [h2,Bool.false_and]
   exact H.jz 0 rfl (H.fS 0 rfl (au p 11) rfl (H.ax 0 rfl (au p 12) rfl (H.ax 0 rfl (au p 13) rfl ⟨rfl,H.mod⟩)))
 ·rw [h1,Bool.false_and]
  exact H.an 0 rfl (au p 2) rfl (H.jz 0 rfl (H.fS 0 rfl (au p 11) rfl (H.ax 0 rfl (au p 12) rfl (H.ax 0 rfl (au p 13) rfl ⟨rfl,H.mod⟩))))
def R9 (q:bG):Int:=if ou q=true then 0 else 2
end Go.Proofs.YtgjoehgomjgckaaGreatDoor
end
section
set_option linter.unusedVariables false
set_option linter.unusedSimpArgs false
namespace Go.Proofs.YtgjoehgomjgckaaGreatDoor
open Go Go.Ev
set_option maxRecDepth 20000
set_option linter.unusedVariables false
theorem Mx (x y:ah) (l m:List B8) (w:World) (hx:Bytes w x l) (hy:Bytes w y m):Ok Pr Dr [.slice x.a x.n x.c,.slice y.a y.n y.c] w fun v w'=>v=.bool (decide (l=m))∧w'=w:=by
 refine adM ?_
 unfold MT
 refine Zp hx (Zp hy ⟨?_,rfl⟩)
 congr 1
 exact decide_eq_decide.2 aiT
theorem ad3 (q:bG) (w:World):Ok Pr LM [.agg ⟨q.cells⟩] w fun v w'=>∃ b,v=.bool b∧Mod [] w w'∧(b=false→q.name.size≤400∧q.gp.n≤3000∧q.tok.n≤200):=by
 refine adf ?_
 unfold L0
 refine (ak.start w).nw fun p w1 H _=>?_
 refine H.fS 0 rfl (au p 11) rfl (H.ax 0 rfl (au p 12) rfl (H.ax 0 rfl (au p 13) rfl ⟨_,rfl,H.mod,fun h=>?_⟩))
 simp only [Bool.or_eq_false_iff,decide_eq_false_iff_not] at h
 omega
end Go.Proofs.YtgjoehgomjgckaaGreatDoor
end
section
set_option linter.unusedVariables false
set_option linter.unusedSimpArgs false
namespace Go.Proofs.YtgjoehgomjgckaaGreatDoor
open Go Go.Ev
set_option maxRecDepth 20000
set_option linter.unusedVariables false
theorem YF:zc Pr rm=[.slice none 0 0,.slice none 0 0,.slice none 0 0,.slice none 0 0]:=by kernel_rfl
@[irreducible] def qC (l:List B8):List B8:=e9 136 6 l 32
theorem XF (l:List B8):e9 136 6 l 32=qC l:=by unfold qC; rfl
theorem ajb (l:List B8):(qC l).length=32:=by unfold qC; exact s4 136 6 l 32 (by omega)
def uv (set:Int) (l:List B8):Int:=if isSet set=true then (if l.length=oN set then (if qC (pS set l)=pH set l then 0 else 4) else 3) else 2
theorem aj5 {set:Int} {l:List B8} (h:uv set l=0):isSet set=true∧l.length=oN set:=by
 unfold uv at h
 split at h
 ·rename_i h1
  split at h
  ·rename_i h2; exact ⟨h1,h2⟩
  ·exact absurd h (by decide)
 ·exact absurd h (by decide)
theorem Zz {set:Int} (cD:isSet set=true) {l:List B8} (h:l.length=oN set):(pS set l).length=iG set∧(pO set l).length=js set∧(pH set l).length=32∧(pR set l).length=32:=by
 obtain ⟨h1,h2,h3,h4⟩:=AF cD
 refine ⟨?_,?_,?_,?_⟩
 ·unfold pS; rw [List.length_take,List.length_drop]; omega
 ·unfold pO; rw [List.length_take]; omega
 ·unfold pH; rw [List.length_take,List.length_drop]; omega
 ·unfold pR; rw [List.length_drop]; omega
theorem afr (set:Int) (x:ah) (l:List B8) (w:World) (hx:Bytes w x l):Ok Pr MO [.int .i64 set,.slice x.a x.n x.c] w fun v w'=>cO w w' v (uv set l)∧Mod [] w w':=by
 refine adU ?_
 unfold M0
 rw [wY,YF]
 have bV:=hx.len
 have tY:=hx.cap
 have hC:uv set l=if isSet set=true then (if l.length=oN set then (if qC (pS set l)=pH set l then 0 else 4) else 3) else 2:=rfl
 generalize uv set l=C at *
 refine aB (yV set w) ?_
 rintro _ w1 ⟨rfl,m1⟩
 have H:=(ak.start w).frame m1
 refine ⟨_,rfl,zo ⟨_,rfl,rfl,H.nw fun p w2 H _=>H.jh 0 rfl rfl fun w3 H=>?_⟩⟩
 have no:∀ {w4:World} (c:Int),Mod [] w w4→c≠0→C=c→az Pr mM [.int .i64 c] w4 fun v w5=>cO w w5 v C∧Mod [] w w5:=by
  intro w4 c m hc g8
  refine aB (DA c hc w4) ?_
  rintro e w5 ⟨h,m4⟩
  rw [g8]
  exact ⟨BG h m,m.trans m4⟩
 cases cD:isSet set with
 | false=>
  rw [cD,if_neg (by decide)] at hC
  exact ite_true rfl (no 2 H.mod (by decide) hC)
 | true=>
  rw [cD,if_pos rfl] at hC
  obtain ⟨h1,h2,h3,h4⟩:=AF cD
  have hk:=(mZ cD).k
  refine ite_false rfl (aB (VE set w3) ?_)
  rintro _ w5 ⟨rfl,m5⟩
  have H:=H.frame m5
  refine ⟨_,rfl,_,rfl,_,rfl,_,rfl,rfl,?_⟩
  by_cases hn:l.length=oN set
  case neg=>
   rw [if_neg hn] at hC
   exact ite_true (by rw [decide_eq_false (show ¬ ((x.n:Nat):Int)=((oN set:Nat):Int) by omega)]; rfl) (no 3 H.mod (by decide) hC)
  rw [if_pos hn] at hC
  obtain ⟨lS,lO,lH,lR⟩:=Zz cD hn
  refine ite_false (by rw [decide_eq_true (show ((x.n:Nat):Int)=((oN set:Nat):Int) by omega)]; rfl) (aB (VF set cD x (by omega) tY _) ?_)
  rintro _ w7 ⟨x0,x1,x2,x3,rfl,m7,kp⟩
  have H:=H.frame m7
  refine Vr (H.nw fun p1 w8 H _=>H.wN 1 rfl rfl fun w9 H=>?_)
  have H:=H.drew
  have H:ak w [] w9.drew [.av p (dz set).cells iq,.av p1 (yP x0 x1 x2 x3) rm]:=H
  refine H.ax 1 rfl (au p1 1) rfl (H.ax 1 rfl (au p1 2) rfl (H.nw fun p2 cL H2 _=>?_))
  obtain ⟨k0,k1,k2,k3⟩:=kp _ l (hx.aG H2.mod)
  refine ⟨kM (H.av 1 rfl) (H2.av 1 rfl) (jK _ _),?_⟩
  refine aB (LH ⟨some ⟨p2,0,none⟩,1,1⟩ [pS set l] _ (e8.JT (H2.av 2 rfl) (by simp) k1 (jX _)) (RM rfl (by omega))) ?_
  rintro _ cX ⟨g,rfl,hg,qU⟩
  rw [show [pS set l].flatten=pS set l by simp] at hg
  rw [XF] at hg
  have H3:=H2.cB qU hg
  refine bW ⟨kM (H2.av 1 rfl) (H3.av 1 rfl) (jK _ _),aB (Mx g x2 _ _ _ hg.bytes (k2.aG qU)) ?_⟩
  rintro _ fR ⟨rfl,hw⟩
  subst hw
  refine bu ?_
  by_cases he:qC (pS set l)=pH set l
  ·rw [if_pos he] at hC
   rw [hC]
   exact ite_false (by rw [decide_eq_true he]; rfl) ⟨qw _ _,H3.mod⟩
  ·rw [if_neg he] at hC
   exact ite_true (by rw [decide_eq_false he]; rfl) (no 4 H3.mod (by decide) hC)
@[irreducible] def wg (b m:List B8):List B8:=e9 72 6 (m ++ qC b) 64
theorem al5 (b m:List B8):e9 72 6 (m ++ qC b) 64=wg b m:=by unfold wg; rfl
theorem YG (b m:List B8):(wg b m).length=64:=by unfold wg; exact s4 72 6 _ 64 (by omega)
def oO (set:Int) (b m:List B8):Int:=if iH set b=0 then (if m.length=32 then 0 else 3) else iH set b
@[irreducible] def AG (set:Int) (b m:List B8):List B8:=if oO set b m=0 then ur set b m ((wg b m).drop 32) else []
@[irreducible] def x5 (set:Int) (b m:List B8):List B8:=if oO set b m=0 then (wg b m).take 32 else []
theorem XG {set:Int} {b m r:List B8} (h:iH set b=0) (hm:m.length=32) (hr:r.length=32):AD set b m r=0:=by
 unfold AD; rw [if_pos h,if_pos ⟨hm,hr⟩]
theorem ahI (set:Int) (x xm:ah) (b m:List B8) (w:World) (hx:Bytes w x b) (hm:Bytes w xm m) :
  Ok Pr PC [.int .i64 set,.slice x.a x.n x.c,.slice xm.a xm.n xm.c] w fun v w'=>∃ (y z:ah) (er:Value),v=.tuple ⟨[.slice y.a y.n y.c,.slice z.a z.n z.c,er]⟩∧
   ak w [] w' [.row bh 1 y (bn (AG set b m)),.cut z (x5 set b m),aE.err er (oO set b m)]:=by
 refine agl ?_
 unfold P2
 have bV:=hx.len
 have Tt:=hm.len
 have hC:oO set b m=if iH set b=0 then (if m.length=32 then 0 else 3) else iH set b:=rfl
 have hV:AG set b m=if oO set b m=0 then ur set b m ((wg b m).drop 32) else []:=by unfold AG; rfl
 have hS:x5 set b m=if oO set b m=0 then (wg b m).take 32 else []:=by unfold x5; rfl
 generalize oO set b m=C at *
 generalize AG set b m=V at *
 generalize x5 set b m=K at *
 refine aB (U3 set x b w hx) ?_
 rintro e w1 ⟨he,m1⟩
 have no:∀ {w3:World} (e:Value) (c:Int),c≠0→C=c→cO w w3 e c→Mod [] w w3→∃ (y z:ah) (er:Value),Value.tuple ⟨[.slice none 0 0,.slice none 0 0,e]⟩=.tuple ⟨[.slice y.a y.n y.c,.slice z.a z.n z.c,er]⟩∧
   ak w [] w3 [.row bh 1 y (bn V),.cut z K,aE.err er C]:=by
  intro w3 e c hc g8 h m
  rw [g8] at hV hS
  rw [if_neg hc] at hV hS
  subst hV hS
  rw [g8]
  have H1:=((ak.start w).jk bh 1).push (r:=.cut ⟨none,0,0⟩ []) (Mod.refl [] w) (.inl ⟨rfl,rfl⟩) (fun b hb=>by simp [aE.cut,ah.row] at hb)
  exact ⟨⟨none,0,0⟩,⟨none,0,0⟩,e,rfl,H1.gD m h⟩
 by_cases h0:iH set b=0
 case neg=>
  rw [if_neg h0] at hC
  exact he.1.isNil (ite_true (by rw [decide_eq_false h0]; rfl) (no e _ h0 hC he m1))
 rw [if_pos h0] at hC
 obtain ⟨cD,jO,dV⟩:=XE h0
 have hk:=(mZ cD).k
 refine he.1.isNil (ite_false (by rw [decide_eq_true h0]; rfl) ?_)
 by_cases kG:m.length=32
 case neg=>
  rw [if_neg kG] at hC
  refine ite_true (by rw [decide_eq_false (show ¬ ((xm.n:Nat):Int)=32 by omega)]; rfl) (aB (DA 3 (by decide) w1) ?_)
  rintro e3 w3 ⟨h,m3⟩
  exact no e3 3 (by decide) hC (BG h m1) (m1.trans m3)
 rw [if_pos kG] at hC
 clear no
 subst hC
 rw [if_pos rfl] at hV hS
 subst hV hS
 have H:=(ak.start w).frame m1
 refine ite_false (by rw [decide_eq_true (show ((xm.n:Nat):Int)=32 by omega)]; rfl) (H.nw fun p w3 H _=>?_)
 refine aB (LH ⟨some ⟨p,0,none⟩,1,1⟩ [b] _ (e8.JT (H.av 0 rfl) (by simp) (hx.aG H.mod) (jX _)) (RM rfl (by omega))) ?_
 rintro _ w4 ⟨g,rfl,hg,m4⟩
 rw [show [b].flatten=b by simp] at hg
 rw [XF] at hg
 have hgl:=ajb b
 have H:=H.cB m4 hg
 refine bW (H.nw fun p1 w5 H _=>?_)
 refine aB (LJ ⟨some ⟨p1,0,none⟩,2,2⟩ [m,qC b] _ (e8.zM (H.av 2 rfl) (by simp) (hm.aG H.mod) (jX _) (H.bytes 1 rfl) (jX _)) (zm rfl (by omega) (by omega))) ?_
 rintro _ w6 ⟨u,rfl,hu,m6⟩
 rw [show [m,qC b].flatten=m ++ qC b by simp] at hu
 rw [al5] at hu
 have jE:=YG b m
 generalize wg b m=G at *
 have H:=H.cB m6 hu
 have FV:=(H.bytes 3 rfl).len
 have huc:=(H.bytes 3 rfl).cap
 refine bW (zn 32 rfl (by omega) fun zr nr kr=>?_)
 have zT:(G.drop 32).length=32:=by rw [List.length_drop]; omega
 refine aB (VV set x xm zr b m (G.drop 32) _ (hx.aG H.mod) (hm.aG H.mod) (kr _ G (H.bytes 3 rfl) (by omega))) ?_
 rw [XG h0 kG zT]
 rintro _ w7 ⟨y,er,rfl,hy,Gj,hn7,m7⟩
 have H:=H.cB m7 hy
 refine ⟨_,rfl,y,rfl,rfl,Gj.1.isNil (ite_false rfl ⟨⟨by decide,by decide,by omega⟩,?_⟩)⟩
 refine ⟨y,⟨u.a,32,32⟩,.nilIface,rfl,?_⟩
 exact ((H.Zy 3 rfl 32 (by omega) (by omega)).two 4 3 rfl rfl (by omega)).gD (Mod.drew _ _) (qw _ _)
def x6 (set:Int) (l c:List B8):Int:=if uv set l=0 then (if c.length=nR set then (if iH set (pS set l)=0 then we set (pO set l) c else iH set (pS set l)) else 3) else uv set l
def x7 (set:Int) (l c:List B8):List B8:=AE set (pO set l) c
@[irreducible] def qk (set:Int) (l c:List B8):List B8:=e9 72 6 (x7 set l c ++ pH set l) 64
@[irreducible] def uw (set:Int) (l c:List B8):List B8:=if x6 set l c=0 then (if ur set (pS set l) (x7 set l c) ((qk set l c).drop 32)=c then (qk set l c).take 32 else e9 136 31 (pR set l ++ c) 32) else []
theorem aj6 {set:Int} {b c:List B8} (h:we set b c=0):(AE set b c).length=32:=by
 unfold AE; rw [if_pos h,ai9]
theorem ahJ (set:Int) (x xc:ah) (l c:List B8) (w:World) (hx:Bytes w x l) (hc:Bytes w xc c) :
  Ok Pr PB [.int .i64 set,.slice x.a x.n x.c,.slice xc.a xc.n xc.c] w fun v w'=>∃ (y:ah) (er:Value),v=.tuple ⟨[.slice y.a y.n y.c,er]⟩∧
   ak w [] w' [.cut y (uw set l c),aE.err er (x6 set l c)]:=by
 refine agk ?_
 unfold P1
 rw [YF]
 have bV:=hx.len
 have tY:=hx.cap
 have Ki:=hc.len
 have hC:x6 set l c=if uv set l=0 then (if c.length=nR set then (if iH set (pS set l)=0 then we set (pO set l) c else iH set (pS set l)) else 3) else uv set l:=rfl
 have hV:uw set l c=if x6 set l c=0 then (if ur set (pS set l) (x7 set l c) ((qk set l c).drop 32)=c then (qk set l c).take 32 else e9 136 31 (pR set l ++ c) 32) else []:=by unfold uw; rfl
 generalize x6 set l c=C at *
 generalize uw set l c=V at *
 have no:∀ {w3:World} (e:Value) (d:Int),d≠0→C=d→cO w w3 e d→Mod [] w w3→∃ (y:ah) (er:Value),Value.tuple ⟨[.slice none 0 0,e]⟩=.tuple ⟨[.slice y.a y.n y.c,er]⟩∧
   ak w [] w3 [.cut y V,aE.err er C]:=by
  intro w3 e d hd hCd h m
  rw [hCd] at hV
  rw [if_neg hd] at hV
  subst hV
  rw [hCd]
  have H1:=(ak.start w).push (r:=.cut ⟨none,0,0⟩ []) (Mod.refl [] w) (.inl ⟨rfl,rfl⟩) (fun b hb=>by simp [aE.cut,ah.row] at hb)
  exact ⟨⟨none,0,0⟩,e,rfl,H1.gD m h⟩
 refine aB (afr set x l w hx) ?_
 rintro e w1 ⟨he,m1⟩
 by_cases h0:uv set l=0
 case neg=>
  rw [if_neg h0] at hC
  exact he.1.isNil (ite_true (by rw [decide_eq_false h0]; rfl) (no e _ h0 hC he m1))
 rw [if_pos h0] at hC
 obtain ⟨cD,hn⟩:=aj5 h0
 obtain ⟨h1,h2,h3,h4⟩:=AF cD
 have hk:=(mZ cD).k
 have hdu:=(mZ cD).du
 have hdv:=(mZ cD).dv
 have hdk:(dz set).du * (dz set).k≤11 * 4:=Nat.mul_le_mul (by omega) hk.2
 obtain ⟨lS,lO,lH,lR⟩:=Zz cD hn
 refine he.1.isNil (ite_false (by rw [decide_eq_true h0]; rfl) (aB (VE set w1) ?_))
 rintro _ w2 ⟨rfl,m2⟩
 have m2:=m1.trans m2
 refine ⟨_,rfl,_,rfl,_,rfl,_,rfl,rfl,?_⟩
 by_cases Kl:c.length=nR set
 case neg=>
  rw [if_neg Kl] at hC
  refine ite_true (by rw [decide_eq_false (show ¬ ((xc.n:Nat):Int)=((nR set:Nat):Int) by omega)]; rfl) (aB (DA 3 (by decide) w2) ?_)
  rintro e3 w3 ⟨h,m3⟩
  exact no e3 3 (by decide) hC (BG h m2) (m2.trans m3)
 rw [if_pos Kl] at hC
 refine ite_false (by rw [decide_eq_true (show ((xc.n:Nat):Int)=((nR set:Nat):Int) by omega)]; rfl) (aB (VF set cD x (by omega) tY _) ?_)
 rintro _ w4 ⟨x0,x1,x2,x3,rfl,m4,kp⟩
 have H:=(ak.start w).frame (m2.trans m4)
 refine Vr (H.nw fun p w5 H _=>H.wN 0 rfl rfl fun w6 H=>?_)
 have H:ak w [] w6 [.av p (yP x0 x1 x2 x3) rm]:=H
 obtain ⟨k0,k1,k2,k3⟩:=kp _ l (hx.aG H.mod)
 have aoq:=H.mod.size
 refine H.ax 0 rfl (au p 1) rfl (aB (U3 set x1 _ w6 k1) ?_)
 rintro e7 w7 ⟨Gj,m7⟩
 have H:=H.frame m7
 have aor:=H.mod.size
 by_cases hp:iH set (pS set l)=0
 case neg=>
  rw [if_neg hp] at hC
  refine Gj.1.isNil (ite_true (by rw [decide_eq_false hp]; rfl) (no e7 _ hp hC (Gj.from aoq) H.mod))
 rw [if_pos hp] at hC
 refine Gj.1.isNil (ite_false (by rw [decide_eq_true hp]; rfl) (H.ax 0 rfl (au p 0) rfl (aB (ahG set x0 xc _ c _ (k0.aG m7) (hc.aG H.mod)) ?_)))
 rintro _ w8 ⟨y,er,rfl,hy,CS,hn8,m8⟩
 have H:=H.cB m8 hy
 by_cases h8:we set (pO set l) c=0
 case neg=>
  refine ⟨_,rfl,y,rfl,rfl,CS.1.isNil (ite_true (by rw [decide_eq_false h8]; rfl) (no er _ h8 hC (CS.from aor) H.mod))⟩
 rw [h8] at hC
 rw [hC,if_pos rfl] at hV
 have lM:=aj6 h8
 have CS:=CS.1
 rw [h8] at CS
 refine ⟨_,rfl,y,rfl,rfl,CS.isNil (ite_false rfl (H.ax 0 rfl (au p 2) rfl (H.nw fun p1 w9 H _=>?_)))⟩
 change V=(if ur set (pS set l) (x7 set l c) ((qk set l c).drop 32)=c then (qk set l c).take 32 else e9 136 31 (pR set l ++ c) 32) at hV
 have eG:qk set l c=e9 72 6 (x7 set l c ++ pH set l) 64:=by unfold qk; rfl
 have lG:(qk set l c).length=64:=by unfold qk; exact s4 72 6 _ 64 (by omega)
 have H:ak w [] w9 [.av p (yP x0 x1 x2 x3) rm,.row bh 1 y (bn (x7 set l c)),.av p1 [.slice y.a y.n y.c,.slice x2.a x2.n x2.c] bJ]:=H
 change (x7 set l c).length=32 at lM
 generalize qk set l c=G at *
 generalize x7 set l c=M at *
 obtain ⟨k0,k1,k2,k3⟩:=kp _ l (hx.aG H.mod)
 refine aB (LJ ⟨some ⟨p1,0,none⟩,2,2⟩ [M,pH set l] _ (e8.zM (H.av 2 rfl) (by simp) (H.bytes 1 rfl) (jX _) k2 (jX _)) (zm rfl (by omega) (by omega))) ?_
 rintro _ cL ⟨u,rfl,hu,Gh⟩
 rw [show [M,pH set l].flatten=M ++ pH set l by simp,← eG] at hu
 have H:=(H.cB Gh hu).drew
 have FV:=(H.bytes 3 rfl).len
 have huc:=(H.bytes 3 rfl).cap
 refine bW (H.ax 0 rfl (au p 1) rfl (zn 32 rfl (by omega) fun zr nr kr=>?_))
 have zT:(G.drop 32).length=32:=by rw [List.length_drop]; omega
 obtain ⟨k0,k1,k2,k3⟩:=kp _ l (hx.aG H.mod)
 refine aB (VV set x1 y zr (pS set l) M (G.drop 32) _ k1 (H.bytes 1 rfl) (kr _ G (H.bytes 3 rfl) (by omega))) ?_
 rw [XG hp lM zT]
 rintro _ cX ⟨z,TU,rfl,hz,aos,arw,qU⟩
 have H:=H.cB qU hz
 refine ⟨_,rfl,z,rfl,rfl,aos.1.isNil (ite_false rfl (aB (Mx z xc _ _ _ hz.bytes (hc.aG H.mod)) ?_))⟩
 rintro _ fR ⟨rfl,hw⟩
 subst hw
 rw [hC]
 refine bu ?_
 by_cases hq:ur set (pS set l) M (G.drop 32)=c
 ·rw [if_pos hq] at hV
  subst hV
  refine ite_false (by rw [decide_eq_true hq]; rfl) ⟨⟨by decide,by decide,by omega⟩,⟨u.a,32,32⟩,.nilIface,rfl,?_⟩
  exact ((H.Zy 3 rfl 32 (by omega) (by omega)).only 3 rfl).gD (Mod.refl _ _) (qw _ _)
 ·rw [if_neg hq] at hV
  obtain ⟨Z,hZ⟩:∃ Z,Z=e9 136 31 (pR set l ++ c) 32:=⟨_,rfl⟩
  rw [← hZ] at hV
  subst hV
  refine ite_true (by rw [decide_eq_false hq]; rfl) (H.ax 0 rfl (au p 3) rfl (H.nw fun p2 fF H _=>?_))
  obtain ⟨k0,k1,k2,k3⟩:=kp _ l (hx.aG H.mod)
  refine aB (Lo 32 ⟨some ⟨p2,0,none⟩,2,2⟩ [pR set l,c] _ (e8.zM (H.av 5 rfl) (by simp) k3 (jX _) (hc.aG H.mod) (jX _)) (zm rfl (by omega) (by omega))) ?_
  rintro _ fX ⟨v,rfl,hv,qh⟩
  rw [show [pR set l,c].flatten=pR set l ++ c by simp,← hZ] at hv
  have H:=H.cB qh hv
  exact bW ⟨v,.nilIface,rfl,((H.Ey 6 rfl).only 6 rfl).gD (Mod.refl _ _) (qw _ _)⟩
end Go.Proofs.YtgjoehgomjgckaaGreatDoor
end
section
set_option linter.unusedVariables false
set_option linter.unusedSimpArgs false
namespace Go.Proofs.YtgjoehgomjgckaaGreatDoor
open Go Go.Ev
set_option maxRecDepth 100000
set_option linter.unusedVariables false
def Pb (l:ah) (w:World) (R:Value→World→Prop):Prop:=
 cY (fun (a:Int)=>[(3,some (.int .i64 a))])
 (fun b a c=>aA ((decide (a<(l.n:Int))) && (decide ((l.n:Int)≤8)))
 (aU l.a a l.n
 (an .i64 (Addr.add (Addr.add (base l.a) (Int.toNat a * 6)) 0) c fun d=>
 (aF (a+1)∧
 aA (!decide (d=a+1))
 (R (.bool false) c)
 (aU l.a a l.n
 (iI (Addr.add (base l.a) (Int.toNat a * 6)) c fun e f g i j k=>
 az Pr OF [.agg ⟨[.int .i64 e,.int .i64 f,.int .i64 g,.int .i64 i,.int .i64 j,.bool k]⟩] c fun m n=>
 aW m fun o=>
 aA (!o)
 (R (.bool false) n)
 ((aF (a+1)∧
 b (a+1) n)))))))
 (R (.bool (decide ((l.n:Int)≤8))) c))
 0 w
theorem afs {l:ah} {w:World} {R:Value→World→Prop} (h:Pb l w R):Ok Pr OC [.slice l.a l.n l.c] w R:=
 aL (m:=⟨true,true⟩) (J:=[]) (L:=[(2,[(3,.int .i64)])]) aJ Tryz.func49 (by kernel_rfl) ((by kernel_rfl:aK Pr _ _ _ Tryz.f49 _ w R=Pb l w R).mpr h)
def N6 (l:ah) (w:World) (R:Value→World→Prop):Prop:=
 cY (fun (a:Int)=>[(7,some (.int .i64 a))])
 (fun b a c=>aA (decide (a<(l.n:Int)))
 (aU l.a a l.n
 (iI (Addr.add (base l.a) (Int.toNat a * 6)) c fun d e f g i j=>
 nw cJ (zc Pr cJ) c fun k m=>
 oh k d e f g i j m fun n=>
 an .i64 (Addr.add k 0) n fun o=>
 (aF (a+1)∧
 iI k n fun p q s t u v=>
 aA (!decide (o=a+1))
 (R (.bool false) n)
 (az Pr Hi [.agg ⟨[.int .i64 p,.int .i64 q,.int .i64 s,.int .i64 t,.int .i64 u,.bool v]⟩] n fun x y=>
 aW x fun z=>
 aA (!z)
 (R (.bool false) y)
 ((aF (a+1)∧
 b (a+1) y))))))
 (R (.bool (decide ((l.n:Int)≤8))) c))
 0 w
theorem aeI {l:ah} {w:World} {R:Value→World→Prop} (h:N6 l w R):Ok Pr AY [.slice l.a l.n l.c] w R:=
 aL (m:=⟨true,true⟩) (J:=[]) (L:=[(2,[(7,.int .i64)])]) aJ Tryz.func69 (by kernel_rfl) ((by kernel_rfl:aK Pr _ _ _ Tryz.f69 _ w R=N6 l w R).mpr h)
def KA (s:ah) (f:Value) (w:World) (R:Value→World→Prop):Prop:=
 az Pr C1 [.slice s.a s.n s.c,f] w fun a b=>
 bk .i64 a fun c=>
 R (.bool (decide (0≤c))) b
theorem abZ {s:ah} {f:Value} {w:World} {R:Value→World→Prop} (h:KA s f w R):Ok Pr Kz [.slice s.a s.n s.c,f] w R:=
 aL (m:=⟨true,true⟩) (J:=[]) (L:=[]) aJ Tryz.func73 (by kernel_rfl) ((by kernel_rfl:aK Pr _ _ _ Tryz.f73 _ w R=KA s f w R).mpr h)
def KI (s:ah) (w:World) (R:Value→World→Prop):Prop:=
 aA (Option.isNone (α:=Addr) s.a)
 (R (.slice none 0 0) w)
 (nw cJ [] w fun a b=>
 cG Pr [l8,l8] l8 [.slice (some a) 0 0,.slice s.a s.n s.c] b fun c d=>
 R (.slice c.a c.n c.c) d)
theorem ab4 {s:ah} {w:World} {R:Value→World→Prop} (h:KI s w R):Ok Pr AO [.slice s.a s.n s.c] w R:=
 aL (m:=⟨true,true⟩) (J:=[]) (L:=[]) aJ Tryz.func79 (by kernel_rfl) ((by kernel_rfl:aK Pr _ _ _ Tryz.f79 _ w R=KI s w R).mpr h)
def Pc (eJ:Int) (eR:Int) (eX:Int) (eY:Int) (eZ:Int) (e6:Bool) (w:World) (R:Value→World→Prop):Prop:=
 nw cJ [.int .i64 eJ,.int .i64 eR,.int .i64 eX,.int .i64 eY,.int .i64 eZ,.bool e6] w fun a b=>
 an .i64 (Addr.add a 1) b fun c=>
 an .i64 (Addr.add a 1) b fun d=>
 an .i64 (Addr.add a 2) b fun e=>
 an .i64 (Addr.add a 2) b fun f=>
 an .i64 (Addr.add a 4) b fun g=>
 an .i64 (Addr.add a 4) b fun i=>
 an .i64 (Addr.add a 3) b fun j=>
 an .i64 (Addr.add a 3) b fun k=>
 R (.bool ((((((((decide (1≤c)) && (decide (d≤6))) && (decide (1≤e))) && (decide (f≤6))) && (decide (1≤g))) && (decide (i≤1099511627776))) && (decide (0<j))) && (decide (vl .i64 k 3584=0)))) b
theorem aft {eJ:Int} {eR:Int} {eX:Int} {eY:Int} {eZ:Int} {e6:Bool} {w:World} {R:Value→World→Prop} (h:Pc eJ eR eX eY eZ e6 w R):Ok Pr OF [.agg ⟨[.int .i64 eJ,.int .i64 eR,.int .i64 eX,.int .i64 eY,.int .i64 eZ,.bool e6]⟩] w R:=
 aL (m:=⟨true,true⟩) (J:=[]) (L:=[]) aJ Tryz.func101 (by kernel_rfl) ((by kernel_rfl:aK Pr _ _ _ Tryz.f101 _ w R=Pc eJ eR eX eY eZ e6 w R).mpr h)
def My (l:ah) (bN:ah) (token:ah) (w:World) (R:Value→World→Prop):Prop:=
 nw bJ [.slice bN.a bN.n bN.c] w fun a b=>
 nw bJ [.slice token.a token.n token.c] b fun c d=>
 nw cJ (zc Pr cJ) d fun e f=>
 az Pr AY [.slice l.a l.n l.c] f fun g i=>
 aW g fun j=>
 aA (!j)
 (az Pr qn [.int .i64 2] i fun k m=>
 oh e 0 0 0 0 0 false m fun n=>
 iI e n fun o p q s t u=>
 R (.tuple ⟨[.agg ⟨[.int .i64 o,.int .i64 p,.int .i64 q,.int .i64 s,.int .i64 t,.bool u]⟩,k]⟩) n)
 (az Pr C1 [.slice l.a l.n l.c,.func (.func wA) ⟨[]⟩ ⟨[.pointer (some a),.pointer (some c)]⟩] i fun v x=>
 bk .i64 v fun y=>
 aA (decide (y<0))
 (az Pr qn [.int .i64 15] x fun z A=>
 oh e 0 0 0 0 0 false A fun B=>
 iI e B fun C D E F G I=>
 R (.tuple ⟨[.agg ⟨[.int .i64 C,.int .i64 D,.int .i64 E,.int .i64 F,.int .i64 G,.bool I]⟩,z]⟩) B)
 (aU l.a y l.n
 (iI (Addr.add (base l.a) (Int.toNat y * 6)) x fun J L M N O Q=>
 oh e J L M N O Q x fun S=>
 iI e S fun T U V X Y Z=>
 R (.tuple ⟨[.agg ⟨[.int .i64 T,.int .i64 U,.int .i64 V,.int .i64 X,.int .i64 Y,.bool Z]⟩,.nilIface]⟩) S)))
theorem adz {l:ah} {bN:ah} {token:ah} {w:World} {R:Value→World→Prop} (h:My l bN token w R):Ok Pr G6 [.slice l.a l.n l.c,.slice bN.a bN.n bN.c,.slice token.a token.n token.c] w R:=
 aL (m:=⟨true,true⟩) (J:=[]) (L:=[]) aJ Tryz.func109 (by kernel_rfl) ((by kernel_rfl:aK Pr _ _ _ Tryz.f109 _ w R=My l bN token w R).mpr h)
def L3 (eJ:Int) (eR:Int) (eX:Int) (eY:Int) (eZ:Int) (e6:Bool) (key:Int) (dM:Int) (op:Int) (clock:Int) (w:World) (R:Value→World→Prop):Prop:=
 nw cJ [.int .i64 eJ,.int .i64 eR,.int .i64 eX,.int .i64 eY,.int .i64 eZ,.bool e6] w fun a b=>
 jl (fun (c:Bool)=>[(43,some (.bool c))])
 (fun c d=>aA c
 (az Pr qn [.int .i64 10] d fun e f=>
 R e f)
 (R (.nilIface) d))
 (fun g=>
 lZ (Addr.add a 5) b fun i=>
 an .i64 (Addr.add a 1) b fun j=>
 an .i64 (Addr.add a 2) b fun k=>
 aA ((i || (!decide (j=key))) || (!decide (k=dM)))
 (an .i64 (Addr.add a 3) b fun l=>
 an .i64 (Addr.add a 4) b fun m=>
 g true b)
 (az Pr yF [.int .i64 op,.int .i64 1,.int .i64 13] b fun n o=>
 aW n fun p=>
 an .i64 (Addr.add a 3) o fun q=>
 aA (!p)
 (an .i64 (Addr.add a 4) o fun s=>
 g true o)
 (gU op (an .i64 (Addr.add a 4) o fun t=>
 g ((decide (iA .i64 (shr .i64 q op) 1=0)) || (decide (t<clock))) o))))
theorem adg {eJ:Int} {eR:Int} {eX:Int} {eY:Int} {eZ:Int} {e6:Bool} {key:Int} {dM:Int} {op:Int} {clock:Int} {w:World} {R:Value→World→Prop} (h:L3 eJ eR eX eY eZ e6 key dM op clock w R):Ok Pr LP [.agg ⟨[.int .i64 eJ,.int .i64 eR,.int .i64 eX,.int .i64 eY,.int .i64 eZ,.bool e6]⟩,.int .i64 key,.int .i64 dM,.int .i64 op,.int .i64 clock] w R:=
 aL (m:=⟨true,true⟩) (J:=[(2,[(43,.bool)])]) (L:=[]) aJ Tryz.func110 (by kernel_rfl) ((by kernel_rfl:aK Pr _ _ _ Tryz.f110 _ w R=L3 eJ eR eX eY eZ e6 key dM op clock w R).mpr h)
def L4 (l:ah) (fz:Int) (w:World) (R:Value→World→Prop):Prop:=
 az Pr AY [.slice l.a l.n l.c] w fun a b=>
 aW a fun c=>
 aA (!c)
 (az Pr qn [.int .i64 2] b fun d e=>
 R (.tuple ⟨[.slice none 0 0,d]⟩) e)
 (az Pr yF [.int .i64 fz,.int .i64 1,.int .i64 (l.n:Int)] b fun f g=>
 aW f fun i=>
 aA (!i)
 (az Pr qn [.int .i64 9] g fun j k=>
 R (.tuple ⟨[.slice none 0 0,j]⟩) k)
 ((aF (fz - 1)∧
 aU l.a (fz - 1) l.n
 (lZ (Addr.add (Addr.add (base l.a) (Int.toNat (fz - 1) * 6)) 5) g fun m=>
 aA m
 (az Pr qn [.int .i64 11] g fun n o=>
 R (.tuple ⟨[.slice none 0 0,n]⟩) o)
 (az Pr AO [.slice l.a l.n l.c] g fun p q=>
 aT p fun s=>
 (aF (fz - 1)∧
 aU s.a (fz - 1) s.n
 (st (Addr.add (Addr.add (base s.a) (Int.toNat (fz - 1) * 6)) 5) (.bool true) q fun t=>
 R (.tuple ⟨[.slice s.a s.n s.c,.nilIface]⟩) t)))))))
theorem adh {l:ah} {fz:Int} {w:World} {R:Value→World→Prop} (h:L4 l fz w R):Ok Pr LQ [.slice l.a l.n l.c,.int .i64 fz] w R:=
 aL (m:=⟨true,true⟩) (J:=[]) (L:=[]) aJ Tryz.func116 (by kernel_rfl) ((by kernel_rfl:aK Pr _ _ _ Tryz.f116 _ w R=L4 l fz w R).mpr h)
def N7 (l:ah) (eJ:Int) (eR:Int) (eX:Int) (eY:Int) (eZ:Int) (e6:Bool) (w:World) (R:Value→World→Prop):Prop:=
 nw cJ [.int .i64 eJ,.int .i64 eR,.int .i64 eX,.int .i64 eY,.int .i64 eZ,.bool e6] w fun a b=>
 jL []
 (fun c=>(aF ((l.n:Int)+1)∧
 st (Addr.add a 0) (.int .i64 ((l.n:Int)+1)) c fun d=>
 st (Addr.add a 5) (.bool false) d fun e=>
 iI a (World.drew e) fun f g i j k m=>
 an .i64 (Addr.add a 0) (World.drew e) fun n=>
 ((az Pr AO [.slice l.a l.n l.c] (World.drew e) fun o p=>
 aT o fun q=>
 (kept (Addr.add a 0) 1 (World.drew e) p∧
 (kept a 6 (World.drew e) p∧
 nw cJ [.int .i64 f,.int .i64 g,.int .i64 i,.int .i64 j,.int .i64 k,.bool m] p fun s t=>
 (kept (Addr.add a 0) 1 p t∧
 cG Pr [l8,l8] l8 [.slice q.a q.n q.c,.slice (some s) 1 1] t fun u v=>
 (kept (Addr.add a 0) 1 t v∧
 R (.tuple ⟨[.slice u.a u.n u.c,.int .i64 n,.nilIface]⟩) v)))))∧
 (nw cJ [.int .i64 f,.int .i64 g,.int .i64 i,.int .i64 j,.int .i64 k,.bool m] (World.drew e) fun x y=>
 (kept (Addr.add a 0) 1 (World.drew e) y∧
 az Pr AO [.slice l.a l.n l.c] y fun z A=>
 aT z fun B=>
 (kept (Addr.add a 0) 1 y A∧
 (kept a 6 y A∧
 cG Pr [l8,l8] l8 [.slice B.a B.n B.c,.slice (some x) 1 1] A fun C D=>
 (kept (Addr.add a 0) 1 A D∧
 R (.tuple ⟨[.slice C.a C.n C.c,.int .i64 n,.nilIface]⟩) D))))))))
 (fun E=>
 jl (fun (F:Bool)=>[(7,some (.bool F))])
 (fun F G=>aA F
 (az Pr qn [.int .i64 2] G fun I J=>
 R (.tuple ⟨[.slice none 0 0,.int .i64 0,I]⟩) J)
 (aA (decide ((l.n:Int)=8))
 (az Pr qn [.int .i64 12] G fun L M=>
 R (.tuple ⟨[.slice none 0 0,.int .i64 0,L]⟩) M)
 (E G)))
 (fun N=>
 az Pr AY [.slice l.a l.n l.c] b fun O Q=>
 aW O fun S=>
 aA (!S)
 (N (!S) Q)
 (iI a Q fun T U V X Y Z=>
 az Pr Hi [.agg ⟨[.int .i64 T,.int .i64 U,.int .i64 V,.int .i64 X,.int .i64 Y,.bool Z]⟩] Q fun aa ba=>
 aW aa fun ca=>
 N (!ca) ba)))
theorem aeJ {l:ah} {eJ:Int} {eR:Int} {eX:Int} {eY:Int} {eZ:Int} {e6:Bool} {w:World} {R:Value→World→Prop} (h:N7 l eJ eR eX eY eZ e6 w R):Ok Pr NG [.slice l.a l.n l.c,.agg ⟨[.int .i64 eJ,.int .i64 eR,.int .i64 eX,.int .i64 eY,.int .i64 eZ,.bool e6]⟩] w R:=
 aL (m:=⟨true,true⟩) (J:=[(6,[]),(3,[(7,.bool)])]) (L:=[]) aJ Tryz.func117 (by kernel_rfl) ((by kernel_rfl:aK Pr _ _ _ Tryz.f117 _ w R=N7 l eJ eR eX eY eZ e6 w R).mpr h)
def Mz (bN:ah) (eJ:Int) (eR:Int) (eX:Int) (eY:Int) (eZ:Int) (e6:Bool) (w:World) (R:Value→World→Prop):Prop:=
 nw cJ [.int .i64 eJ,.int .i64 eR,.int .i64 eX,.int .i64 eY,.int .i64 eZ,.bool e6] w fun a b=>
 an .i64 (Addr.add a 0) b fun c=>
 an .i64 (Addr.add a 1) b fun d=>
 an .i64 (Addr.add a 2) b fun e=>
 an .i64 (Addr.add a 3) b fun f=>
 an .i64 (Addr.add a 4) b fun g=>
 nw bD [.int .i64 c,.int .i64 d,.int .i64 e,.int .i64 f,.int .i64 g] b fun i j=>
 az Pr Hj [.slice none 0 0,.slice (some i) 5 5] j fun k l=>
 aT k fun m=>
 an .i64 (Addr.add a 0) (World.drew l) fun n=>
 ((nw bh [.int .u8 (IntKind.wrap .u8 (n))] (World.drew l) fun o p=>
 nw bJ [.slice bN.a bN.n bN.c] p fun q s=>
 (kept (Addr.add a 0) 1 p s∧
 az Pr AZ [.slice none 0 0,.slice (some q) 1 1] s fun t u=>
 aT t fun v=>
 (kept (Addr.add a 0) 1 s u∧
 nw bJ [.slice v.a v.n v.c,.slice m.a m.n m.c] u fun x y=>
 (kept (Addr.add a 0) 1 u y∧
 az Pr sR [.int .i64 32,.slice (some x) 2 2] y fun z A=>
 aT z fun B=>
 (kept (Addr.add a 0) 1 y A∧
 cG Pr [bJ,bJ] bJ [.slice (some o) 1 1,.slice B.a B.n B.c] A fun C D=>
 R (.slice C.a C.n C.c) D)))))∧
 (nw bJ [.slice bN.a bN.n bN.c] (World.drew l) fun E F=>
 (kept (Addr.add a 0) 1 (World.drew l) F∧
 ((nw bh [.int .u8 (IntKind.wrap .u8 (n))] F fun G I=>
 az Pr AZ [.slice none 0 0,.slice (some E) 1 1] I fun J L=>
 aT J fun M=>
 (kept (Addr.add a 0) 1 I L∧
 nw bJ [.slice M.a M.n M.c,.slice m.a m.n m.c] L fun N O=>
 (kept (Addr.add a 0) 1 L O∧
 az Pr sR [.int .i64 32,.slice (some N) 2 2] O fun Q S=>
 aT Q fun T=>
 (kept (Addr.add a 0) 1 O S∧
 cG Pr [bJ,bJ] bJ [.slice (some G) 1 1,.slice T.a T.n T.c] S fun U V=>
 R (.slice U.a U.n U.c) V))))∧
 (az Pr AZ [.slice none 0 0,.slice (some E) 1 1] F fun X Y=>
 aT X fun Z=>
 (kept (Addr.add a 0) 1 F Y∧
 ((nw bh [.int .u8 (IntKind.wrap .u8 (n))] Y fun aa ba=>
 nw bJ [.slice Z.a Z.n Z.c,.slice m.a m.n m.c] ba fun ca da=>
 (kept (Addr.add a 0) 1 ba da∧
 az Pr sR [.int .i64 32,.slice (some ca) 2 2] da fun ea fa=>
 aT ea fun ga=>
 (kept (Addr.add a 0) 1 da fa∧
 cG Pr [bJ,bJ] bJ [.slice (some aa) 1 1,.slice ga.a ga.n ga.c] fa fun ia ja=>
 R (.slice ia.a ia.n ia.c) ja)))∧
 (nw bJ [.slice Z.a Z.n Z.c,.slice m.a m.n m.c] Y fun ka la=>
 (kept (Addr.add a 0) 1 Y la∧
 ((nw bh [.int .u8 (IntKind.wrap .u8 (n))] la fun ma na=>
 az Pr sR [.int .i64 32,.slice (some ka) 2 2] na fun oa pa=>
 aT oa fun qa=>
 (kept (Addr.add a 0) 1 na pa∧
 cG Pr [bJ,bJ] bJ [.slice (some ma) 1 1,.slice qa.a qa.n qa.c] pa fun sa ta=>
 R (.slice sa.a sa.n sa.c) ta))∧
 (az Pr sR [.int .i64 32,.slice (some ka) 2 2] la fun ua va=>
 aT ua fun xa=>
 (kept (Addr.add a 0) 1 la va∧
 nw bh [.int .u8 (IntKind.wrap .u8 (n))] va fun ya za=>
 cG Pr [bJ,bJ] bJ [.slice (some ya) 1 1,.slice xa.a xa.n xa.c] za fun Aa Ba=>
 R (.slice Aa.a Aa.n Aa.c) Ba))))))))))))
theorem adA {bN:ah} {eJ:Int} {eR:Int} {eX:Int} {eY:Int} {eZ:Int} {e6:Bool} {w:World} {R:Value→World→Prop} (h:Mz bN eJ eR eX eY eZ e6 w R):Ok Pr G7 [.slice bN.a bN.n bN.c,.agg ⟨[.int .i64 eJ,.int .i64 eR,.int .i64 eX,.int .i64 eY,.int .i64 eZ,.bool e6]⟩] w R:=
 aL (m:=⟨true,true⟩) (J:=[]) (L:=[]) aJ Tryz.func118 (by kernel_rfl) ((by kernel_rfl:aK Pr _ _ _ Tryz.f118 _ w R=Mz bN eJ eR eX eY eZ e6 w R).mpr h)
def Nd (eJ:Int) (eR:Int) (eX:Int) (eY:Int) (eZ:Int) (e6:Bool) (w:World) (R:Value→World→Prop):Prop:=
 nw cJ [.int .i64 eJ,.int .i64 eR,.int .i64 eX,.int .i64 eY,.int .i64 eZ,.bool e6] w fun a b=>
 an .i64 (Addr.add a 1) b fun c=>
 az Pr yF [.int .i64 c,.int .i64 1,.int .i64 6] b fun d e=>
 aW d fun f=>
 an .i64 (Addr.add a 2) e fun g=>
 aA f
 (az Pr yF [.int .i64 g,.int .i64 1,.int .i64 6] e fun i j=>
 aW i fun k=>
 an .i64 (Addr.add a 4) j fun l=>
 aA k
 (az Pr yF [.int .i64 l,.int .i64 1,.int .i64 1099511627776] j fun m n=>
 aW m fun o=>
 an .i64 (Addr.add a 3) n fun p=>
 an .i64 (Addr.add a 3) n fun q=>
 R (.bool ((o && (!decide (p=0))) && (decide (vl .i64 q 3584=0)))) n)
 (an .i64 (Addr.add a 3) j fun s=>
 an .i64 (Addr.add a 3) j fun t=>
 R (.bool false) j))
 (an .i64 (Addr.add a 4) e fun u=>
 an .i64 (Addr.add a 3) e fun v=>
 an .i64 (Addr.add a 3) e fun x=>
 R (.bool false) e)
theorem ad4 {eJ:Int} {eR:Int} {eX:Int} {eY:Int} {eZ:Int} {e6:Bool} {w:World} {R:Value→World→Prop} (h:Nd eJ eR eX eY eZ e6 w R):Ok Pr Hi [.agg ⟨[.int .i64 eJ,.int .i64 eR,.int .i64 eX,.int .i64 eY,.int .i64 eZ,.bool e6]⟩] w R:=
 aL (m:=⟨true,true⟩) (J:=[]) (L:=[]) aJ Tryz.func125 (by kernel_rfl) ((by kernel_rfl:aK Pr _ _ _ Tryz.f125 _ w R=Nd eJ eR eX eY eZ e6 w R).mpr h)
def GH (s:ah) (f:Value) (w:World) (R:Value→World→Prop):Prop:=
 cY (fun (a:Int)=>[(8,some (.int .i64 a))])
 (fun b a c=>aA (decide (a<(s.n:Int)))
 (aU s.a a s.n
 (iI (Addr.add (base s.a) (Int.toNat a * 6)) c fun d e g i j k=>
 lN Pr f [.agg ⟨[.int .i64 d,.int .i64 e,.int .i64 g,.int .i64 i,.int .i64 j,.bool k]⟩] c fun l m=>
 aW l fun n=>
 aA n
 (R (.int .i64 a) m)
 ((aF (a+1)∧
 b (a+1) m))))
 (R (.int .i64 (-1:Int)) c))
 0 w
theorem Uq {s:ah} {f:Value} {w:World} {R:Value→World→Prop} (h:GH s f w R):Ok Pr C1 [.slice s.a s.n s.c,f] w R:=
 aL (m:=⟨true,true⟩) (J:=[]) (L:=[(2,[(8,.int .i64)])]) aJ Tryz.func129 (by kernel_rfl) ((by kernel_rfl:aK Pr _ _ _ Tryz.f129 _ w R=GH s f w R).mpr h)
def MA (code:Int) (w:World) (R:Value→World→Prop):Prop:=
 nw oX [.int .i64 code,.string ajB] w fun a b=>
 R (.iface jy (.pointer (some a))) b
theorem adB {code:Int} {w:World} {R:Value→World→Prop} (h:MA code w R):Ok Pr qn [.int .i64 code] w R:=
 aL (m:=⟨true,true⟩) (J:=[]) (L:=[]) aJ Tryz.func151 (by kernel_rfl) ((by kernel_rfl:aK Pr _ _ _ Tryz.f151 _ w R=MA code w R).mpr h)
def LK (eJ:Int) (eR:Int) (eX:Int) (eY:Int) (eZ:Int) (e6:Bool) (free:Addr) (kA:Addr) (w:World) (R:Value→World→Prop):Prop:=
 nw cJ [.int .i64 eJ,.int .i64 eR,.int .i64 eX,.int .i64 eY,.int .i64 eZ,.bool e6] w fun a b=>
 ax free (World.drew b) fun c=>
 iI a (World.drew b) fun d e f g i j=>
 ax kA (World.drew b) fun k=>
 az Pr G7 [.slice c.a c.n c.c,.agg ⟨[.int .i64 d,.int .i64 e,.int .i64 f,.int .i64 g,.int .i64 i,.bool j]⟩] (World.drew b) fun l m=>
 aT l fun n=>
 (kept kA 1 (World.drew b) m∧
 az Pr Dr [.slice n.a n.n n.c,.slice k.a k.n k.c] m fun o p=>
 aW o fun q=>
 R (.bool q) p)
theorem acR {eJ:Int} {eR:Int} {eX:Int} {eY:Int} {eZ:Int} {e6:Bool} {free:Addr} {kA:Addr} {w:World} {R:Value→World→Prop} (h:LK eJ eR eX eY eZ e6 free kA w R):Ok Pr wA [.agg ⟨[.int .i64 eJ,.int .i64 eR,.int .i64 eX,.int .i64 eY,.int .i64 eZ,.bool e6]⟩,.pointer (some free),.pointer (some kA)] w R:=
 aL (m:=⟨true,true⟩) (J:=[]) (L:=[]) aJ Tryz.func152 (by kernel_rfl) ((by kernel_rfl:aK Pr _ _ _ Tryz.f152 _ w R=LK eJ eR eX eY eZ e6 free kA w R).mpr h)
def Pd (n:Int) (lo:Int) (hi:Int) (w:World) (R:Value→World→Prop):Prop:=
 R (.bool ((decide (lo≤n)) && (decide (n≤hi)))) w
theorem afu {n:Int} {lo:Int} {hi:Int} {w:World} {R:Value→World→Prop} (h:Pd n lo hi w R):Ok Pr yF [.int .i64 n,.int .i64 lo,.int .i64 hi] w R:=
 aL (m:=⟨true,true⟩) (J:=[]) (L:=[]) aJ Tryz.func154 (by kernel_rfl) ((by kernel_rfl:aK Pr _ _ _ Tryz.f154 _ w R=Pd n lo hi w R).mpr h)
end Go.Proofs.YtgjoehgomjgckaaGreatDoor
end
section
set_option linter.unusedVariables false
set_option linter.unusedSimpArgs false
namespace Go.Proofs.YtgjoehgomjgckaaGreatDoor
open Go Go.Ev
set_option maxRecDepth 20000
set_option linter.unusedVariables false
structure bP where
 (n0 n1 n2 n3 n4:Int)
 rev:Bool
@[reducible] def bP.cells (g:bP):List Value:=q8 g.n0 g.n1 g.n2 g.n3 g.n4 g.rev
def gz:bP:=⟨0,0,0,0,0,false⟩
def dY (l:List bP):List Value:=(l.map bP.cells).flatten
theorem aik (a b:List bP):dY (a ++ b)=dY a ++ dY b:=by simp [dY]
theorem Qk (l:List bP):(dY l).length=6 * l.length:=by
 induction l with
 | nil=>rfl
 | cons a r ih=>
  show (a.cells ++ dY r).length=_
  rw [List.length_append,ih]
  show 6+6 * r.length=6 * (r.length+1)
  omega
theorem YH:∀ (l:List bP) (i j:Nat) (v:Value),i<l.length→(l.getD i gz).cells[j]? = some v→(dY l)[i * 6+j]? = some v
 | [],i,j,v,h,_=>by simp at h
 | a :: r,0,j,v,_,h=>by
  show (a.cells ++ dY r)[0 * 6+j]? = _
  have h:a.cells[j]? = some v:=h
  rw [Nat.zero_mul,Nat.zero_add,List.getElem?_append_left (List.getElem?_eq_some_iff.1 h).1]
  exact h
 | a :: r,i+1,j,v,hi,h=>by
  show (a.cells ++ dY r)[(i+1) * 6+j]? = _
  have hl:a.cells.length=6:=rfl
  rw [List.getElem?_append_right (by omega),hl,show (i+1) * 6+j - 6=i * 6+j by omega]
  exact YH r i j v (by simpa using hi) (by simpa using h)
theorem Rc (l:List bP):∀ v∈dY l,ek v=true:=by
 intro v hv
 obtain ⟨c,hc,hv⟩:=List.mem_flatten.1 hv
 obtain ⟨g,-,rfl⟩:=List.mem_map.1 hc
 simp only [List.mem_cons,List.not_mem_nil,or_false] at hv
 rcases hv with rfl | rfl | rfl | rfl | rfl | rfl <;> rfl
def gQ (w:World) (s:ah) (l:List bP):Prop:=Sl w s 6 (dY l)
theorem gQ.len {w:World} {s:ah} {l:List bP} (h:gQ w s l):l.length=s.n:=by
 have:=Sl.len h
 rw [Qk] at this
 omega
theorem gQ.aG {w w':World} {s:ah} {l:List bP} (h:gQ w s l) (m:Mod [] w w'):gQ w' s l:=Sl.aG h m
theorem gQ.nil (w:World):gQ w ⟨none,0,0⟩ []:=Sl.nil w 6
theorem gQ.cell {w:World} {s:ah} {l:List bP} (h:gQ w s l) {i j:Nat} {v:Value} (hi:i<l.length) (hv:(l.getD i gz).cells[j]? = some v):w.cell? (Addr.add (Addr.add (base s.a) (i * 6)) j)=some v:=by
 rw [add_add]
 exact Sl.cell h _ _ (YH l i j v hi hv)
theorem gQ.ld {w:World} {s:ah} {l:List bP} (h:gQ w s l) {i:Nat} (hi:i<l.length) {x:Int} (hx:x=(i:Int)) {K:Int→Int→Int→Int→Int→Bool→Prop} (hk:K (l.getD i gz).n0 (l.getD i gz).n1 (l.getD i gz).n2 (l.getD i gz).n3 (l.getD i gz).n4 (l.getD i gz).rev) :
  aU s.a x s.n (iI (Addr.add (base s.a) (Int.toNat x * 6)) w K):=by
 subst hx
 have hl:=h.len
 refine ⟨⟨Sl.pre h (by omega),by omega,by omega⟩,?_⟩
 rw [Int.toNat_natCast]
 exact Dk (fun j v hv=>h.cell hi hv) hk
theorem RU:fh Pr l8 cJ 6 48:=fh.of (by kernel_rfl)
theorem Dl (c:Int) (hc:c≠0) (w:World):Ok Pr qn [.int .i64 c] w fun v w'=>cO w w' v c∧Mod [] w w':=by
 refine adB ?_
 unfold MA
 exact qv fun b w' hb h1 h2 _=>⟨cO.mk h1 (by omega) hc,h2⟩
theorem DB (n lo hi:Int) (w:World):Ok Pr yF [.int .i64 n,.int .i64 lo,.int .i64 hi] w fun v w'=>v=.bool (aP lo hi n)∧w'=w:=by
 refine afu ?_
 unfold Pd
 exact ⟨rfl,rfl⟩
def k6 (g:bP):Bool:=aP 1 6 g.n1 && (aP 1 6 g.n2 && (aP 1 1099511627776 g.n4 && ((!decide (g.n3=0)) && decide (vl .i64 g.n3 3584=0))))
theorem U5 (g:bP) (w:World):Ok Pr Hi [.agg ⟨g.cells⟩] w fun v w'=>v=.bool (k6 g)∧Mod [] w w':=by
 refine ad4 ?_
 unfold Nd
 refine (ak.start w).nw fun p w1 H _=>?_
 unfold k6
 refine H.an 0 rfl (au p 1) rfl (aB (DB _ _ _ _) ?_)
 rintro _ w2 ⟨rfl,hw⟩
 subst hw
 refine bu (H.an 0 rfl (au p 2) rfl (bU (fun h1=>?_) (fun h1=>?_)))
 ·rw [h1,Bool.true_and]
  refine aB (DB _ _ _ _) ?_
  rintro _ w3 ⟨rfl,hw⟩
  subst hw
  refine bu (H.an 0 rfl (au p 4) rfl (bU (fun h2=>?_) (fun h2=>?_)))
  ·rw [h2,Bool.true_and]
   refine aB (DB _ _ _ _) ?_
   rintro _ w4 ⟨rfl,hw⟩
   subst hw
   refine bu (H.an 0 rfl (au p 3) rfl (H.an 0 rfl (au p 3) rfl ⟨?_,H.mod⟩))
   rw [Bool.and_assoc]
  ·rw [h2]
   exact H.an 0 rfl (au p 3) rfl (H.an 0 rfl (au p 3) rfl ⟨rfl,H.mod⟩)
 ·rw [h1]
  exact H.an 0 rfl (au p 4) rfl (H.an 0 rfl (au p 3) rfl (H.an 0 rfl (au p 3) rfl ⟨rfl,H.mod⟩))
theorem ald {x:Int} (h:x<0) (h2:-9223372036854775808≤x):¬ vl .i64 x 3584=0:=by
 intro he
 unfold vl at he
 have hm:(BitVec.ofInt 64 x).msb=true:=by
  rw [BitVec.msb_eq_decide,BitVec.toNat_ofInt]
  refine decide_eq_true ?_
  omega
 have hv:(BitVec.ofInt 64 x &&& ~~~ BitVec.ofInt 64 3584).msb=true:=by
  rw [BitVec.msb_and,hm]
  decide
 have hn:=BitVec.msb_eq_decide (BitVec.ofInt 64 x &&& ~~~ BitVec.ofInt 64 3584)
 rw [hv] at hn
 have hn:=of_decide_eq_true hn.symm
 have bZ:=(BitVec.ofInt 64 x &&& ~~~ BitVec.ofInt 64 3584).isLt
 have he:IntKind.wrap .i64 (((BitVec.ofInt 64 x &&& ~~~ BitVec.ofInt 64 3584).toNat:Nat):Int)=0:=he
 generalize (BitVec.ofInt 64 x &&& ~~~ BitVec.ofInt 64 3584).toNat=n at *
 have e:IntKind.wrap .i64 (n:Int)=(n:Int) - 18446744073709551616:=by
  have e:IntKind.wrap .i64 (n:Int)=if (n:Int) % 18446744073709551616 ≥ 9223372036854775808 then (n:Int) % 18446744073709551616 - 18446744073709551616 else (n:Int) % 18446744073709551616:=by
   simp [IntKind.wrap,IntKind.signed,IntKind.bits]
  rw [e,if_pos (by omega)]
  omega
 omega
def bP.fit (g:bP):Prop:=-9223372036854775808≤g.n3
theorem ag6 (g:bP) (hf:g.fit) (w:World):Ok Pr OF [.agg ⟨g.cells⟩] w fun v w'=>v=.bool (k6 g)∧Mod [] w w':=by
 refine aft ?_
 unfold Pc
 refine (ak.start w).nw fun p w1 H _=>?_
 refine H.an 0 rfl (au p 1) rfl (H.an 0 rfl (au p 1) rfl (H.an 0 rfl (au p 2) rfl (H.an 0 rfl (au p 2) rfl (H.an 0 rfl (au p 4) rfl (H.an 0 rfl (au p 4) rfl (H.an 0 rfl (au p 3) rfl (H.an 0 rfl (au p 3) rfl ⟨?_,H.mod⟩)))))))
 congr 1
 unfold k6 aP
 have e:(decide ((0:Int)<g.n3) && decide (vl .i64 g.n3 3584=0))=((!decide (g.n3=0)) && decide (vl .i64 g.n3 3584=0)):=by
  rcases Int.lt_trichotomy g.n3 0 with h | h | h
  ·rw [decide_eq_false (ald h hf),Bool.and_false,Bool.and_false]
  ·rw [h]; rfl
  ·rw [decide_eq_true h,decide_eq_false (show ¬ g.n3=0 by omega)]; rfl
 rw [← e]
 simp only [Bool.and_assoc]
def pM (l:List bP):Nat→Bool
 | 0=>true
 | i+1=>pM l i && (decide ((l.getD i gz).n0=(i:Int)+1) && k6 (l.getD i gz))
def gh (l:List bP):Bool:=pM l l.length && decide (l.length≤8)
theorem YI {l:List bP} {i:Nat} (hi:i<l.length) (h:(decide ((l.getD i gz).n0=(i:Int)+1) && k6 (l.getD i gz))=false):pM l l.length=false:=by
 have:∀ k,i<k→pM l k=false:=by
  intro k hk
  induction k with
  | zero=>omega
  | succ k ih=>
   unfold pM
   rcases Nat.lt_or_ge i k with h1 | h1
   ·rw [ih h1]; rfl
   ·have:k=i:=by omega
    subst this
    rw [h,Bool.and_false]
 exact this _ hi
theorem Hr (x:ah) (l:List bP) (hl:l.length≤1000000) (w:World) (hx:gQ w x l):Ok Pr AY [.slice x.a x.n x.c] w fun v w'=>v=.bool (gh l)∧Mod [] w w':=by
 refine aeI ?_
 unfold N6
 have bV:=hx.len
 have pY:zc Pr cJ=gz.cells:=by kernel_rfl
 rw [pY]
 unfold gh
 refine cZ 0 l.length (fun i w'=>ak w [] w' []∧pM l i=true) rfl (by omega) ⟨ak.start w,rfl⟩ ?_ ?_
 ·rintro again i w1 _ hi ⟨H,ho⟩ aM
  refine ite_true (decide_eq_true (by omega)) ((hx.aG H.mod).ld hi rfl (H.nw fun p w2 H _=>H.oh 0 rfl rfl fun w3 H=>?_))
  have dx:=YI (l:=l) hi
  have nL:pM l (i+1)=(pM l i && (decide ((l.getD i gz).n0=(i:Int)+1) && k6 (l.getD i gz))):=rfl
  generalize l.getD i gz=g at *
  refine H.an 0 rfl (au p 0) rfl ⟨⟨by omega,by omega⟩,H.iI 0 rfl (bU (fun h=>?_) (fun h=>?_))⟩
  ·have h:decide (g.n0=(i:Int)+1)=false:=by simpa using h
   rw [dx (by rw [h]; rfl)]
   exact ⟨rfl,H.mod⟩
  ·have h:decide (g.n0=(i:Int)+1)=true:=by simpa using h
   refine aB (U5 g _) ?_
   rintro _ w4 ⟨rfl,m4⟩
   have H:=H.frame m4
   refine bu (bU (fun h2=>?_) (fun h2=>?_))
   ·have h2:k6 g=false:=by simpa using h2
    rw [dx (by rw [h2,Bool.and_false])]
    exact ⟨rfl,H.mod⟩
   ·have h2:k6 g=true:=by simpa using h2
    refine ⟨⟨by omega,by omega⟩,aM w4 ⟨H.take 0,?_⟩⟩
    rw [nL,ho,h,h2]; rfl
 ·rintro again w1 ⟨H,ho⟩
  refine ite_false (decide_eq_false (by omega)) ⟨?_,H.mod⟩
  rw [ho,Bool.true_and]
  congr 1
  exact decide_eq_decide.2 (by omega)
theorem ag7 (x:ah) (l:List bP) (hf:∀ g∈l,g.fit) (hl:l.length≤1000000) (w:World) (hx:gQ w x l):Ok Pr OC [.slice x.a x.n x.c] w fun v w'=>v=.bool (gh l)∧Mod [] w w':=by
 refine afs ?_
 unfold Pb
 have bV:=hx.len
 unfold gh
 refine cZ 0 l.length (fun i w'=>ak w [] w' []∧pM l i=true) rfl (by omega) ⟨ak.start w,rfl⟩ ?_ ?_
 ·rintro again i w1 _ hi ⟨H,ho⟩ aM
  refine bU (fun hc=>?_) (fun hc=>?_)
  ·have Kk:=hx.aG H.mod
   have nh:=Kk.cell (i:=i) (j:=0) hi rfl
   refine ⟨⟨Sl.pre hx (by omega),by omega,by omega⟩,(l.getD i gz).n0,by rw [Int.toNat_natCast]; exact nh,⟨by omega,by omega⟩,?_⟩
   have dx:=YI (l:=l) hi
   have nL:pM l (i+1)=(pM l i && (decide ((l.getD i gz).n0=(i:Int)+1) && k6 (l.getD i gz))):=rfl
   have JI:=hf (l.getD i gz) (by simp [hi])
   refine bU (fun h=>?_) (fun h=>Kk.ld hi rfl ?_)
   ·have h:decide ((l.getD i gz).n0=(i:Int)+1)=false:=by simpa using h
    rw [dx (by rw [h]; rfl)]
    exact ⟨rfl,H.mod⟩
   ·have h:decide ((l.getD i gz).n0=(i:Int)+1)=true:=by simpa using h
    refine aB (ag6 (l.getD i gz) JI _) ?_
    rintro _ w4 ⟨rfl,m4⟩
    have H:=H.frame m4
    refine bu (bU (fun h2=>?_) (fun h2=>?_))
    ·have h2:k6 (l.getD i gz)=false:=by simpa using h2
     rw [dx (by rw [h2,Bool.and_false])]
     exact ⟨rfl,H.mod⟩
    ·have h2:k6 (l.getD i gz)=true:=by simpa using h2
     refine ⟨⟨by omega,by omega⟩,aM w4 ⟨H,?_⟩⟩
     rw [nL,ho,h,h2]; rfl
  ·have h8:¬ l.length≤8:=by
    intro h8
    simp only [Bool.and_eq_false_iff,decide_eq_false_iff_not] at hc
    omega
   refine ⟨?_,H.mod⟩
   rw [decide_eq_false h8,Bool.and_false]
   congr 1
   exact decide_eq_false (by omega)
 ·rintro again w1 ⟨H,ho⟩
  refine ite_false (by rw [decide_eq_false (show ¬ ((l.length:Nat):Int)<((x.n:Nat):Int) by omega)]; rfl) ⟨?_,H.mod⟩
  rw [ho,Bool.true_and]
  congr 1
  exact decide_eq_decide.2 (by omega)
theorem GX (x:ah) (l:List bP) (hl:l.length≤1000000) (w:World) (hx:gQ w x l):Ok Pr AO [.slice x.a x.n x.c] w fun v w'=>∃ y:ah,v=.slice y.a y.n y.c∧Own w' w.heap.size cJ 6 y (dY l)∧y.n=x.n∧Mod [] w w':=by
 refine ab4 ?_
 unfold KI
 have bV:=hx.len
 refine bU (fun h=>?_) (fun h=>?_)
 ·have h0:x.n=0:=by
   rcases Nat.eq_zero_or_pos x.n with e | e
   ·exact e
   ·have:=Sl.pre hx e
    cases ha:x.a with
    | none=>rw [ha] at this; cases this
    | some a=>rw [ha] at h; cases h
  obtain rfl:l=[]:=List.eq_nil_of_length_eq_zero (by omega)
  exact ⟨⟨none,0,0⟩,rfl,Own.nil _ _ _ _,h0.symm,Mod.refl _ _⟩
 ·refine (ak.start w).nw fun p w1 H _=>?_
  have H:=H.rB 0 6 0 0 rfl rfl (Nat.le_refl _) (by simp only [maxLen]; omega)
  refine H.app (s:=⟨some ⟨p,0,none⟩,0,0⟩) (vs:=[]) 0 RU rfl (hx.aG H.mod) (Rc l) (by show (0+x.n) * 48≤_; omega) (by show 0+x.n≤_; omega) fun y w2 H hy=>?_
  exact ⟨y,rfl,H.fN 0 rfl,by rw [hy]; exact Nat.zero_add _,H.mod⟩
end Go.Proofs.YtgjoehgomjgckaaGreatDoor
end
section
set_option linter.unusedVariables false
set_option linter.unusedSimpArgs false
namespace Go.Proofs.YtgjoehgomjgckaaGreatDoor
open Go Go.Ev
set_option maxRecDepth 100000
set_option linter.unusedVariables false
def N8 (cQ:Int) (bK:ah) (bL:ah) (bQ:ah) (bR:ah) (bS:ah) (w:World) (R:Value→World→Prop):Prop:=
 nw aN [.int .i64 cQ,.slice bK.a bK.n bK.c,.slice bL.a bL.n bL.c,.slice bQ.a bQ.n bQ.c,.slice bR.a bR.n bR.c,.slice bS.a bS.n bS.c] w fun a b=>
 nw aN (zc Pr aN) b fun c d=>
 ax (Addr.add a 1) d fun e=>
 cG Pr [bJ,bJ] bJ [.slice none 0 0,.slice e.a e.n e.c] d fun f g=>
 st (Addr.add a 1) (.slice f.a f.n f.c) g fun i=>
 ax (Addr.add a 2) i fun j=>
 cG Pr [sU,sU] sU [.slice none 0 0,.slice j.a j.n j.c] i fun k l=>
 st (Addr.add a 2) (.slice k.a k.n k.c) l fun m=>
 ax (Addr.add a 3) m fun n=>
 cG Pr [sV,sV] sV [.slice none 0 0,.slice n.a n.n n.c] m fun o p=>
 st (Addr.add a 3) (.slice o.a o.n o.c) p fun q=>
 cY (fun (s:Int)=>[(3,some (.int .i64 s))])
 (fun t s u=>ax (Addr.add a 3) u fun v=>
 aA (decide (s<(v.n:Int)))
 (ax (Addr.add a 3) (World.drew u) fun x=>
 ax (Addr.add a 3) (World.drew u) fun y=>
 aU y.a s y.n
 (ax (Addr.add (Addr.add (base y.a) (Int.toNat s * 5)) 2) (World.drew u) fun z=>
 cG Pr [bJ,bJ] bJ [.slice none 0 0,.slice z.a z.n z.c] (World.drew u) fun A B=>
 (kept (Addr.add a 3) 1 (World.drew u) B∧
 aU x.a s x.n
 (st (Addr.add (Addr.add (base x.a) (Int.toNat s * 5)) 2) (.slice A.a A.n A.c) B fun C=>
 (aF (s+1)∧
 t (s+1) C)))))
 (ax (Addr.add a 4) u fun D=>
 cG Pr [sX,sX] sX [.slice none 0 0,.slice D.a D.n D.c] u fun E F=>
 st (Addr.add a 4) (.slice E.a E.n E.c) F fun G=>
 cY (fun (I:Int)=>[(4,some (.int .i64 I))])
 (fun J I L=>ax (Addr.add a 4) L fun M=>
 aA (decide (I<(M.n:Int)))
 (ax (Addr.add a 4) (World.drew L) fun N=>
 ax (Addr.add a 4) (World.drew L) fun O=>
 aU O.a I O.n
 (bz (Addr.add (base O.a) (Int.toNat I * 4)) (World.drew L) fun Q S T U=>
 az Pr NC [.agg ⟨[.int .i64 Q,.int .i64 S,.int .i64 T,.slice U.a U.n U.c]⟩] (World.drew L) fun V X=>
 q9 V fun Y Z aa ba=>
 (kept (Addr.add a 4) 1 (World.drew L) X∧
 aU N.a I N.n
 (cA (Addr.add (base N.a) (Int.toNat I * 4)) Y Z aa ba X fun ca=>
 (aF (I+1)∧
 J (I+1) ca)))))
 (ax (Addr.add a 5) L fun da=>
 cG Pr [l8,l8] l8 [.slice none 0 0,.slice da.a da.n da.c] L fun ea fa=>
 st (Addr.add a 5) (.slice ea.a ea.n ea.c) fa fun ga=>
 bT a ga fun ia ja ka la ma na=>
 bM c ia ja ka la ma na ga fun oa=>
 bT c oa fun pa qa sa ta ua va=>
 R (.agg ⟨[.int .i64 pa,.slice qa.a qa.n qa.c,.slice sa.a sa.n sa.c,.slice ta.a ta.n ta.c,.slice ua.a ua.n ua.c,.slice va.a va.n va.c]⟩) oa))
 0 G))
 0 q
theorem aeK {cQ:Int} {bK:ah} {bL:ah} {bQ:ah} {bR:ah} {bS:ah} {w:World} {R:Value→World→Prop} (h:N8 cQ bK bL bQ bR bS w R):Ok Pr NA [.agg ⟨[.int .i64 cQ,.slice bK.a bK.n bK.c,.slice bL.a bL.n bL.c,.slice bQ.a bQ.n bQ.c,.slice bR.a bR.n bR.c,.slice bS.a bS.n bS.c]⟩] w R:=
 aL (m:=⟨true,true⟩) (J:=[]) (L:=[(5,[(3,.int .i64)]),(10,[(4,.int .i64)])]) aJ Tryz.func22 (by kernel_rfl) ((by kernel_rfl:aK Pr _ _ _ Tryz.f22 _ w R=N8 cQ bK bL bQ bR bS w R).mpr h)
def Pe (cQ:Int) (bK:ah) (bL:ah) (bQ:ah) (bR:ah) (bS:ah) (w:World) (R:Value→World→Prop):Prop:=
 nw aN [.int .i64 cQ,.slice bK.a bK.n bK.c,.slice bL.a bL.n bL.c,.slice bQ.a bQ.n bQ.c,.slice bR.a bR.n bR.c,.slice bS.a bS.n bS.c] w fun a b=>
 jL []
 (fun c=>cY (fun (d:Int)=>[(3,some (.int .i64 d))])
 (fun e d f=>ax (Addr.add a 5) f fun g=>
 aA (decide (d<(g.n:Int)))
 (ax (Addr.add a 5) (World.drew f) fun i=>
 aU i.a d i.n
 (an .i64 (Addr.add (Addr.add (base i.a) (Int.toNat d * 6)) 1) (World.drew f) fun j=>
 ax (Addr.add a 4) (World.drew f) fun k=>
 ax (Addr.add a 5) (World.drew f) fun l=>
 aA (decide ((k.n:Int)<j))
 (R (.bool false) (World.drew f))
 (aU l.a d l.n
 (an .i64 (Addr.add (Addr.add (base l.a) (Int.toNat d * 6)) 2) (World.drew f) fun m=>
 ax (Addr.add a 3) (World.drew f) fun n=>
 aA (decide ((n.n:Int)<m))
 (R (.bool false) (World.drew f))
 ((aF (d+1)∧
 e (d+1) (World.drew f)))))))
 (R (.bool true) f))
 0 c)
 (fun o=>
 an .i64 (Addr.add a 0) b fun p=>
 an .i64 (Addr.add a 0) b fun q=>
 ax (Addr.add a 1) b fun s=>
 ax (Addr.add a 2) b fun t=>
 ax (Addr.add a 2) b fun u=>
 aA ((((decide (p<0)) || (decide (1099511627776<q))) || (!decide ((s.n:Int)=32))) || (decide ((t.n:Int)<1)))
 (bT a b fun v x y z A B=>
 bT a b fun C D E F G I=>
 ax (Addr.add a 5) b fun J=>
 R (.bool false) b)
 (az Pr OB [.slice u.a u.n u.c] b fun L M=>
 aW L fun N=>
 bT a M fun O Q S T U V=>
 aA (!N)
 (bT a M fun X Y Z aa ba ca=>
 ax (Addr.add a 5) M fun da=>
 R (.bool false) M)
 (az Pr Mn [.agg ⟨[.int .i64 O,.slice Q.a Q.n Q.c,.slice S.a S.n S.c,.slice T.a T.n T.c,.slice U.a U.n U.c,.slice V.a V.n V.c]⟩] M fun ea fa=>
 aW ea fun ga=>
 bT a fa fun ia ja ka la ma na=>
 aA (!ga)
 (ax (Addr.add a 5) fa fun oa=>
 R (.bool false) fa)
 (az Pr ND [.agg ⟨[.int .i64 ia,.slice ja.a ja.n ja.c,.slice ka.a ka.n ka.c,.slice la.a la.n la.c,.slice ma.a ma.n ma.c,.slice na.a na.n na.c]⟩] fa fun pa qa=>
 aW pa fun sa=>
 ax (Addr.add a 5) qa fun ta=>
 aA (!sa)
 (R (.bool false) qa)
 (az Pr OC [.slice ta.a ta.n ta.c] qa fun ua va=>
 aW ua fun xa=>
 aA (!xa)
 (R (.bool false) va)
 (o va))))))
theorem afv {cQ:Int} {bK:ah} {bL:ah} {bQ:ah} {bR:ah} {bS:ah} {w:World} {R:Value→World→Prop} (h:Pe cQ bK bL bQ bR bS w R):Ok Pr OA [.agg ⟨[.int .i64 cQ,.slice bK.a bK.n bK.c,.slice bL.a bL.n bL.c,.slice bQ.a bQ.n bQ.c,.slice bR.a bR.n bR.c,.slice bS.a bS.n bS.c]⟩] w R:=
 aL (m:=⟨true,true⟩) (J:=[(3,[])]) (L:=[(4,[(3,.int .i64)])]) aJ Tryz.func24 (by kernel_rfl) ((by kernel_rfl:aK Pr _ _ _ Tryz.f24 _ w R=Pe cQ bK bL bQ bR bS w R).mpr h)
def Nh (name:ByteArray) (verify:ah) (bN:ah) (w:World) (R:Value→World→Prop):Prop:=
 nw aN (zc Pr aN) w fun a b=>
 nw dF [.int .i64 1,.int .i64 0,.string name] b fun c d=>
 nw dJ [.int .i64 1,.int .i64 1,.slice verify.a verify.n verify.c,.int .i64 0,.int .u64 0] d fun e f=>
 az Pr NA [.agg ⟨[.int .i64 0,.slice bN.a bN.n bN.c,.slice (some c) 1 1,.slice (some e) 1 1,.slice none 0 0,.slice none 0 0]⟩] f fun g i=>
 dK g fun j k l m n o=>
 nw aN (zc Pr aN) i fun p q=>
 bM p j k l m n o q fun s=>
 bT p s fun t u v x y z=>
 az Pr OA [.agg ⟨[.int .i64 t,.slice u.a u.n u.c,.slice v.a v.n v.c,.slice x.a x.n x.c,.slice y.a y.n y.c,.slice z.a z.n z.c]⟩] s fun A B=>
 aW A fun C=>
 aA (!C)
 (bM a 0 ⟨none,0,0⟩ ⟨none,0,0⟩ ⟨none,0,0⟩ ⟨none,0,0⟩ ⟨none,0,0⟩ B fun D=>
 bT a D fun E F G I J L=>
 R (.tuple ⟨[.agg ⟨[.int .i64 E,.slice F.a F.n F.c,.slice G.a G.n G.c,.slice I.a I.n I.c,.slice J.a J.n J.c,.slice L.a L.n L.c]⟩,.int .i64 2]⟩) D)
 (bT p B fun M N O Q S T=>
 bM a M N O Q S T B fun U=>
 bT a U fun V X Y Z aa ba=>
 R (.tuple ⟨[.agg ⟨[.int .i64 V,.slice X.a X.n X.c,.slice Y.a Y.n Y.c,.slice Z.a Z.n Z.c,.slice aa.a aa.n aa.c,.slice ba.a ba.n ba.c]⟩,.int .i64 0]⟩) U)
theorem ad5 {name:ByteArray} {verify:ah} {bN:ah} {w:World} {R:Value→World→Prop} (h:Nh name verify bN w R):Ok Pr oU [.string name,.slice verify.a verify.n verify.c,.slice bN.a bN.n bN.c] w R:=
 aL (m:=⟨true,true⟩) (J:=[]) (L:=[]) aJ Tryz.func26 (by kernel_rfl) ((by kernel_rfl:aK Pr _ _ _ Tryz.f26 _ w R=Nh name verify bN w R).mpr h)
def Pf (cQ:Int) (bK:ah) (bL:ah) (bQ:ah) (bR:ah) (bS:ah) (w:World) (R:Value→World→Prop):Prop:=
 nw aN [.int .i64 cQ,.slice bK.a bK.n bK.c,.slice bL.a bL.n bL.c,.slice bQ.a bQ.n bQ.c,.slice bR.a bR.n bR.c,.slice bS.a bS.n bS.c] w fun a b=>
 jL []
 (fun c=>az Pr Ht [.int .i64 1] c fun d e=>
 bB.bC d fun f=>
 aD f fun g i=>
 bk .i64 g fun j=>
 aD i fun k l=>
 bk .i64 k fun m=>
 aD l fun n o=>
 bk .i64 n fun p=>
 (o=[]∧
 ax (Addr.add a 3) e fun q=>
 cY (fun (s:Int)=>[(59,some (.int .i64 s))])
 (fun t s u=>aA (decide (s<(q.n:Int)))
 (aU q.a s q.n
 (Ds (Addr.add (base q.a) (Int.toNat s * 5)) u fun v x y z A=>
 nw dJ (zc Pr dJ) u fun B C=>
 nY B v x y z A C fun D=>
 an .i64 (Addr.add B 0) D fun E=>
 (aF (s+1)∧
 an .i64 (Addr.add B 1) D fun F=>
 ax (Addr.add a 2) D fun G=>
 aA (!decide (E=s+1))
 (ax (Addr.add B 2) D fun I=>
 an .i64 (Addr.add B 3) D fun J=>
 an .u64 (Addr.add B 4) D fun L=>
 R (.bool false) D)
 (az Pr Bm [.int .i64 F,.int .i64 1,.int .i64 (G.n:Int)] D fun M N=>
 aW M fun O=>
 ax (Addr.add B 2) N fun Q=>
 an .i64 (Addr.add B 3) N fun S=>
 an .u64 (Addr.add B 4) N fun T=>
 aA ((!O) || (!decide ((Q.n:Int)=j)))
 (R (.bool false) N)
 (az Pr Dx [.int .i64 S,.int .u64 T] N fun U V=>
 aW U fun X=>
 aA (!X)
 (R (.bool false) V)
 ((aF (s+1)∧
 t (s+1) V)))))))
 (ax (Addr.add a 4) u fun Y=>
 cY (fun (Z:Int)=>[(97,some (.int .i64 Z))])
 (fun aa Z ba=>aA (decide (Z<(Y.n:Int)))
 (aU Y.a Z Y.n
 (bz (Addr.add (base Y.a) (Int.toNat Z * 4)) ba fun ca da ea fa=>
 nw aV (zc Pr aV) ba fun ga ia=>
 cA ga ca da ea fa ia fun ja=>
 an .i64 (Addr.add ga 0) ja fun ka=>
 (aF (Z+1)∧
 an .i64 (Addr.add ga 1) ja fun la=>
 ax (Addr.add a 2) ja fun ma=>
 aA (!decide (ka=Z+1))
 (bz ga ja fun na oa pa qa=>
 R (.bool false) ja)
 (az Pr Bm [.int .i64 la,.int .i64 1,.int .i64 (ma.n:Int)] ja fun sa ta=>
 aW sa fun ua=>
 bz ga ta fun va xa ya za=>
 aA (!ua)
 (R (.bool false) ta)
 (az Pr sY [.agg ⟨[.int .i64 va,.int .i64 xa,.int .i64 ya,.slice za.a za.n za.c]⟩] ta fun Aa Ba=>
 aW Aa fun Ca=>
 aA (!Ca)
 (R (.bool false) Ba)
 ((aF (Z+1)∧
 aa (Z+1) Ba)))))))
 (ax (Addr.add a 5) ba fun Da=>
 az Pr Kz [.slice Da.a Da.n Da.c,.func (.func MJ) ⟨[]⟩ ⟨[.pointer (some a)]⟩] ba fun Ea Fa=>
 aW Ea fun Ga=>
 R (.bool (!Ga)) Fa))
 0 u))
 0 e))
 (fun Ia=>
 an .i64 (Addr.add a 0) b fun Ja=>
 az Pr Bm [.int .i64 Ja,.int .i64 0,.int .i64 1099511627776] b fun La Ma=>
 aW La fun Na=>
 ax (Addr.add a 1) Ma fun Oa=>
 ax (Addr.add a 2) Ma fun Qa=>
 ax (Addr.add a 2) Ma fun Sa=>
 aA (((!Na) || (!decide ((Oa.n:Int)=32))) || (decide ((Qa.n:Int)=0)))
 (ax (Addr.add a 3) Ma fun Ta=>
 ax (Addr.add a 4) Ma fun Ua=>
 ax (Addr.add a 5) Ma fun Va=>
 R (.bool false) Ma)
 (az Pr Dq [.slice Sa.a Sa.n Sa.c] Ma fun Xa Ya=>
 aW Xa fun Za=>
 ax (Addr.add a 3) Ya fun ab=>
 aA (!Za)
 (ax (Addr.add a 4) Ya fun bb=>
 ax (Addr.add a 5) Ya fun cb=>
 R (.bool false) Ya)
 (az Pr Bm [.int .i64 (ab.n:Int),.int .i64 1,.int .i64 6] Ya fun db eb=>
 aW db fun fb=>
 ax (Addr.add a 4) eb fun gb=>
 ax (Addr.add a 5) eb fun ib=>
 aA ((!fb) || (decide (6<(gb.n:Int))))
 (R (.bool false) eb)
 (az Pr AY [.slice ib.a ib.n ib.c] eb fun jb kb=>
 aW jb fun lb=>
 aA (!lb)
 (R (.bool false) kb)
 (Ia kb)))))
theorem afw {cQ:Int} {bK:ah} {bL:ah} {bQ:ah} {bR:ah} {bS:ah} {w:World} {R:Value→World→Prop} (h:Pf cQ bK bL bQ bR bS w R):Ok Pr HD [.agg ⟨[.int .i64 cQ,.slice bK.a bK.n bK.c,.slice bL.a bL.n bL.c,.slice bQ.a bQ.n bQ.c,.slice bR.a bR.n bR.c,.slice bS.a bS.n bS.c]⟩] w R:=
 aL (m:=⟨true,true⟩) (J:=[(3,[])]) (L:=[(5,[(59,.int .i64)]),(11,[(97,.int .i64)])]) aJ Tryz.func34 (by kernel_rfl) ((by kernel_rfl:aK Pr _ _ _ Tryz.f34 _ w R=Pf cQ bK bL bQ bR bS w R).mpr h)
def N9 (cQ:Int) (bK:ah) (bL:ah) (bQ:ah) (bR:ah) (bS:ah) (w:World) (R:Value→World→Prop):Prop:=
 nw aN [.int .i64 cQ,.slice bK.a bK.n bK.c,.slice bL.a bL.n bL.c,.slice bQ.a bQ.n bQ.c,.slice bR.a bR.n bR.c,.slice bS.a bS.n bS.c] w fun a b=>
 nw aN (zc Pr aN) b fun c d=>
 ax (Addr.add a 1) (World.drew d) fun e=>
 ax (Addr.add a 2) (World.drew d) fun f=>
 ax (Addr.add a 3) (World.drew d) fun g=>
 ax (Addr.add a 4) (World.drew d) fun i=>
 ax (Addr.add a 5) (World.drew d) fun j=>
 az Pr sQ [.slice e.a e.n e.c] (World.drew d) fun k l=>
 aT k fun m=>
 (kept (Addr.add a 5) 1 (World.drew d) l∧
 (kept (Addr.add a 4) 1 (World.drew d) l∧
 (kept (Addr.add a 3) 1 (World.drew d) l∧
 (kept (Addr.add a 2) 1 (World.drew d) l∧
 az Pr GI [.slice f.a f.n f.c] l fun n o=>
 aT n fun p=>
 (kept (Addr.add a 5) 1 l o∧
 (kept (Addr.add a 4) 1 l o∧
 (kept (Addr.add a 3) 1 l o∧
 az Pr KE [.slice g.a g.n g.c] o fun q s=>
 aT q fun t=>
 (kept (Addr.add a 5) 1 o s∧
 (kept (Addr.add a 4) 1 o s∧
 az Pr KJ [.slice i.a i.n i.c] s fun u v=>
 aT u fun x=>
 (kept (Addr.add a 5) 1 s v∧
 az Pr AO [.slice j.a j.n j.c] v fun y z=>
 aT y fun A=>
 st (Addr.add a 1) (.slice m.a m.n m.c) z fun B=>
 st (Addr.add a 2) (.slice p.a p.n p.c) B fun C=>
 st (Addr.add a 3) (.slice t.a t.n t.c) C fun D=>
 st (Addr.add a 4) (.slice x.a x.n x.c) D fun E=>
 st (Addr.add a 5) (.slice A.a A.n A.c) E fun F=>
 ax (Addr.add a 3) F fun G=>
 cY (fun (I:Int)=>[(30,some (.int .i64 I))])
 (fun J I L=>aA (decide (I<(G.n:Int)))
 (ax (Addr.add a 3) (World.drew L) fun M=>
 ax (Addr.add a 3) (World.drew L) fun N=>
 aU N.a I N.n
 (ax (Addr.add (Addr.add (base N.a) (Int.toNat I * 5)) 2) (World.drew L) fun O=>
 az Pr sQ [.slice O.a O.n O.c] (World.drew L) fun Q S=>
 aT Q fun T=>
 (kept (Addr.add a 3) 1 (World.drew L) S∧
 aU M.a I M.n
 (st (Addr.add (Addr.add (base M.a) (Int.toNat I * 5)) 2) (.slice T.a T.n T.c) S fun U=>
 (aF (I+1)∧
 J (I+1) U)))))
 (ax (Addr.add a 4) L fun V=>
 cY (fun (X:Int)=>[(49,some (.int .i64 X))])
 (fun Y X Z=>aA (decide (X<(V.n:Int)))
 (ax (Addr.add a 4) Z fun aa=>
 aU aa.a X aa.n
 (ax (Addr.add (Addr.add (base aa.a) (Int.toNat X * 4)) 3) Z fun ba=>
 az Pr GF [.slice ba.a ba.n ba.c] Z fun ca da=>
 aT ca fun ea=>
 st (Addr.add (Addr.add (base aa.a) (Int.toNat X * 4)) 3) (.slice ea.a ea.n ea.c) da fun fa=>
 ax (Addr.add (Addr.add (base aa.a) (Int.toNat X * 4)) 3) fa fun ga=>
 cY (fun (ia:Int)=>[(69,some (.int .i64 ia))])
 (fun ja ia ka=>aA (decide (ia<(ga.n:Int)))
 (ax (Addr.add (Addr.add (base aa.a) (Int.toNat X * 4)) 3) (World.drew ka) fun la=>
 ax (Addr.add (Addr.add (base aa.a) (Int.toNat X * 4)) 3) (World.drew ka) fun ma=>
 aU ma.a ia ma.n
 (ax (Addr.add (Addr.add (base ma.a) (Int.toNat ia * 4)) 3) (World.drew ka) fun na=>
 az Pr sQ [.slice na.a na.n na.c] (World.drew ka) fun oa pa=>
 aT oa fun qa=>
 (kept (Addr.add (Addr.add (base aa.a) (Int.toNat X * 4)) 3) 1 (World.drew ka) pa∧
 aU la.a ia la.n
 (st (Addr.add (Addr.add (base la.a) (Int.toNat ia * 4)) 3) (.slice qa.a qa.n qa.c) pa fun sa=>
 (aF (ia+1)∧
 ja (ia+1) sa)))))
 ((aF (X+1)∧
 Y (X+1) ka)))
 0 fa))
 (bT a Z fun ta ua va xa ya za=>
 bM c ta ua va xa ya za Z fun Aa=>
 bT c Aa fun Ba Ca Da Ea Fa Ga=>
 R (.agg ⟨[.int .i64 Ba,.slice Ca.a Ca.n Ca.c,.slice Da.a Da.n Da.c,.slice Ea.a Ea.n Ea.c,.slice Fa.a Fa.n Fa.c,.slice Ga.a Ga.n Ga.c]⟩) Aa))
 0 L))
 0 F))))))))))
theorem aeL {cQ:Int} {bK:ah} {bL:ah} {bQ:ah} {bR:ah} {bS:ah} {w:World} {R:Value→World→Prop} (h:N9 cQ bK bL bQ bR bS w R):Ok Pr Dw [.agg ⟨[.int .i64 cQ,.slice bK.a bK.n bK.c,.slice bL.a bL.n bL.c,.slice bQ.a bQ.n bQ.c,.slice bR.a bR.n bR.c,.slice bS.a bS.n bS.c]⟩] w R:=
 aL (m:=⟨true,true⟩) (J:=[]) (L:=[(3,[(30,.int .i64)]),(8,[(49,.int .i64)]),(13,[(69,.int .i64)])]) aJ Tryz.func36 (by kernel_rfl) ((by kernel_rfl:aK Pr _ _ _ Tryz.f36 _ w R=N9 cQ bK bL bQ bR bS w R).mpr h)
def Oh (cl:Int) (cm:Int) (cr:Int) (aZ:ah) (clock:Int) (w:World) (R:Value→World→Prop):Prop:=
 nw aV [.int .i64 cl,.int .i64 cm,.int .i64 cr,.slice aZ.a aZ.n aZ.c] w fun a b=>
 nw aV (zc Pr aV) b fun c d=>
 bz a d fun e f g i=>
 az Pr sY [.agg ⟨[.int .i64 e,.int .i64 f,.int .i64 g,.slice i.a i.n i.c]⟩] d fun j k=>
 aW j fun l=>
 aA (!l)
 (cA c 0 0 0 ⟨none,0,0⟩ k fun m=>
 bz c m fun n o p q=>
 R (.tuple ⟨[.agg ⟨[.int .i64 n,.int .i64 o,.int .i64 p,.slice q.a q.n q.c]⟩,.int .i64 0]⟩) m)
 (bz a k fun s t u v=>
 az Pr Bn [.agg ⟨[.int .i64 s,.int .i64 t,.int .i64 u,.slice v.a v.n v.c]⟩] k fun x y=>
 q9 x fun z A B C=>
 cA a z A B C y fun D=>
 ax (Addr.add a 3) D fun E=>
 iy (fun (F:Int) (G:Int)=>[(6,some (.int .i64 F)),(18,some (.int .i64 G))])
 (fun I F G J=>aA (decide (G<(E.n:Int)))
 (aU E.a G E.n
 (jx (Addr.add (base E.a) (Int.toNat G * 4)) J fun L M N O=>
 nw cI (zc Pr cI) J fun Q S=>
 gu Q L M N O S fun T=>
 an .i64 (Addr.add Q 1) T fun U=>
 an .i64 (Addr.add Q 2) T fun V=>
 aA ((decide (U=3)) && (decide (V≤clock)))
 (ax (Addr.add a 3) T fun X=>
 an .i64 (Addr.add Q 0) T fun Y=>
 aU X.a G X.n
 (gu (Addr.add (base X.a) (Int.toNat G * 4)) Y 4 0 ⟨none,0,0⟩ T fun Z=>
 (aF (F+1)∧
 (aF (G+1)∧
 I (F+1) (G+1) Z))))
 ((aF (G+1)∧
 I F (G+1) T))))
 (bz a J fun aa ba ca da=>
 cA c aa ba ca da J fun ea=>
 bz c ea fun fa ga ia ja=>
 R (.tuple ⟨[.agg ⟨[.int .i64 fa,.int .i64 ga,.int .i64 ia,.slice ja.a ja.n ja.c]⟩,.int .i64 F]⟩) ea))
 0 0 D)
theorem aeM {cl:Int} {cm:Int} {cr:Int} {aZ:ah} {clock:Int} {w:World} {R:Value→World→Prop} (h:Oh cl cm cr aZ clock w R):Ok Pr NB [.agg ⟨[.int .i64 cl,.int .i64 cm,.int .i64 cr,.slice aZ.a aZ.n aZ.c]⟩,.int .i64 clock] w R:=
 aL (m:=⟨true,true⟩) (J:=[]) (L:=[(6,[(6,.int .i64),(18,.int .i64)])]) aJ Tryz.func37 (by kernel_rfl) ((by kernel_rfl:aK Pr _ _ _ Tryz.f37 _ w R=Oh cl cm cr aZ clock w R).mpr h)
def Oj (cl:Int) (cm:Int) (cr:Int) (aZ:ah) (w:World) (R:Value→World→Prop):Prop:=
 nw aV [.int .i64 cl,.int .i64 cm,.int .i64 cr,.slice aZ.a aZ.n aZ.c] w fun a b=>
 nw aV (zc Pr aV) b fun c d=>
 ax (Addr.add a 3) d fun e=>
 cG Pr [sS,sS] sS [.slice none 0 0,.slice e.a e.n e.c] d fun f g=>
 st (Addr.add a 3) (.slice f.a f.n f.c) g fun i=>
 cY (fun (j:Int)=>[(3,some (.int .i64 j))])
 (fun k j l=>ax (Addr.add a 3) l fun m=>
 aA (decide (j<(m.n:Int)))
 (ax (Addr.add a 3) (World.drew l) fun n=>
 ax (Addr.add a 3) (World.drew l) fun o=>
 aU o.a j o.n
 (ax (Addr.add (Addr.add (base o.a) (Int.toNat j * 4)) 3) (World.drew l) fun p=>
 cG Pr [bJ,bJ] bJ [.slice none 0 0,.slice p.a p.n p.c] (World.drew l) fun q s=>
 (kept (Addr.add a 3) 1 (World.drew l) s∧
 aU n.a j n.n
 (st (Addr.add (Addr.add (base n.a) (Int.toNat j * 4)) 3) (.slice q.a q.n q.c) s fun t=>
 (aF (j+1)∧
 k (j+1) t)))))
 (bz a l fun u v x y=>
 cA c u v x y l fun z=>
 bz c z fun A B C D=>
 R (.agg ⟨[.int .i64 A,.int .i64 B,.int .i64 C,.slice D.a D.n D.c]⟩) z))
 0 i
theorem aeN {cl:Int} {cm:Int} {cr:Int} {aZ:ah} {w:World} {R:Value→World→Prop} (h:Oj cl cm cr aZ w R):Ok Pr NC [.agg ⟨[.int .i64 cl,.int .i64 cm,.int .i64 cr,.slice aZ.a aZ.n aZ.c]⟩] w R:=
 aL (m:=⟨true,true⟩) (J:=[]) (L:=[(3,[(3,.int .i64)])]) aJ Tryz.func39 (by kernel_rfl) ((by kernel_rfl:aK Pr _ _ _ Tryz.f39 _ w R=Oj cl cm cr aZ w R).mpr h)
def Pg (l:ah) (w:World) (R:Value→World→Prop):Prop:=
 cY (fun (a:Int)=>[(3,some (.int .i64 a))])
 (fun b a c=>aA ((decide (a<(l.n:Int))) && (decide ((l.n:Int)≤8)))
 (aU l.a a l.n
 (AS (Addr.add (base l.a) (Int.toNat a * 3)) c fun d e f=>
 nw dF (zc Pr dF) c fun g i=>
 AU g d e f i fun j=>
 an .i64 (Addr.add g 0) j fun k=>
 (aF (a+1)∧
 fS (Addr.add g 2) j fun m=>
 fS (Addr.add g 2) j fun n=>
 an .i64 (Addr.add g 1) j fun o=>
 an .i64 (Addr.add g 1) j fun p=>
 an .i64 (Addr.add g 1) j fun q=>
 aA ((((((!decide (k=a+1)) || (decide (((ByteArray.size m:Nat):Int)<1))) || (decide (300<((ByteArray.size n:Nat):Int)))) || (!((decide (o=0)) == (decide (a=0))))) || (decide (p<0))) || (decide (a<q)))
 (R (.bool false) j)
 (cY (fun (s:Int)=>[(5,some (.int .i64 s))])
 (fun t s u=>aA (decide (s<a))
 (aU l.a s l.n
 (an .i64 (Addr.add (Addr.add (base l.a) (Int.toNat s * 3)) 1) (World.drew u) fun v=>
 an .i64 (Addr.add g 1) (World.drew u) fun x=>
 aA (decide (v=x))
 (aU l.a s l.n
 (fS (Addr.add (Addr.add (base l.a) (Int.toNat s * 3)) 2) (World.drew u) fun y=>
 fS (Addr.add g 2) (World.drew u) fun z=>
 aA (decide (y=z))
 (R (.bool false) (World.drew u))
 ((aF (s+1)∧
 t (s+1) (World.drew u)))))
 ((aF (s+1)∧
 t (s+1) (World.drew u)))))
 ((aF (a+1)∧
 b (a+1) u)))
 0 j))))
 (R (.bool (decide ((l.n:Int)≤8))) c))
 0 w
theorem afx {l:ah} {w:World} {R:Value→World→Prop} (h:Pg l w R):Ok Pr OB [.slice l.a l.n l.c] w R:=
 aL (m:=⟨true,true⟩) (J:=[]) (L:=[(2,[(3,.int .i64)]),(8,[(5,.int .i64)])]) aJ Tryz.func46 (by kernel_rfl) ((by kernel_rfl:aK Pr _ _ _ Tryz.f46 _ w R=Pg l w R).mpr h)
def MB (cQ:Int) (bK:ah) (bL:ah) (bQ:ah) (bR:ah) (bS:ah) (w:World) (R:Value→World→Prop):Prop:=
 nw aN [.int .i64 cQ,.slice bK.a bK.n bK.c,.slice bL.a bL.n bL.c,.slice bQ.a bQ.n bQ.c,.slice bR.a bR.n bR.c,.slice bS.a bS.n bS.c] w fun a b=>
 az Pr MK [.int .i64 1] b fun c d=>
 bB.bC c fun e=>
 aD e fun f g=>
 bk .i64 f fun i=>
 aD g fun j k=>
 bk .i64 j fun l=>
 aD k fun m n=>
 bk .i64 m fun o=>
 (n=[]∧
 cY (fun (p:Int)=>[(6,some (.int .i64 p))])
 (fun q p s=>ax (Addr.add a 3) s fun t=>
 ax (Addr.add a 3) s fun u=>
 aA ((decide (p<(t.n:Int))) && (decide ((u.n:Int)≤6)))
 (ax (Addr.add a 3) s fun v=>
 aU v.a p v.n
 (Ds (Addr.add (base v.a) (Int.toNat p * 5)) s fun x y z A B=>
 nw dJ (zc Pr dJ) s fun C D=>
 nY C x y z A B D fun E=>
 an .i64 (Addr.add C 0) E fun F=>
 (aF (p+1)∧
 ax (Addr.add a 2) E fun G=>
 an .i64 (Addr.add C 1) E fun I=>
 aA (!decide (F=p+1))
 (ax (Addr.add C 2) E fun J=>
 an .i64 (Addr.add C 3) E fun L=>
 an .u64 (Addr.add C 4) E fun M=>
 R (.bool false) E)
 (az Pr Hg [.slice G.a G.n G.c,.int .i64 I] E fun N O=>
 aW N fun Q=>
 ax (Addr.add C 2) O fun S=>
 an .i64 (Addr.add C 3) O fun T=>
 an .u64 (Addr.add C 4) O fun U=>
 aA ((!Q) || (!decide ((S.n:Int)=i)))
 (R (.bool false) O)
 (az Pr OD [.int .i64 T,.int .u64 U] O fun V X=>
 aW V fun Y=>
 aA (!Y)
 (R (.bool false) X)
 ((aF (p+1)∧
 q (p+1) X)))))))
 (ax (Addr.add a 3) s fun Z=>
 ax (Addr.add a 3) s fun aa=>
 R (.bool ((decide (1≤(Z.n:Int))) && (decide ((aa.n:Int)≤6)))) s))
 0 d)
theorem adC {cQ:Int} {bK:ah} {bL:ah} {bQ:ah} {bR:ah} {bS:ah} {w:World} {R:Value→World→Prop} (h:MB cQ bK bL bQ bR bS w R):Ok Pr Mn [.agg ⟨[.int .i64 cQ,.slice bK.a bK.n bK.c,.slice bL.a bL.n bL.c,.slice bQ.a bQ.n bQ.c,.slice bR.a bR.n bR.c,.slice bS.a bS.n bS.c]⟩] w R:=
 aL (m:=⟨true,true⟩) (J:=[]) (L:=[(3,[(6,.int .i64)])]) aJ Tryz.func47 (by kernel_rfl) ((by kernel_rfl:aK Pr _ _ _ Tryz.f47 _ w R=MB cQ bK bL bQ bR bS w R).mpr h)
def Ol (cQ:Int) (bK:ah) (bL:ah) (bQ:ah) (bR:ah) (bS:ah) (w:World) (R:Value→World→Prop):Prop:=
 nw aN [.int .i64 cQ,.slice bK.a bK.n bK.c,.slice bL.a bL.n bL.c,.slice bQ.a bQ.n bQ.c,.slice bR.a bR.n bR.c,.slice bS.a bS.n bS.c] w fun a b=>
 cY (fun (c:Int)=>[(3,some (.int .i64 c))])
 (fun d c e=>ax (Addr.add a 4) e fun f=>
 ax (Addr.add a 4) e fun g=>
 aA ((decide (c<(f.n:Int))) && (decide ((g.n:Int)≤6)))
 (ax (Addr.add a 4) e fun i=>
 aU i.a c i.n
 (bz (Addr.add (base i.a) (Int.toNat c * 4)) e fun j k l m=>
 nw aV (zc Pr aV) e fun n o=>
 cA n j k l m o fun p=>
 an .i64 (Addr.add n 0) p fun q=>
 (aF (c+1)∧
 bz n p fun s t u v=>
 aA (!decide (q=c+1))
 (ax (Addr.add a 2) p fun x=>
 an .i64 (Addr.add n 1) p fun y=>
 R (.bool false) p)
 (az Pr OE [.agg ⟨[.int .i64 s,.int .i64 t,.int .i64 u,.slice v.a v.n v.c]⟩] p fun z A=>
 aW z fun B=>
 ax (Addr.add a 2) A fun C=>
 an .i64 (Addr.add n 1) A fun D=>
 aA (!B)
 (R (.bool false) A)
 (az Pr Hg [.slice C.a C.n C.c,.int .i64 D] A fun E F=>
 aW E fun G=>
 aA (!G)
 (R (.bool false) F)
 ((aF (c+1)∧
 d (c+1) F)))))))
 (ax (Addr.add a 4) e fun I=>
 R (.bool (decide ((I.n:Int)≤6))) e))
 0 b
theorem aeO {cQ:Int} {bK:ah} {bL:ah} {bQ:ah} {bR:ah} {bS:ah} {w:World} {R:Value→World→Prop} (h:Ol cQ bK bL bQ bR bS w R):Ok Pr ND [.agg ⟨[.int .i64 cQ,.slice bK.a bK.n bK.c,.slice bL.a bL.n bL.c,.slice bQ.a bQ.n bQ.c,.slice bR.a bR.n bR.c,.slice bS.a bS.n bS.c]⟩] w R:=
 aL (m:=⟨true,true⟩) (J:=[]) (L:=[(2,[(3,.int .i64)])]) aJ Tryz.func48 (by kernel_rfl) ((by kernel_rfl:aK Pr _ _ _ Tryz.f48 _ w R=Ol cQ bK bL bQ bR bS w R).mpr h)
def Om (high:Int) (used:Int) (n:Int) (w:World) (R:Value→World→Prop):Prop:=
 az Pr Dx [.int .i64 high,.int .u64 used] w fun a b=>
 aW a fun c=>
 aA (!c)
 (nw oX [.int .i64 2,.string QX] b fun d e=>
 R (.tuple ⟨[.int .i64 0,.int .u64 0,.iface jy (.pointer (some d))]⟩) e)
 (az Pr Mo [.int .i64 high,.int .u64 used,.int .i64 n] b fun f g=>
 aW f fun i=>
 aA (!i)
 (nw oX [.int .i64 8,.string QX] g fun j k=>
 R (.tuple ⟨[.int .i64 0,.int .u64 0,.iface jy (.pointer (some j))]⟩) k)
 (aA (decide (high<n))
 ((aF (n - high)∧
 gU (min (n - high) 64) (R (.tuple ⟨[.int .i64 n,.int .u64 (rU .u64 (shl .u64 used (min (n - high) 64)) 1),.nilIface]⟩) (World.drew g))))
 ((aF (high - n)∧
 gU (high - n) (R (.tuple ⟨[.int .i64 high,.int .u64 (rU .u64 used (shl .u64 1 (high - n))),.nilIface]⟩) (World.drew g))))))
theorem aeP {high:Int} {used:Int} {n:Int} {w:World} {R:Value→World→Prop} (h:Om high used n w R):Ok Pr NF [.int .i64 high,.int .u64 used,.int .i64 n] w R:=
 aL (m:=⟨true,true⟩) (J:=[]) (L:=[]) aJ Tryz.func52 (by kernel_rfl) ((by kernel_rfl:aK Pr _ _ _ Tryz.f52 _ w R=Om high used n w R).mpr h)
def Ql (n:Int) (lo:Int) (hi:Int) (w:World) (R:Value→World→Prop):Prop:=
 R (.bool ((decide (lo≤n)) && (decide (n≤hi)))) w
theorem agu {n:Int} {lo:Int} {hi:Int} {w:World} {R:Value→World→Prop} (h:Ql n lo hi w R):Ok Pr Bm [.int .i64 n,.int .i64 lo,.int .i64 hi] w R:=
 aL (m:=⟨true,true⟩) (J:=[]) (L:=[]) aJ Tryz.func67 (by kernel_rfl) ((by kernel_rfl:aK Pr _ _ _ Tryz.f67 _ w R=Ql n lo hi w R).mpr h)
def Nj (l:ah) (w:World) (R:Value→World→Prop):Prop:=
 aA (decide (8<(l.n:Int)))
 (R (.bool false) w)
 (cY (fun (a:Int)=>[(11,some (.int .i64 a))])
 (fun b a c=>aA (decide (a<(l.n:Int)))
 (aU l.a a l.n
 (AS (Addr.add (base l.a) (Int.toNat a * 3)) c fun d e f=>
 nw dF (zc Pr dF) c fun g i=>
 AU g d e f i fun j=>
 an .i64 (Addr.add g 0) (World.drew j) fun k=>
 (aF (a+1)∧
 an .i64 (Addr.add g 1) (World.drew j) fun m=>
 an .i64 (Addr.add g 1) (World.drew j) fun n=>
 fS (Addr.add g 2) (World.drew j) fun o=>
 aA (((!decide (k=a+1)) || (decide (m<min a 1))) || (decide (a<n)))
 (R (.bool false) (World.drew j))
 (az Pr G0 [.string o] (World.drew j) fun p q=>
 aW p fun s=>
 aA (!s)
 (R (.bool false) q)
 (tV l a fun t=>
 an .i64 (Addr.add g 1) q fun u=>
 fS (Addr.add g 2) q fun v=>
 az Pr G1 [.slice t.a t.n t.c,.int .i64 u,.string v] q fun x y=>
 aW x fun z=>
 aA z
 (R (.bool false) y)
 ((aF (a+1)∧
 b (a+1) y)))))))
 (R (.bool true) c))
 0 w)
theorem ad6 {l:ah} {w:World} {R:Value→World→Prop} (h:Nj l w R):Ok Pr Dq [.slice l.a l.n l.c] w R:=
 aL (m:=⟨true,true⟩) (J:=[]) (L:=[(4,[(11,.int .i64)])]) aJ Tryz.func68 (by kernel_rfl) ((by kernel_rfl:aK Pr _ _ _ Tryz.f68 _ w R=Nj l w R).mpr h)
def On (high:Int) (used:Int) (w:World) (R:Value→World→Prop):Prop:=
 jL []
 (fun a=>R (.bool (decide (iA .u64 used 1=1))) a)
 (fun b=>
 aA ((decide (high<0)) || (decide (1099511627776<high)))
 (R (.bool false) w)
 (aA (decide (high=0))
 (R (.bool (decide (used=0))) w)
 (aA (decide (high<64))
 (gU high (aA (!decide (shr .u64 used high=0))
 (R (.bool false) w)
 (b w)))
 (b w))))
theorem aeQ {high:Int} {used:Int} {w:World} {R:Value→World→Prop} (h:On high used w R):Ok Pr Dx [.int .i64 high,.int .u64 used] w R:=
 aL (m:=⟨true,true⟩) (J:=[(7,[])]) (L:=[]) aJ Tryz.func71 (by kernel_rfl) ((by kernel_rfl:aK Pr _ _ _ Tryz.f71 _ w R=On high used w R).mpr h)
def Qm (cl:Int) (cm:Int) (cr:Int) (aZ:ah) (w:World) (R:Value→World→Prop):Prop:=
 nw aV [.int .i64 cl,.int .i64 cm,.int .i64 cr,.slice aZ.a aZ.n aZ.c] w fun a b=>
 jL []
 (fun c=>ax (Addr.add a 3) c fun d=>
 cY (fun (e:Int)=>[(31,some (.int .i64 e))])
 (fun f e g=>aA (decide (e<(d.n:Int)))
 (aU d.a e d.n
 (jx (Addr.add (base d.a) (Int.toNat e * 4)) g fun i j k l=>
 nw cI (zc Pr cI) g fun m n=>
 gu m i j k l n fun o=>
 jx m o fun p q s t=>
 (aF (e+1)∧
 az Pr Pz [.agg ⟨[.int .i64 p,.int .i64 q,.int .i64 s,.slice t.a t.n t.c]⟩,.int .i64 (e+1)] o fun u v=>
 aW u fun x=>
 aA (!x)
 (R (.bool false) v)
 ((aF (e+1)∧
 f (e+1) v)))))
 (R (.bool true) g))
 0 c)
 (fun y=>
 an .i64 (Addr.add a 0) b fun z=>
 az Pr uL [.int .i64 z,.int .i64 1,.int .i64 6] b fun A B=>
 aW A fun C=>
 an .i64 (Addr.add a 1) B fun D=>
 aA (!C)
 (an .i64 (Addr.add a 2) B fun E=>
 ax (Addr.add a 3) B fun F=>
 R (.bool false) B)
 (az Pr uL [.int .i64 D,.int .i64 1,.int .i64 8] B fun G I=>
 aW G fun J=>
 an .i64 (Addr.add a 2) I fun L=>
 aA (!J)
 (ax (Addr.add a 3) I fun M=>
 R (.bool false) I)
 (az Pr uL [.int .i64 L,.int .i64 1,.int .i64 3] I fun N O=>
 aW N fun Q=>
 ax (Addr.add a 3) O fun S=>
 aA (!Q)
 (R (.bool false) O)
 (az Pr uL [.int .i64 (S.n:Int),.int .i64 1,.int .i64 5] O fun T U=>
 aW T fun V=>
 aA (!V)
 (R (.bool false) U)
 (y U)))))
theorem agv {cl:Int} {cm:Int} {cr:Int} {aZ:ah} {w:World} {R:Value→World→Prop} (h:Qm cl cm cr aZ w R):Ok Pr sY [.agg ⟨[.int .i64 cl,.int .i64 cm,.int .i64 cr,.slice aZ.a aZ.n aZ.c]⟩] w R:=
 aL (m:=⟨true,true⟩) (J:=[(3,[])]) (L:=[(4,[(31,.int .i64)])]) aJ Tryz.func72 (by kernel_rfl) ((by kernel_rfl:aK Pr _ _ _ Tryz.f72 _ w R=Qm cl cm cr aZ w R).mpr h)
def Nk (eJ:Int) (eR:Int) (eX:Int) (eY:Int) (eZ:Int) (e6:Bool) (free:Addr) (w:World) (R:Value→World→Prop):Prop:=
 nw cJ [.int .i64 eJ,.int .i64 eR,.int .i64 eX,.int .i64 eY,.int .i64 eZ,.bool e6] w fun a b=>
 an .i64 (Addr.add a 1) b fun c=>
 ax (Addr.add free 4) b fun d=>
 an .i64 (Addr.add a 2) b fun e=>
 ax (Addr.add free 3) b fun f=>
 R (.bool ((decide ((d.n:Int)<c)) || (decide ((f.n:Int)<e)))) b
theorem ad7 {eJ:Int} {eR:Int} {eX:Int} {eY:Int} {eZ:Int} {e6:Bool} {free:Addr} {w:World} {R:Value→World→Prop} (h:Nk eJ eR eX eY eZ e6 free w R):Ok Pr MJ [.agg ⟨[.int .i64 eJ,.int .i64 eR,.int .i64 eX,.int .i64 eY,.int .i64 eZ,.bool e6]⟩,.pointer (some free)] w R:=
 aL (m:=⟨true,true⟩) (J:=[]) (L:=[]) aJ Tryz.func74 (by kernel_rfl) ((by kernel_rfl:aK Pr _ _ _ Tryz.f74 _ w R=Nk eJ eR eX eY eZ e6 free w R).mpr h)
def Qn (cl:Int) (cm:Int) (cr:Int) (aZ:ah) (w:World) (R:Value→World→Prop):Prop:=
 nw aV [.int .i64 cl,.int .i64 cm,.int .i64 cr,.slice aZ.a aZ.n aZ.c] w fun a b=>
 nw aV (zc Pr aV) b fun c d=>
 ax (Addr.add a 3) d fun e=>
 az Pr GF [.slice e.a e.n e.c] d fun f g=>
 aT f fun i=>
 st (Addr.add a 3) (.slice i.a i.n i.c) g fun j=>
 ax (Addr.add a 3) j fun k=>
 cY (fun (l:Int)=>[(11,some (.int .i64 l))])
 (fun m l n=>aA (decide (l<(k.n:Int)))
 (ax (Addr.add a 3) (World.drew n) fun o=>
 ax (Addr.add a 3) (World.drew n) fun p=>
 aU p.a l p.n
 (ax (Addr.add (Addr.add (base p.a) (Int.toNat l * 4)) 3) (World.drew n) fun q=>
 az Pr sQ [.slice q.a q.n q.c] (World.drew n) fun s t=>
 aT s fun u=>
 (kept (Addr.add a 3) 1 (World.drew n) t∧
 aU o.a l o.n
 (st (Addr.add (Addr.add (base o.a) (Int.toNat l * 4)) 3) (.slice u.a u.n u.c) t fun v=>
 (aF (l+1)∧
 m (l+1) v)))))
 (bz a n fun x y z A=>
 cA c x y z A n fun B=>
 bz c B fun C D E F=>
 R (.agg ⟨[.int .i64 C,.int .i64 D,.int .i64 E,.slice F.a F.n F.c]⟩) B))
 0 j
theorem agw {cl:Int} {cm:Int} {cr:Int} {aZ:ah} {w:World} {R:Value→World→Prop} (h:Qn cl cm cr aZ w R):Ok Pr Bn [.agg ⟨[.int .i64 cl,.int .i64 cm,.int .i64 cr,.slice aZ.a aZ.n aZ.c]⟩] w R:=
 aL (m:=⟨true,true⟩) (J:=[]) (L:=[(3,[(11,.int .i64)])]) aJ Tryz.func81 (by kernel_rfl) ((by kernel_rfl:aK Pr _ _ _ Tryz.f81 _ w R=Qn cl cm cr aZ w R).mpr h)
def Nl (l:ah) (fz:Int) (w:World) (R:Value→World→Prop):Prop:=
 R (.bool ((decide (1≤fz)) && (decide (fz≤(l.n:Int))))) w
theorem ad8 {l:ah} {fz:Int} {w:World} {R:Value→World→Prop} (h:Nl l fz w R):Ok Pr Hg [.slice l.a l.n l.c,.int .i64 fz] w R:=
 aL (m:=⟨true,true⟩) (J:=[]) (L:=[]) aJ Tryz.func98 (by kernel_rfl) ((by kernel_rfl:aK Pr _ _ _ Tryz.f98 _ w R=Nl l fz w R).mpr h)
def Ph (high:Int) (used:Int) (w:World) (R:Value→World→Prop):Prop:=
 aA ((decide (high<0)) || (decide (1099511627776<high)))
 (R (.bool false) w)
 (cY (fun (a:Int)=>[(5,some (.int .i64 a))])
 (fun b a c=>aA (decide (a<64))
 (aA (decide (high≤a))
 (gU a (aA (decide (iA .u64 (shr .u64 used a) 1=1))
 (R (.bool false) c)
 ((aF (a+1)∧
 b (a+1) c))))
 ((aF (a+1)∧
 b (a+1) c)))
 (R (.bool ((decide (high=0)) || (decide (iA .u64 used 1=1)))) c))
 0 w)
theorem afy {high:Int} {used:Int} {w:World} {R:Value→World→Prop} (h:Ph high used w R):Ok Pr OD [.int .i64 high,.int .u64 used] w R:=
 aL (m:=⟨true,true⟩) (J:=[]) (L:=[(4,[(5,.int .i64)])]) aJ Tryz.func99 (by kernel_rfl) ((by kernel_rfl:aK Pr _ _ _ Tryz.f99 _ w R=Ph high used w R).mpr h)
def Pj (cl:Int) (cm:Int) (cr:Int) (aZ:ah) (w:World) (R:Value→World→Prop):Prop:=
 nw aV [.int .i64 cl,.int .i64 cm,.int .i64 cr,.slice aZ.a aZ.n aZ.c] w fun a b=>
 an .i64 (Addr.add a 0) b fun c=>
 an .i64 (Addr.add a 0) b fun d=>
 an .i64 (Addr.add a 1) b fun e=>
 an .i64 (Addr.add a 1) b fun f=>
 an .i64 (Addr.add a 2) b fun g=>
 an .i64 (Addr.add a 2) b fun i=>
 ax (Addr.add a 3) b fun j=>
 ax (Addr.add a 3) b fun k=>
 aA ((((((((decide (c<1)) || (decide (6<d))) || (decide (e<1))) || (decide (8<f))) || (decide (g<1))) || (decide (3<i))) || (decide ((j.n:Int)<1))) || (decide (5<(k.n:Int))))
 (R (.bool false) b)
 (cY (fun (l:Int)=>[(3,some (.int .i64 l))])
 (fun m l n=>ax (Addr.add a 3) n fun o=>
 aA (decide (l<(o.n:Int)))
 (ax (Addr.add a 3) n fun p=>
 aU p.a l p.n
 (jx (Addr.add (base p.a) (Int.toNat l * 4)) n fun q s t u=>
 (aF (l+1)∧
 az Pr LU [.agg ⟨[.int .i64 q,.int .i64 s,.int .i64 t,.slice u.a u.n u.c]⟩,.int .i64 (l+1)] n fun v x=>
 aW v fun y=>
 aA (!y)
 (R (.bool false) x)
 ((aF (l+1)∧
 m (l+1) x)))))
 (R (.bool true) n))
 0 b)
theorem afz {cl:Int} {cm:Int} {cr:Int} {aZ:ah} {w:World} {R:Value→World→Prop} (h:Pj cl cm cr aZ w R):Ok Pr OE [.agg ⟨[.int .i64 cl,.int .i64 cm,.int .i64 cr,.slice aZ.a aZ.n aZ.c]⟩] w R:=
 aL (m:=⟨true,true⟩) (J:=[]) (L:=[(4,[(3,.int .i64)])]) aJ Tryz.func100 (by kernel_rfl) ((by kernel_rfl:aK Pr _ _ _ Tryz.f100 _ w R=Pj cl cm cr aZ w R).mpr h)
def MC (high:Int) (used:Int) (n:Int) (w:World) (R:Value→World→Prop):Prop:=
 az Pr Dx [.int .i64 high,.int .u64 used] w fun a b=>
 aW a fun c=>
 aA ((((!c) || (decide (n<1))) || (decide (1099511627776<n))) || (decide (64≤IntKind.wrap .i64 (high - n))))
 (R (.bool false) b)
 (aA (decide (high<n))
 (R (.bool true) b)
 (gU (IntKind.wrap .i64 (high - n)) (R (.bool (decide (iA .u64 (shr .u64 used (IntKind.wrap .i64 (high - n))) 1=0))) b)))
theorem adD {high:Int} {used:Int} {n:Int} {w:World} {R:Value→World→Prop} (h:MC high used n w R):Ok Pr Mo [.int .i64 high,.int .u64 used,.int .i64 n] w R:=
 aL (m:=⟨true,true⟩) (J:=[]) (L:=[]) aJ Tryz.func106 (by kernel_rfl) ((by kernel_rfl:aK Pr _ _ _ Tryz.f106 _ w R=MC high used n w R).mpr h)
def Pk (cl:Int) (cm:Int) (cr:Int) (aZ:ah) (version:Int) (w:World) (R:Value→World→Prop):Prop:=
 nw aV [.int .i64 cl,.int .i64 cm,.int .i64 cr,.slice aZ.a aZ.n aZ.c] w fun a b=>
 nw cI (zc Pr cI) b fun c d=>
 jL []
 (fun e=>bz a e fun f g i j=>
 az Pr Bn [.agg ⟨[.int .i64 f,.int .i64 g,.int .i64 i,.slice j.a j.n j.c]⟩] e fun k l=>
 q9 k fun m n o p=>
 (aF (version - 1)∧
 aU p.a (version - 1) p.n
 (jx (Addr.add (base p.a) (Int.toNat (version - 1) * 4)) l fun q s t u=>
 gu c q s t u l fun v=>
 jx c v fun x y z A=>
 R (.tuple ⟨[.agg ⟨[.int .i64 x,.int .i64 y,.int .i64 z,.slice A.a A.n A.c]⟩,.bool true]⟩) v)))
 (fun B=>
 jl (fun (C:Bool)=>[(16,some (.bool C))])
 (fun C D=>aA C
 (gu c 0 0 0 ⟨none,0,0⟩ D fun E=>
 jx c E fun F G I J=>
 R (.tuple ⟨[.agg ⟨[.int .i64 F,.int .i64 G,.int .i64 I,.slice J.a J.n J.c]⟩,.bool false]⟩) E)
 (B D))
 (fun L=>
 bz a d fun M N O Q=>
 az Pr sY [.agg ⟨[.int .i64 M,.int .i64 N,.int .i64 O,.slice Q.a Q.n Q.c]⟩] d fun S T=>
 aW S fun U=>
 ax (Addr.add a 3) T fun V=>
 aA (!U)
 (L true T)
 (az Pr uL [.int .i64 version,.int .i64 1,.int .i64 (V.n:Int)] T fun X Y=>
 aW X fun Z=>
 L (!Z) Y)))
theorem afA {cl:Int} {cm:Int} {cr:Int} {aZ:ah} {version:Int} {w:World} {R:Value→World→Prop} (h:Pk cl cm cr aZ version w R):Ok Pr yE [.agg ⟨[.int .i64 cl,.int .i64 cm,.int .i64 cr,.slice aZ.a aZ.n aZ.c]⟩,.int .i64 version] w R:=
 aL (m:=⟨true,true⟩) (J:=[(3,[]),(2,[(16,.bool)])]) (L:=[]) aJ Tryz.func107 (by kernel_rfl) ((by kernel_rfl:aK Pr _ _ _ Tryz.f107 _ w R=Pk cl cm cr aZ version w R).mpr h)
def L5 (l:ah) (a:Int) (b:Int) (w:World) (R:Value→World→Prop):Prop:=
 az Pr Mp [.slice l.a l.n l.c,.int .i64 b] w fun c d=>
 aT c fun e=>
 az Pr Uu [.slice e.a e.n e.c,.int .i64 a] d fun f g=>
 aW f fun i=>
 R (.bool i) g
theorem adi {l:ah} {a:Int} {b:Int} {w:World} {R:Value→World→Prop} (h:L5 l a b w R):Ok Pr LO [.slice l.a l.n l.c,.int .i64 a,.int .i64 b] w R:=
 aL (m:=⟨true,true⟩) (J:=[]) (L:=[]) aJ Tryz.func108 (by kernel_rfl) ((by kernel_rfl:aK Pr _ _ _ Tryz.f108 _ w R=L5 l a b w R).mpr h)
def Nm (l:ah) (parent:Int) (name:ByteArray) (w:World) (R:Value→World→Prop):Prop:=
 az Pr Dq [.slice l.a l.n l.c] w fun a b=>
 aW a fun c=>
 aA (!c)
 (az Pr wB [.int .i64 2] b fun d e=>
 R (.tuple ⟨[.slice none 0 0,.int .i64 0,d]⟩) e)
 (az Pr G4 [.slice l.a l.n l.c,.int .i64 parent] b fun f g=>
 aW f fun i=>
 aA (!i)
 (az Pr wB [.int .i64 9] g fun j k=>
 R (.tuple ⟨[.slice none 0 0,.int .i64 0,j]⟩) k)
 (az Pr G0 [.string name] g fun m n=>
 aW m fun o=>
 aA (!o)
 (az Pr wB [.int .i64 2] n fun p q=>
 R (.tuple ⟨[.slice none 0 0,.int .i64 0,p]⟩) q)
 (az Pr G1 [.slice l.a l.n l.c,.int .i64 parent,.string name] n fun s t=>
 aW s fun u=>
 aA u
 (az Pr wB [.int .i64 13] t fun v x=>
 R (.tuple ⟨[.slice none 0 0,.int .i64 0,v]⟩) x)
 (aA (decide ((l.n:Int)=8))
 (az Pr wB [.int .i64 12] t fun y z=>
 R (.tuple ⟨[.slice none 0 0,.int .i64 0,y]⟩) z)
 ((aF ((l.n:Int)+1)∧
 lt (A:=Int) ((l.n:Int)+1) fun B=>
 az Pr GI [.slice l.a l.n l.c] t fun C D=>
 aT C fun E=>
 nw dF [.int .i64 B,.int .i64 parent,.string name] D fun F G=>
 cG Pr [sU,sU] sU [.slice E.a E.n E.c,.slice (some F) 1 1] G fun I J=>
 R (.tuple ⟨[.slice I.a I.n I.c,.int .i64 B,.nilIface]⟩) J))))))
theorem ad9 {l:ah} {parent:Int} {name:ByteArray} {w:World} {R:Value→World→Prop} (h:Nm l parent name w R):Ok Pr MM [.slice l.a l.n l.c,.int .i64 parent,.string name] w R:=
 aL (m:=⟨true,true⟩) (J:=[]) (L:=[]) aJ Tryz.func111 (by kernel_rfl) ((by kernel_rfl:aK Pr _ _ _ Tryz.f111 _ w R=Nm l parent name w R).mpr h)
def Qo (fz:Int) (Ez:Int) (aY:Int) (aq:ah) (w:World) (R:Value→World→Prop):Prop:=
 nw aV (zc Pr aV) w fun a b=>
 az Pr Hu [.int .i64 1,.slice aq.a aq.n aq.c] b fun c d=>
 uF c fun e f g i=>
 nw cI [.int .i64 e,.int .i64 f,.int .i64 g,.slice i.a i.n i.c] d fun j k=>
 nw aV (zc Pr aV) k fun l m=>
 cA l fz Ez aY ⟨some j,1,1⟩ m fun n=>
 bz l n fun o p q s=>
 az Pr sY [.agg ⟨[.int .i64 o,.int .i64 p,.int .i64 q,.slice s.a s.n s.c]⟩] n fun t u=>
 aW t fun v=>
 aA (!v)
 (az Pr kX [.int .i64 2] u fun x y=>
 cA a 0 0 0 ⟨none,0,0⟩ y fun z=>
 bz a z fun A B C D=>
 R (.tuple ⟨[.agg ⟨[.int .i64 A,.int .i64 B,.int .i64 C,.slice D.a D.n D.c]⟩,x]⟩) z)
 (bz l u fun E F G I=>
 cA a E F G I u fun J=>
 bz a J fun L M N O=>
 R (.tuple ⟨[.agg ⟨[.int .i64 L,.int .i64 M,.int .i64 N,.slice O.a O.n O.c]⟩,.nilIface]⟩) J)
theorem agx {fz:Int} {Ez:Int} {aY:Int} {aq:ah} {w:World} {R:Value→World→Prop} (h:Qo fz Ez aY aq w R):Ok Pr HS [.int .i64 fz,.int .i64 Ez,.int .i64 aY,.slice aq.a aq.n aq.c] w R:=
 aL (m:=⟨true,true⟩) (J:=[]) (L:=[]) aJ Tryz.func112 (by kernel_rfl) ((by kernel_rfl:aK Pr _ _ _ Tryz.f112 _ w R=Qo fz Ez aY aq w R).mpr h)
def Nn (cl:Int) (cm:Int) (cr:Int) (aZ:ah) (version:Int) (w:World) (R:Value→World→Prop):Prop:=
 nw aV [.int .i64 cl,.int .i64 cm,.int .i64 cr,.slice aZ.a aZ.n aZ.c] w fun a b=>
 bz a b fun c d e f=>
 az Pr DF [.agg ⟨[.int .i64 c,.int .i64 d,.int .i64 e,.slice f.a f.n f.c]⟩,.int .i64 version,.func (.func G5) ⟨[]⟩ ⟨[]⟩] b fun g i=>
 bB.bC g fun j=>
 aD j fun k l=>
 aT k fun m=>
 aD l fun n o=>
 aT n fun p=>
 aD o fun q s=>
 (s=[]∧
 R (.tuple ⟨[.slice m.a m.n m.c,q]⟩) i)
theorem aea {cl:Int} {cm:Int} {cr:Int} {aZ:ah} {version:Int} {w:World} {R:Value→World→Prop} (h:Nn cl cm cr aZ version w R):Ok Pr Hh [.agg ⟨[.int .i64 cl,.int .i64 cm,.int .i64 cr,.slice aZ.a aZ.n aZ.c]⟩,.int .i64 version] w R:=
 aL (m:=⟨true,true⟩) (J:=[]) (L:=[]) aJ Tryz.func113 (by kernel_rfl) ((by kernel_rfl:aK Pr _ _ _ Tryz.f113 _ w R=Nn cl cm cr aZ version w R).mpr h)
def Pm (cl:Int) (cm:Int) (cr:Int) (aZ:ah) (version:Int) (c:ah) (w:World) (R:Value→World→Prop):Prop:=
 nw aV [.int .i64 cl,.int .i64 cm,.int .i64 cr,.slice aZ.a aZ.n aZ.c] w fun a b=>
 bz a b fun d e f g=>
 az Pr DF [.agg ⟨[.int .i64 d,.int .i64 e,.int .i64 f,.slice g.a g.n g.c]⟩,.int .i64 version,.func (.func Dn) ⟨[]⟩ ⟨[]⟩] b fun i j=>
 bB.bC i fun k=>
 aD k fun l m=>
 aT l fun n=>
 aD m fun o p=>
 aT o fun q=>
 aD p fun s t=>
 (t=[]∧
 fB s fun u=>
 aA (!u)
 (R (.tuple ⟨[.slice none 0 0,s]⟩) j)
 (an .i64 (Addr.add a 2) j fun v=>
 az Pr PB [.int .i64 v,.slice q.a q.n q.c,.slice c.a c.n c.c] j fun x y=>
 bB.bC x fun z=>
 aD z fun A B=>
 aT A fun C=>
 aD B fun D E=>
 (E=[]∧
 R (.tuple ⟨[.slice C.a C.n C.c,D]⟩) y)))
theorem afB {cl:Int} {cm:Int} {cr:Int} {aZ:ah} {version:Int} {c:ah} {w:World} {R:Value→World→Prop} (h:Pm cl cm cr aZ version c w R):Ok Pr OG [.agg ⟨[.int .i64 cl,.int .i64 cm,.int .i64 cr,.slice aZ.a aZ.n aZ.c]⟩,.int .i64 version,.slice c.a c.n c.c] w R:=
 aL (m:=⟨true,true⟩) (J:=[]) (L:=[]) aJ Tryz.func114 (by kernel_rfl) ((by kernel_rfl:aK Pr _ _ _ Tryz.f114 _ w R=Pm cl cm cr aZ version c w R).mpr h)
def Pn (cl:Int) (cm:Int) (cr:Int) (aZ:ah) (m:ah) (w:World) (R:Value→World→Prop):Prop:=
 nw aV [.int .i64 cl,.int .i64 cm,.int .i64 cr,.slice aZ.a aZ.n aZ.c] w fun a b=>
 bz a b fun c d e f=>
 az Pr sY [.agg ⟨[.int .i64 c,.int .i64 d,.int .i64 e,.slice f.a f.n f.c]⟩] b fun g i=>
 aW g fun j=>
 aA (!j)
 (az Pr kX [.int .i64 2] i fun k l=>
 R (.tuple ⟨[.int .i64 0,.slice none 0 0,.slice none 0 0,k]⟩) l)
 (bz a i fun n o p q=>
 az Pr Mq [.agg ⟨[.int .i64 n,.int .i64 o,.int .i64 p,.slice q.a q.n q.c]⟩] i fun s t=>
 bB.bC s fun u=>
 aD u fun v x=>
 uF v fun y z A B=>
 aD x fun C D=>
 aW C fun E=>
 (D=[]∧
 nw cI (zc Pr cI) t fun F G=>
 gu F y z A B G fun I=>
 aA (!E)
 (az Pr kX [.int .i64 11] I fun J L=>
 R (.tuple ⟨[.int .i64 0,.slice none 0 0,.slice none 0 0,J]⟩) L)
 (bz a I fun M N O Q=>
 an .i64 (Addr.add F 0) I fun S=>
 az Pr DF [.agg ⟨[.int .i64 M,.int .i64 N,.int .i64 O,.slice Q.a Q.n Q.c]⟩,.int .i64 S,.func (.func Dn) ⟨[]⟩ ⟨[]⟩] I fun T U=>
 bB.bC T fun V=>
 aD V fun X Y=>
 aT X fun Z=>
 aD Y fun aa ba=>
 aT aa fun ca=>
 aD ba fun da ea=>
 (ea=[]∧
 fB da fun fa=>
 aA (!fa)
 (R (.tuple ⟨[.int .i64 0,.slice none 0 0,.slice none 0 0,da]⟩) U)
 (an .i64 (Addr.add a 2) U fun ga=>
 az Pr PC [.int .i64 ga,.slice Z.a Z.n Z.c,.slice m.a m.n m.c] U fun ia ja=>
 bB.bC ia fun ka=>
 aD ka fun la ma=>
 aT la fun na=>
 aD ma fun oa pa=>
 aT oa fun qa=>
 aD pa fun sa ta=>
 (ta=[]∧
 fB sa fun ua=>
 aA (!ua)
 (R (.tuple ⟨[.int .i64 0,.slice none 0 0,.slice none 0 0,sa]⟩) ja)
 (an .i64 (Addr.add F 0) ja fun va=>
 R (.tuple ⟨[.int .i64 va,.slice na.a na.n na.c,.slice qa.a qa.n qa.c,.nilIface]⟩) ja)))))))
theorem afC {cl:Int} {cm:Int} {cr:Int} {aZ:ah} {m:ah} {w:World} {R:Value→World→Prop} (h:Pn cl cm cr aZ m w R):Ok Pr OH [.agg ⟨[.int .i64 cl,.int .i64 cm,.int .i64 cr,.slice aZ.a aZ.n aZ.c]⟩,.slice m.a m.n m.c] w R:=
 aL (m:=⟨true,true⟩) (J:=[]) (L:=[]) aJ Tryz.func115 (by kernel_rfl) ((by kernel_rfl:aK Pr _ _ _ Tryz.f115 _ w R=Pn cl cm cr aZ m w R).mpr h)
def No (cl:Int) (cm:Int) (cr:Int) (aZ:ah) (aq:ah) (w:World) (R:Value→World→Prop):Prop:=
 nw aV [.int .i64 cl,.int .i64 cm,.int .i64 cr,.slice aZ.a aZ.n aZ.c] w fun a b=>
 nw aV (zc Pr aV) b fun c d=>
 bz a d fun e f g i=>
 az Pr sY [.agg ⟨[.int .i64 e,.int .i64 f,.int .i64 g,.slice i.a i.n i.c]⟩] d fun j k=>
 aW j fun l=>
 aA (!l)
 (az Pr kX [.int .i64 2] k fun m n=>
 cA c 0 0 0 ⟨none,0,0⟩ n fun o=>
 bz c o fun p q s t=>
 R (.tuple ⟨[.agg ⟨[.int .i64 p,.int .i64 q,.int .i64 s,.slice t.a t.n t.c]⟩,m]⟩) o)
 (aA (!decide ((aq.n:Int)=64))
 (az Pr kX [.int .i64 3] k fun u v=>
 cA c 0 0 0 ⟨none,0,0⟩ v fun x=>
 bz c x fun y z A B=>
 R (.tuple ⟨[.agg ⟨[.int .i64 y,.int .i64 z,.int .i64 A,.slice B.a B.n B.c]⟩,u]⟩) x)
 (ax (Addr.add a 3) k fun C=>
 aA (decide ((C.n:Int)=5))
 (az Pr kX [.int .i64 12] k fun D E=>
 cA c 0 0 0 ⟨none,0,0⟩ E fun F=>
 bz c F fun G I J L=>
 R (.tuple ⟨[.agg ⟨[.int .i64 G,.int .i64 I,.int .i64 J,.slice L.a L.n L.c]⟩,D]⟩) F)
 (bz a k fun M N O Q=>
 az Pr Bn [.agg ⟨[.int .i64 M,.int .i64 N,.int .i64 O,.slice Q.a Q.n Q.c]⟩] k fun S T=>
 q9 S fun U V X Y=>
 cA a U V X Y T fun Z=>
 ax (Addr.add a 3) (World.drew Z) fun aa=>
 ax (Addr.add a 3) (World.drew Z) fun ba=>
 (aF ((ba.n:Int)+1)∧
 az Pr Hu [.int .i64 ((ba.n:Int)+1),.slice aq.a aq.n aq.c] (World.drew Z) fun ca da=>
 uF ca fun ea fa ga ia=>
 (kept (Addr.add a 3) 1 (World.drew Z) da∧
 nw cI [.int .i64 ea,.int .i64 fa,.int .i64 ga,.slice ia.a ia.n ia.c] da fun ja ka=>
 (kept (Addr.add a 3) 1 da ka∧
 cG Pr [sS,sS] sS [.slice aa.a aa.n aa.c,.slice (some ja) 1 1] ka fun la ma=>
 st (Addr.add a 3) (.slice la.a la.n la.c) ma fun na=>
 bz a na fun oa pa qa sa=>
 cA c oa pa qa sa na fun ta=>
 bz c ta fun ua va xa ya=>
 R (.tuple ⟨[.agg ⟨[.int .i64 ua,.int .i64 va,.int .i64 xa,.slice ya.a ya.n ya.c]⟩,.nilIface]⟩) ta))))))
theorem aeb {cl:Int} {cm:Int} {cr:Int} {aZ:ah} {aq:ah} {w:World} {R:Value→World→Prop} (h:No cl cm cr aZ aq w R):Ok Pr MN [.agg ⟨[.int .i64 cl,.int .i64 cm,.int .i64 cr,.slice aZ.a aZ.n aZ.c]⟩,.slice aq.a aq.n aq.c] w R:=
 aL (m:=⟨true,true⟩) (J:=[]) (L:=[]) aJ Tryz.func119 (by kernel_rfl) ((by kernel_rfl:aK Pr _ _ _ Tryz.f119 _ w R=No cl cm cr aZ aq w R).mpr h)
def Qp (cl:Int) (cm:Int) (cr:Int) (aZ:ah) (op:Int) (version:Int) (zy:Int) (clock:Int) (w:World) (R:Value→World→Prop):Prop:=
 nw aV [.int .i64 cl,.int .i64 cm,.int .i64 cr,.slice aZ.a aZ.n aZ.c] w fun a b=>
 nw aV (zc Pr aV) b fun c d=>
 bz a d fun e f g i=>
 az Pr sY [.agg ⟨[.int .i64 e,.int .i64 f,.int .i64 g,.slice i.a i.n i.c]⟩] d fun j k=>
 aW j fun l=>
 aA (((!l) || (decide (op<5))) || (decide (8<op)))
 (az Pr kX [.int .i64 2] k fun m n=>
 cA c 0 0 0 ⟨none,0,0⟩ n fun o=>
 bz c o fun p q s t=>
 R (.tuple ⟨[.agg ⟨[.int .i64 p,.int .i64 q,.int .i64 s,.slice t.a t.n t.c]⟩,m]⟩) o)
 (bz a k fun u v x y=>
 az Pr yE [.agg ⟨[.int .i64 u,.int .i64 v,.int .i64 x,.slice y.a y.n y.c]⟩,.int .i64 version] k fun z A=>
 bB.bC z fun B=>
 aD B fun C D=>
 uF C fun E F G I=>
 aD D fun J L=>
 aW J fun M=>
 (L=[]∧
 nw cI (zc Pr cI) A fun N O=>
 gu N E F G I O fun Q=>
 aA (!M)
 (az Pr kX [.int .i64 9] Q fun S T=>
 cA c 0 0 0 ⟨none,0,0⟩ T fun U=>
 bz c U fun V X Y Z=>
 R (.tuple ⟨[.agg ⟨[.int .i64 V,.int .i64 X,.int .i64 Y,.slice Z.a Z.n Z.c]⟩,S]⟩) U)
 (an .i64 (Addr.add N 1) Q fun aa=>
 az Pr OJ [.int .i64 op,.int .i64 aa] Q fun ba ca=>
 bB.bC ba fun da=>
 aD da fun ea fa=>
 bk .i64 ea fun ga=>
 aD fa fun ia ja=>
 aW ia fun ka=>
 (ja=[]∧
 jl (fun (la:Int)=>[(3,some (.int .i64 la))])
 (fun la ma=>bz a ma fun na oa pa qa=>
 az Pr Bn [.agg ⟨[.int .i64 na,.int .i64 oa,.int .i64 pa,.slice qa.a qa.n qa.c]⟩] ma fun sa ta=>
 q9 sa fun ua va xa ya=>
 cA a ua va xa ya ta fun za=>
 ax (Addr.add a 3) (World.drew za) fun Aa=>
 (aF (version - 1)∧
 ax (Addr.add a 3) (World.drew za) fun Ba=>
 (aF (version - 1)∧
 aU Aa.a (version - 1) Aa.n
 (st (Addr.add (Addr.add (base Aa.a) (Int.toNat (version - 1) * 4)) 1) (.int .i64 ga) (World.drew za) fun Ca=>
 (kept (Addr.add a 3) 1 (World.drew za) Ca∧
 aU Ba.a (version - 1) Ba.n
 (st (Addr.add (Addr.add (base Ba.a) (Int.toNat (version - 1) * 4)) 2) (.int .i64 la) Ca fun Da=>
 bz a Da fun Ea Fa Ga Ia=>
 cA c Ea Fa Ga Ia Da fun Ja=>
 bz c Ja fun La Ma Na Oa=>
 R (.tuple ⟨[.agg ⟨[.int .i64 La,.int .i64 Ma,.int .i64 Na,.slice Oa.a Oa.n Oa.c]⟩,.nilIface]⟩) Ja))))))
 (fun Qa=>
 aA (!ka)
 (az Pr kX [.int .i64 11] ca fun Sa Ta=>
 cA c 0 0 0 ⟨none,0,0⟩ Ta fun Ua=>
 bz c Ua fun Va Xa Ya Za=>
 R (.tuple ⟨[.agg ⟨[.int .i64 Va,.int .i64 Xa,.int .i64 Ya,.slice Za.a Za.n Za.c]⟩,Sa]⟩) Ua)
 (aA (!decide (op=7))
 (Qa 0 ca)
 (jl (fun (ab:Bool)=>[(53,some (.bool ab))])
 (fun ab bb=>aA ab
 (az Pr kX [.int .i64 2] bb fun cb db=>
 cA c 0 0 0 ⟨none,0,0⟩ db fun eb=>
 bz c eb fun fb gb ib jb=>
 R (.tuple ⟨[.agg ⟨[.int .i64 fb,.int .i64 gb,.int .i64 ib,.slice jb.a jb.n jb.c]⟩,cb]⟩) eb)
 (Qa zy bb))
 (fun kb=>
 aA (decide (zy≤clock))
 (kb true ca)
 (az Pr uL [.int .i64 zy,.int .i64 1,.int .i64 1099511627776] ca fun lb mb=>
 aW lb fun nb=>
 kb (!nb) mb)))))))))
theorem agy {cl:Int} {cm:Int} {cr:Int} {aZ:ah} {op:Int} {version:Int} {zy:Int} {clock:Int} {w:World} {R:Value→World→Prop} (h:Qp cl cm cr aZ op version zy clock w R):Ok Pr Py [.agg ⟨[.int .i64 cl,.int .i64 cm,.int .i64 cr,.slice aZ.a aZ.n aZ.c]⟩,.int .i64 op,.int .i64 version,.int .i64 zy,.int .i64 clock] w R:=
 aL (m:=⟨true,true⟩) (J:=[(13,[(3,.int .i64)]),(12,[(53,.bool)])]) (L:=[]) aJ Tryz.func120 (by kernel_rfl) ((by kernel_rfl:aK Pr _ _ _ Tryz.f120 _ w R=Qp cl cm cr aZ op version zy clock w R).mpr h)
def L6 (s:ByteArray) (w:World) (R:Value→World→Prop):Prop:=
 R (.bool ((decide (1≤((ByteArray.size s:Nat):Int))) && (decide (((ByteArray.size s:Nat):Int)≤300)))) w
theorem adj {s:ByteArray} {w:World} {R:Value→World→Prop} (h:L6 s w R):Ok Pr G0 [.string s] w R:=
 aL (m:=⟨true,true⟩) (J:=[]) (L:=[]) aJ Tryz.func123 (by kernel_rfl) ((by kernel_rfl:aK Pr _ _ _ Tryz.f123 _ w R=L6 s w R).mpr h)
def L7 (l:ah) (parent:Int) (name:ByteArray) (w:World) (R:Value→World→Prop):Prop:=
 nw bD [.int .i64 parent] w fun a b=>
 nw yZ [.string name] b fun c d=>
 az Pr Kx [.slice l.a l.n l.c,.func (.func Lx) ⟨[]⟩ ⟨[.pointer (some a),.pointer (some c)]⟩] d fun e f=>
 aW e fun g=>
 R (.bool g) f
theorem adk {l:ah} {parent:Int} {name:ByteArray} {w:World} {R:Value→World→Prop} (h:L7 l parent name w R):Ok Pr G1 [.slice l.a l.n l.c,.int .i64 parent,.string name] w R:=
 aL (m:=⟨true,true⟩) (J:=[]) (L:=[]) aJ Tryz.func124 (by kernel_rfl) ((by kernel_rfl:aK Pr _ _ _ Tryz.f124 _ w R=L7 l parent name w R).mpr h)
def QK (n:Int) (lo:Int) (hi:Int) (w:World) (R:Value→World→Prop):Prop:=
 R (.bool ((decide (lo≤n)) && (decide (n≤hi)))) w
theorem ag8 {n:Int} {lo:Int} {hi:Int} {w:World} {R:Value→World→Prop} (h:QK n lo hi w R):Ok Pr uL [.int .i64 n,.int .i64 lo,.int .i64 hi] w R:=
 aL (m:=⟨true,true⟩) (J:=[]) (L:=[]) aJ Tryz.func127 (by kernel_rfl) ((by kernel_rfl:aK Pr _ _ _ Tryz.f127 _ w R=QK n lo hi w R).mpr h)
def Qq (sG:Int) (sH:Int) (sI:Int) (kU:ah) (n:Int) (w:World) (R:Value→World→Prop):Prop:=
 nw cI [.int .i64 sG,.int .i64 sH,.int .i64 sI,.slice kU.a kU.n kU.c] w fun a b=>
 an .i64 (Addr.add a 2) (World.drew b) fun c=>
 ax (Addr.add a 3) (World.drew b) fun d=>
 lt (A:=Bool) (decide ((d.n:Int)=64)) fun e=>
 tC (fun (f:Bool) (g:Bool)=>[(5,some (.bool f)),(6,some (.bool g))])
 (fun f g i=>an .i64 (Addr.add a 0) i fun j=>
 R (.bool (((decide (j=n)) && f) && g)) i)
 (fun k=>
 an .i64 (Addr.add a 1) (World.drew b) fun l=>
 aA (decide (l=3))
 (an .i64 (Addr.add a 2) (World.drew b) fun m=>
 az Pr uL [.int .i64 m,.int .i64 1,.int .i64 1099511627776] (World.drew b) fun o p=>
 aW o fun q=>
 k q e p)
 (aA (decide (l=4))
 (ax (Addr.add a 3) (World.drew b) fun s=>
 lt (A:=Bool) (decide ((s.n:Int)=0)) fun t=>
 k (decide (c=0)) t (World.drew b))
 (aA (decide (l=1))
 (aA (decide (l=1))
 (k (decide (c=0)) e (World.drew b))
 (R (.bool false) (World.drew b)))
 (aA (decide (l=2))
 (k (decide (c=0)) e (World.drew b))
 (R (.bool false) (World.drew b))))))
theorem agz {sG:Int} {sH:Int} {sI:Int} {kU:ah} {n:Int} {w:World} {R:Value→World→Prop} (h:Qq sG sH sI kU n w R):Ok Pr Pz [.agg ⟨[.int .i64 sG,.int .i64 sH,.int .i64 sI,.slice kU.a kU.n kU.c]⟩,.int .i64 n] w R:=
 aL (m:=⟨true,true⟩) (J:=[(10,[(5,.bool),(6,.bool)])]) (L:=[]) aJ Tryz.func128 (by kernel_rfl) ((by kernel_rfl:aK Pr _ _ _ Tryz.f128 _ w R=Qq sG sH sI kU n w R).mpr h)
def L8 (sG:Int) (sH:Int) (sI:Int) (kU:ah) (n:Int) (w:World) (R:Value→World→Prop):Prop:=
 nw cI [.int .i64 sG,.int .i64 sH,.int .i64 sI,.slice kU.a kU.n kU.c] w fun a b=>
 an .i64 (Addr.add a 0) b fun c=>
 an .i64 (Addr.add a 1) b fun d=>
 an .i64 (Addr.add a 1) b fun e=>
 aA (((!decide (c=n)) || (decide (d<1))) || (decide (4<e)))
 (R (.bool false) b)
 (an .i64 (Addr.add a 1) b fun f=>
 ax (Addr.add a 3) b fun g=>
 an .i64 (Addr.add a 1) b fun i=>
 ax (Addr.add a 3) b fun j=>
 aA (((decide (f=4)) && (!decide ((g.n:Int)=0))) || ((!decide (i=4)) && (!decide ((j.n:Int)=64))))
 (R (.bool false) b)
 (an .i64 (Addr.add a 1) b fun k=>
 aA (decide (k=3))
 (an .i64 (Addr.add a 2) b fun l=>
 an .i64 (Addr.add a 2) b fun m=>
 R (.bool ((decide (1≤l)) && (decide (m≤1099511627776)))) b)
 (an .i64 (Addr.add a 2) b fun o=>
 R (.bool (decide (o=0))) b)))
theorem adl {sG:Int} {sH:Int} {sI:Int} {kU:ah} {n:Int} {w:World} {R:Value→World→Prop} (h:L8 sG sH sI kU n w R):Ok Pr LU [.agg ⟨[.int .i64 sG,.int .i64 sH,.int .i64 sI,.slice kU.a kU.n kU.c]⟩,.int .i64 n] w R:=
 aL (m:=⟨true,true⟩) (J:=[]) (L:=[]) aJ Tryz.func147 (by kernel_rfl) ((by kernel_rfl:aK Pr _ _ _ Tryz.f147 _ w R=L8 sG sH sI kU n w R).mpr h)
def MD (l:ah) (a:Int) (w:World) (R:Value→World→Prop):Prop:=
 az Pr Dq [.slice l.a l.n l.c] w fun b c=>
 aW b fun d=>
 aA (!d)
 (R (.slice none 0 0) c)
 (iy (fun (e:Int) (f:ah)=>[(1,some (.int .i64 e)),(5,some (.slice f.a f.n f.c))])
 (fun g e f i=>az Pr G4 [.slice l.a l.n l.c,.int .i64 e] i fun j k=>
 aW j fun m=>
 aA m
 (nw bD [.int .i64 e] k fun n o=>
 cG Pr [fk,fk] fk [.slice f.a f.n f.c,.slice (some n) 1 1] o fun p q=>
 (aF (e - 1)∧
 aU l.a (e - 1) l.n
 (an .i64 (Addr.add (Addr.add (base l.a) (Int.toNat (e - 1) * 3)) 1) q fun s=>
 g s p q)))
 (R (.slice f.a f.n f.c) k))
 a ⟨none,0,0⟩ c)
theorem adE {l:ah} {a:Int} {w:World} {R:Value→World→Prop} (h:MD l a w R):Ok Pr Mp [.slice l.a l.n l.c,.int .i64 a] w R:=
 aL (m:=⟨true,true⟩) (J:=[]) (L:=[(4,[(1,.int .i64),(5,.sl)])]) aJ Tryz.func150 (by kernel_rfl) ((by kernel_rfl:aK Pr _ _ _ Tryz.f150 _ w R=MD l a w R).mpr h)
def L9 (code:Int) (w:World) (R:Value→World→Prop):Prop:=
 nw oX [.int .i64 code,.string aiK] w fun a b=>
 R (.iface jy (.pointer (some a))) b
theorem adm {code:Int} {w:World} {R:Value→World→Prop} (h:L9 code w R):Ok Pr wB [.int .i64 code] w R:=
 aL (m:=⟨true,true⟩) (J:=[]) (L:=[]) aJ Tryz.func155 (by kernel_rfl) ((by kernel_rfl:aK Pr _ _ _ Tryz.f155 _ w R=L9 code w R).mpr h)
def Mh (l:ah) (fz:Int) (w:World) (R:Value→World→Prop):Prop:=
 R (.bool ((decide (1≤fz)) && (decide (fz≤(l.n:Int))))) w
theorem adn {l:ah} {fz:Int} {w:World} {R:Value→World→Prop} (h:Mh l fz w R):Ok Pr G4 [.slice l.a l.n l.c,.int .i64 fz] w R:=
 aL (m:=⟨true,true⟩) (J:=[]) (L:=[]) aJ Tryz.func156 (by kernel_rfl) ((by kernel_rfl:aK Pr _ _ _ Tryz.f156 _ w R=Mh l fz w R).mpr h)
def Oo (n:Int) (aq:ah) (w:World) (R:Value→World→Prop):Prop:=
 nw cI (zc Pr cI) w fun a b=>
 az Pr sQ [.slice aq.a aq.n aq.c] b fun c d=>
 aT c fun e=>
 gu a n 1 0 e d fun f=>
 jx a f fun g i j k=>
 R (.agg ⟨[.int .i64 g,.int .i64 i,.int .i64 j,.slice k.a k.n k.c]⟩) f
theorem aeR {n:Int} {aq:ah} {w:World} {R:Value→World→Prop} (h:Oo n aq w R):Ok Pr Hu [.int .i64 n,.slice aq.a aq.n aq.c] w R:=
 aL (m:=⟨true,true⟩) (J:=[]) (L:=[]) aJ Tryz.func157 (by kernel_rfl) ((by kernel_rfl:aK Pr _ _ _ Tryz.f157 _ w R=Oo n aq w R).mpr h)
def Oq (code:Int) (w:World) (R:Value→World→Prop):Prop:=
 nw oX [.int .i64 code,.string alJ] w fun a b=>
 R (.iface jy (.pointer (some a))) b
theorem aeS {code:Int} {w:World} {R:Value→World→Prop} (h:Oq code w R):Ok Pr kX [.int .i64 code] w R:=
 aL (m:=⟨true,true⟩) (J:=[]) (L:=[]) aJ Tryz.func158 (by kernel_rfl) ((by kernel_rfl:aK Pr _ _ _ Tryz.f158 _ w R=Oq code w R).mpr h)
def Po (cl:Int) (cm:Int) (cr:Int) (aZ:ah) (version:Int) (usable:Value) (w:World) (R:Value→World→Prop):Prop:=
 nw aV [.int .i64 cl,.int .i64 cm,.int .i64 cr,.slice aZ.a aZ.n aZ.c] w fun a b=>
 bz a b fun c d e f=>
 az Pr sY [.agg ⟨[.int .i64 c,.int .i64 d,.int .i64 e,.slice f.a f.n f.c]⟩] b fun g i=>
 aW g fun j=>
 aA (!j)
 (az Pr kX [.int .i64 2] i fun k l=>
 R (.tuple ⟨[.slice none 0 0,.slice none 0 0,k]⟩) l)
 (bz a i fun m n o p=>
 az Pr yE [.agg ⟨[.int .i64 m,.int .i64 n,.int .i64 o,.slice p.a p.n p.c]⟩,.int .i64 version] i fun q s=>
 bB.bC q fun t=>
 aD t fun u v=>
 uF u fun x y z A=>
 aD v fun B C=>
 aW B fun D=>
 (C=[]∧
 nw cI (zc Pr cI) s fun E F=>
 gu E x y z A F fun G=>
 aA (!D)
 (az Pr kX [.int .i64 9] G fun I J=>
 R (.tuple ⟨[.slice none 0 0,.slice none 0 0,I]⟩) J)
 (an .i64 (Addr.add E 1) G fun L=>
 lN Pr usable [.int .i64 L] G fun M N=>
 aW M fun O=>
 aA (!O)
 (az Pr kX [.int .i64 11] N fun Q S=>
 R (.tuple ⟨[.slice none 0 0,.slice none 0 0,Q]⟩) S)
 (an .i64 (Addr.add a 2) N fun T=>
 ax (Addr.add E 3) N fun U=>
 az Pr PD [.int .i64 T,.slice U.a U.n U.c] N fun V X=>
 bB.bC V fun Y=>
 aD Y fun Z aa=>
 aT Z fun ba=>
 aD aa fun ca da=>
 aT ca fun ea=>
 aD da fun fa ga=>
 (ga=[]∧
 R (.tuple ⟨[.slice ba.a ba.n ba.c,.slice ea.a ea.n ea.c,fa]⟩) X)))))
theorem afD {cl:Int} {cm:Int} {cr:Int} {aZ:ah} {version:Int} {usable:Value} {w:World} {R:Value→World→Prop} (h:Po cl cm cr aZ version usable w R):Ok Pr DF [.agg ⟨[.int .i64 cl,.int .i64 cm,.int .i64 cr,.slice aZ.a aZ.n aZ.c]⟩,.int .i64 version,usable] w R:=
 aL (m:=⟨true,true⟩) (J:=[]) (L:=[]) aJ Tryz.func159 (by kernel_rfl) ((by kernel_rfl:aK Pr _ _ _ Tryz.f159 _ w R=Po cl cm cr aZ version usable w R).mpr h)
def Mj (state:Int) (w:World) (R:Value→World→Prop):Prop:=
 R (.bool (!decide (state=4))) w
theorem ado {state:Int} {w:World} {R:Value→World→Prop} (h:Mj state w R):Ok Pr G5 [.int .i64 state] w R:=
 aL (m:=⟨true,true⟩) (J:=[]) (L:=[]) aJ Tryz.func160 (by kernel_rfl) ((by kernel_rfl:aK Pr _ _ _ Tryz.f160 _ w R=Mj state w R).mpr h)
def ME (state:Int) (w:World) (R:Value→World→Prop):Prop:=
 R (.bool (decide (state=1))) w
theorem adF {state:Int} {w:World} {R:Value→World→Prop} (h:ME state w R):Ok Pr Dn [.int .i64 state] w R:=
 aL (m:=⟨true,true⟩) (J:=[]) (L:=[]) aJ Tryz.func161 (by kernel_rfl) ((by kernel_rfl:aK Pr _ _ _ Tryz.f161 _ w R=ME state w R).mpr h)
def MF (cl:Int) (cm:Int) (cr:Int) (aZ:ah) (w:World) (R:Value→World→Prop):Prop:=
 nw aV [.int .i64 cl,.int .i64 cm,.int .i64 cr,.slice aZ.a aZ.n aZ.c] w fun a b=>
 nw cI (zc Pr cI) b fun c d=>
 ax (Addr.add a 3) d fun e=>
 cY (fun (f:Int)=>[(4,some (.int .i64 f))])
 (fun g f i=>aA (decide (0<f))
 (bz a i fun j k l m=>
 az Pr yE [.agg ⟨[.int .i64 j,.int .i64 k,.int .i64 l,.slice m.a m.n m.c]⟩,.int .i64 f] i fun n o=>
 bB.bC n fun p=>
 aD p fun q s=>
 uF q fun t u v x=>
 aD s fun y z=>
 aW y fun A=>
 (z=[]∧
 nw cI (zc Pr cI) o fun B C=>
 gu B t u v x C fun D=>
 an .i64 (Addr.add B 1) D fun E=>
 aA (A && (decide (E=1)))
 (jx B D fun F G I J=>
 gu c F G I J D fun L=>
 jx c L fun M N O Q=>
 R (.tuple ⟨[.agg ⟨[.int .i64 M,.int .i64 N,.int .i64 O,.slice Q.a Q.n Q.c]⟩,.bool true]⟩) L)
 ((aF (f - 1)∧
 g (f - 1) D))))
 (gu c 0 0 0 ⟨none,0,0⟩ i fun S=>
 jx c S fun T U V X=>
 R (.tuple ⟨[.agg ⟨[.int .i64 T,.int .i64 U,.int .i64 V,.slice X.a X.n X.c]⟩,.bool false]⟩) S))
 (e.n:Int) d
theorem adG {cl:Int} {cm:Int} {cr:Int} {aZ:ah} {w:World} {R:Value→World→Prop} (h:MF cl cm cr aZ w R):Ok Pr Mq [.agg ⟨[.int .i64 cl,.int .i64 cm,.int .i64 cr,.slice aZ.a aZ.n aZ.c]⟩] w R:=
 aL (m:=⟨true,true⟩) (J:=[]) (L:=[(2,[(4,.int .i64)])]) aJ Tryz.func163 (by kernel_rfl) ((by kernel_rfl:aK Pr _ _ _ Tryz.f163 _ w R=MF cl cm cr aZ w R).mpr h)
def Pp (op:Int) (state:Int) (w:World) (R:Value→World→Prop):Prop:=
 jl (fun (a:Int)=>[(1,some (.int .i64 a))])
 (fun a b=>R (.tuple ⟨[.int .i64 2,.bool (decide (a=3))]⟩) b)
 (fun c=>
 aA (decide (op=5))
 (R (.tuple ⟨[.int .i64 1,.bool (decide (state=2))]⟩) w)
 (aA (decide (op=7))
 (aA ((decide (state=1)) || (decide (state=2)))
 (R (.tuple ⟨[.int .i64 3,.bool true]⟩) w)
 (R (.tuple ⟨[.int .i64 0,.bool false]⟩) w))
 (aA (decide (op=6))
 (aA (!decide (state=1))
 (R (.tuple ⟨[.int .i64 0,.bool false]⟩) w)
 (c 3 w))
 (aA (decide (op=8))
 (c state w)
 (R (.tuple ⟨[.int .i64 0,.bool false]⟩) w)))))
theorem afE {op:Int} {state:Int} {w:World} {R:Value→World→Prop} (h:Pp op state w R):Ok Pr OJ [.int .i64 op,.int .i64 state] w R:=
 aL (m:=⟨true,true⟩) (J:=[(11,[(1,.int .i64)])]) (L:=[]) aJ Tryz.func168 (by kernel_rfl) ((by kernel_rfl:aK Pr _ _ _ Tryz.f168 _ w R=Pp op state w R).mpr h)
def LA (cQ:Int) (bK:Int) (bL:ByteArray) (free:Addr) (kA:Addr) (w:World) (R:Value→World→Prop):Prop:=
 nw dF [.int .i64 cQ,.int .i64 bK,.string bL] w fun a b=>
 an .i64 (Addr.add a 1) b fun c=>
 an .i64 free b fun d=>
 fS (Addr.add a 2) b fun e=>
 fS kA b fun f=>
 R (.bool ((decide (c=d)) && (decide (e=f)))) b
theorem acI {cQ:Int} {bK:Int} {bL:ByteArray} {free:Addr} {kA:Addr} {w:World} {R:Value→World→Prop} (h:LA cQ bK bL free kA w R):Ok Pr Lx [.agg ⟨[.int .i64 cQ,.int .i64 bK,.string bL]⟩,.pointer (some free),.pointer (some kA)] w R:=
 aL (m:=⟨true,true⟩) (J:=[]) (L:=[]) aJ Tryz.func170 (by kernel_rfl) ((by kernel_rfl:aK Pr _ _ _ Tryz.f170 _ w R=LA cQ bK bL free kA w R).mpr h)
end Go.Proofs.YtgjoehgomjgckaaGreatDoor
end
section
set_option linter.unusedVariables false
set_option linter.unusedSimpArgs false
namespace Go.Proofs.YtgjoehgomjgckaaGreatDoor
open Go Go.Ev
set_option maxRecDepth 20000
set_option linter.unusedVariables false
structure bp where
 n:Int
 st:Int
 due:Int
 aq:List B8
def vz:bp:=⟨0,0,0,[]⟩
def bp.cs (v:bp) (x:ah):List Value:=uG v.n v.st v.due x
theorem bp.ct (v:bp) (x:ah):(v.cs x).length=4:=rfl
def jM (w:World) (x:ah) (v:bp):Prop:=Bytes w x v.aq
theorem jM.aG {w w':World} {x:ah} {v:bp} (m:Mod [] w w') (h:jM w x v):jM w' x v:=Bytes.aG h m
def fO (w:World) (s:ah) (vs:List bp):Prop:=Dv bp.cs 4 jM w s vs
theorem fO.aG {w w':World} {s:ah} {vs:List bp} (h:fO w s vs) (m:Mod [] w w'):fO w' s vs:=Dv.aG (E:=jM) (fun m h=>jM.aG m h) h m
theorem fO.len {w:World} {s:ah} {vs:List bp} (h:fO w s vs):vs.length=s.n:=Dv.len bp.ct (by omega) h
structure aR where
 id:Int
 ten:Int
 set:Int
 aH:List bp
def kz:aR:=⟨0,0,0,[]⟩
def aR.cs (k:aR) (x:ah):List Value:=dA k.id k.ten k.set x
theorem aR.ct (k:aR) (x:ah):(k.cs x).length=4:=rfl
def iz (w:World) (x:ah) (v:bp):Prop:=Own w 0 bh 1 x (bn v.aq)
theorem iz.r {w:World} {x:ah} {v:bp} (h:iz w x v):jM w x v:=Own.bytes h
theorem aj7 {w:World} {xs:List ah} {vs:List bp} (h:bw iz w xs vs):bw jM w xs vs:=⟨h.1,fun i x v hx hv=>(h.2 i x v hx hv).r⟩
def j0 (w:World) (s:ah) (vs:List bp):Prop:=∃ ys,Own w 0 cI 4 s (bq bp.cs vs ys)∧bw iz w ys vs
theorem j0.aH {w:World} {s:ah} {vs:List bp} (h:j0 w s vs):fO w s vs:=by
 obtain ⟨ys,h1,h2⟩:=h
 exact ⟨ys,h1.sl,aj7 h2⟩
def JL (w w':World) (y:ah) (vs:List bp):Prop:=∃ ys fp,ak w [] w' [.row cI 4 y (bq bp.cs vs ys),.box fp fun w=>bw iz w ys vs]
theorem JL.box {w w':World} {y:ah} {vs:List bp} (h:JL w w' y vs):fJ w w' fun w=>j0 w y vs:=by
 obtain ⟨ys,fp,H⟩:=h
 refine H.boxed fun w' k=>⟨ys,k 0 _ rfl,?_⟩
 have h2:(aE.box fp fun w=>bw iz w ys vs).ok w':=k 1 _ rfl
 exact h2.2 w' fun _ _=>rfl
theorem AX (c:Int) (hc:c≠0) (w:World):Ok Pr kX [.int .i64 c] w fun v w'=>cO w w' v c∧Mod [] w w':=by
 refine aeS ?_
 unfold Oq
 exact qv fun b w' hb h1 h2 _=>⟨cO.mk h1 (by omega) hc,h2⟩
theorem yR (n lo hi:Int) (w:World):Ok Pr uL [.int .i64 n,.int .i64 lo,.int .i64 hi] w fun v w'=>v=.bool (aP lo hi n)∧w'=w:=by
 refine ag8 ?_
 unfold QK
 exact ⟨rfl,rfl⟩
def gw (v:bp) (n:Int):Bool:=decide (v.n=n) && (if v.st=3 then aP 1 1099511627776 v.due && decide (v.aq.length=64) else if v.st=4 then decide (v.due=0) && decide (v.aq.length=0) else if v.st=1∨v.st=2 then decide (v.due=0) && decide (v.aq.length=64) else false)
theorem ahK (v:bp) (x:ah) (n:Int) (w:World) (hx:jM w x v):Ok Pr Pz [.agg ⟨v.cs x⟩,.int .i64 n] w fun r w'=>r=.bool (gw v n)∧Mod [] w w':=by
 refine agz ?_
 unfold Qq
 have bV:=Bytes.len hx
 refine (ak.start w).nw fun p w1 H _=>?_
 have H:ak w [] w1.drew [.av p (uG v.n v.st v.due x) cI]:=H.drew
 refine H.an 0 rfl (au p 2) rfl (H.ax 0 rfl (au p 3) rfl (pn (uO fun go bY=>H.an 0 rfl (au p 1) rfl ?_)))
 have fin:∀ (d s:Bool),gw v n=(decide (v.n=n) && (d && s))→go d s w1.drew:=fun d s e=>by
  refine bY _ _ _ (H.an 0 rfl (au p 0) rfl ⟨?_,H.mod⟩)
  rw [e,Bool.and_assoc]
 have TV:decide (((x.n:Nat):Int)=64)=decide (v.aq.length=64):=decide_eq_decide.2 (by omega)
 have e0:decide (((x.n:Nat):Int)=0)=decide (v.aq.length=0):=decide_eq_decide.2 (by omega)
 rw [TV]
 refine bU (fun hc=>?_) (fun hc=>?_)
 ·have hc:=of_decide_eq_true hc
  refine H.an 0 rfl (au p 2) rfl (aB (yR _ _ _ _) ?_)
  rintro _ w2 ⟨rfl,hw⟩
  subst hw
  exact bu (fin _ _ (by unfold gw; rw [if_pos hc]))
 ·have h3:=of_decide_eq_false hc
  refine bU (fun hc=>?_) (fun hc=>?_)
  ·have hc:=of_decide_eq_true hc
   refine H.ax 0 rfl (au p 3) rfl (pn ?_)
   rw [e0]
   exact fin _ _ (by unfold gw; rw [if_neg h3,if_pos hc])
  ·have h4:=of_decide_eq_false hc
   have no:¬ (v.st=1∨v.st=2)→gw v n=false:=fun h=>by unfold gw; rw [if_neg h3,if_neg h4,if_neg h,Bool.and_false]
   refine bU (fun hc=>?_) (fun hc=>?_)
   ·refine ite_true hc ?_
    have hc:=of_decide_eq_true hc
    exact fin _ _ (by unfold gw; rw [if_neg h3,if_neg h4,if_pos (.inl hc)])
   ·have h1:=of_decide_eq_false hc
    refine bU (fun hc=>?_) (fun hc=>?_)
    ·have hc:=of_decide_eq_true hc
     exact fin _ _ (by unfold gw; rw [if_neg h3,if_neg h4,if_pos (.inr hc)])
    ·have h2:=of_decide_eq_false hc
     exact ⟨by rw [no (fun h=>h.elim h1 h2)],H.mod⟩
def l7 (vs:List bp):Nat→Bool
 | 0=>true
 | i+1=>l7 vs i && gw (vs.getD i vz) ((i:Int)+1)
theorem RV {vs:List bp} {i:Nat} (h:gw (vs.getD i vz) ((i:Int)+1)=false):∀ n,i<n→l7 vs n=false
 | 0,hn=>by omega
 | n+1,hn=>by
  show (l7 vs n && _)=false
  rcases Nat.lt_or_ge i n with h2 | h2
  ·rw [RV h n h2,Bool.false_and]
  ·rw [show n=i by omega,h,Bool.and_false]
def cR (k:aR):Bool:=aP 1 6 k.id && (aP 1 8 k.ten && (aP 1 3 k.set && (aP 1 5 (k.aH.length:Int) && l7 k.aH k.aH.length)))
theorem wK (k:aR) (x:ah) (hl:k.aH.length≤1000000) (w:World) (hx:fO w x k.aH):Ok Pr sY [.agg ⟨k.cs x⟩] w fun r w'=>r=.bool (cR k)∧Mod [] w w':=by
 refine agv ?_
 unfold Qm
 have bV:=hx.len
 refine (ak.start w).nw fun p w1 H _=>?_
 have H:ak w [] w1 [.av p (dA k.id k.ten k.set x) aV]:=H
 refine jV fun go bY=>H.an 0 rfl (au p 0) rfl (aB (yR _ _ _ _) ?_)
 rintro _ w2 ⟨rfl,hw⟩
 subst hw
 refine bu (H.an 0 rfl (au p 1) rfl ?_)
 unfold cR
 cases h1:aP 1 6 k.id with
 | false=>exact ite_true rfl (H.an 0 rfl (au p 2) rfl (H.ax 0 rfl (au p 3) rfl ⟨rfl,H.mod⟩))
 | true=>
  refine ite_false rfl (aB (yR _ _ _ _) ?_)
  rintro _ w2 ⟨rfl,hw⟩
  subst hw
  refine bu (H.an 0 rfl (au p 2) rfl ?_)
  cases h2:aP 1 8 k.ten with
  | false=>exact ite_true rfl (H.ax 0 rfl (au p 3) rfl ⟨rfl,H.mod⟩)
  | true=>
   refine ite_false rfl (aB (yR _ _ _ _) ?_)
   rintro _ w2 ⟨rfl,hw⟩
   subst hw
   refine bu (H.ax 0 rfl (au p 3) rfl ?_)
   cases h3:aP 1 3 k.set with
   | false=>exact ite_true rfl ⟨rfl,H.mod⟩
   | true=>
    refine ite_false rfl (aB (yR _ _ _ _) ?_)
    rintro _ w2 ⟨rfl,hw⟩
    subst hw
    rw [show ((x.n:Nat):Int)=(k.aH.length:Int) by omega]
    refine bu ?_
    cases h4:aP 1 5 (k.aH.length:Int) with
    | false=>exact ite_true rfl ⟨rfl,H.mod⟩
    | true=>
     have eK:cR k=l7 k.aH k.aH.length:=by unfold cR; rw [h1,h2,h3,h4]; rfl
     refine ite_false rfl (bY _ (H.ax 0 rfl (au p 3) rfl ?_))
     refine cZ 0 k.aH.length (fun i w'=>l7 k.aH i=true∧Mod [] w w') rfl (by omega) ⟨rfl,H.mod⟩ ?_ ?_
     ·rintro again i w3 _ hi ⟨dV,m⟩ aM
      have ha:k.aH[i]? = some (k.aH.getD i vz):=by rw [List.getD_eq_getElem?_getD,List.getElem?_eq_getElem hi]; rfl
      obtain ⟨dh,y,hy,hc⟩:=Dv.at bp.ct (by omega) (hx.aG m) ha
      have hs:l7 k.aH (i+1)=(l7 k.aH i && gw (k.aH.getD i vz) ((i:Int)+1)):=rfl
      have dx:=RV (vs:=k.aH) (i:=i)
      generalize k.aH.getD i vz=v at *
      have D:=ak.start w3
      refine ite_true (decide_eq_true (by omega)) ⟨dh,uD hc (D.nw fun p2 w4 D _=>D.gu 0 rfl rfl fun w5 D=>D.jx 0 rfl ⟨⟨by omega,by omega⟩,aB (ahK v y _ _ (jM.aG D.mod hy)) ?_⟩)⟩
      ·rintro _ w6 ⟨rfl,m6⟩
       refine bu ?_
       cases hv:gw v ((i:Int)+1) with
       | false=>exact ite_true rfl ⟨by rw [eK,dx hv _ hi],m.trans (D.mod.trans m6)⟩
       | true=>exact ite_false rfl ⟨⟨by omega,by omega⟩,aM _ ⟨by rw [hs,dV,hv]; rfl,m.trans (D.mod.trans m6)⟩⟩
     ·rintro again w3 ⟨dV,m⟩
      exact ite_false (decide_eq_false (by omega)) ⟨by rw [eK,dV],m⟩
end Go.Proofs.YtgjoehgomjgckaaGreatDoor
end
section
set_option linter.unusedVariables false
set_option linter.unusedSimpArgs false
namespace Go.Proofs.YtgjoehgomjgckaaGreatDoor
open Go Go.Ev
set_option maxRecDepth 20000
set_option linter.unusedVariables false
theorem Rt:fh Pr sS cI 4 48:=fh.of (by kernel_rfl)
theorem bp.lW (v:bp) (x:ah):∀ u∈v.cs x,ek u=true:=by
 intro u hu
 simp only [bp.cs,uG,List.mem_cons,List.not_mem_nil,or_false] at hu
 rcases hu with rfl | rfl | rfl | rfl <;> rfl
theorem Uz (x:ah) (vs:List bp) (xs:List ah) (jr:xs.length=vs.length) (hl:vs.length≤1000000) (w:World) (hx:Sl w x 4 (bq bp.cs vs xs)):Ok Pr GF [.slice x.a x.n x.c] w fun v w'=>∃ y:ah,v=.slice y.a y.n y.c∧Own w' w.heap.size cI 4 y (bq bp.cs vs xs)∧y.n=x.n∧Mod [] w w':=by
 refine ab1 ?_
 unfold KD
 have bV:=hx.len
 rw [ir bp.ct vs xs jr] at bV
 refine bU (fun h=>?_) (fun h=>?_)
 ·have h0:x.n=0:=by
   rcases Nat.eq_zero_or_pos x.n with e | e
   ·exact e
   ·have:=Sl.pre hx e
    cases ha:x.a with
    | none=>rw [ha] at this; cases this
    | some a=>rw [ha] at h; cases h
  obtain rfl:vs=[]:=List.eq_nil_of_length_eq_zero (by omega)
  exact ⟨⟨none,0,0⟩,rfl,Own.nil _ _ _ _,h0.symm,Mod.refl _ _⟩
 ·refine (ak.start w).nw fun p w1 H _=>?_
  have H:=H.rB 0 4 0 0 rfl rfl (Nat.le_refl _) (by simp only [maxLen]; omega)
  refine H.app (s:=⟨some ⟨p,0,none⟩,0,0⟩) (vs:=[]) 0 Rt rfl (hx.aG H.mod) (uP bp.lW vs xs) (by show (0+x.n) * 48≤_; omega) (by show 0+x.n≤_; omega) fun y w2 H hy=>?_
  exact ⟨y,rfl,H.fN 0 rfl,by rw [hy]; exact Nat.zero_add _,H.mod⟩
theorem o6:zc Pr aV=[.int .i64 0,.int .i64 0,.int .i64 0,.slice none 0 0]:=by kernel_rfl
theorem wZ:zc Pr cI=[.int .i64 0,.int .i64 0,.int .i64 0,.slice none 0 0]:=by kernel_rfl
theorem Re (a:bp) (x z:ah):a.cs z=(a.cs x).set 3 z.v:=rfl
theorem nC.S7 {w w':World} {v:Value} {l:List B8} (h:nC w w' v l):∃ y:ah,v=.slice y.a y.n y.c∧fJ w w' fun w=>Own w 0 bh 1 y (bn l):=by
 obtain ⟨y,rfl,hy,m⟩:=h
 exact ⟨y,rfl,fJ.Ex hy m fun w2 h=>h⟩
theorem HP (k:aR) (x:ah) (hl:k.aH.length≤1000) (hs:∀ v∈k.aH,v.aq.length≤1000000) (w:World) (hx:fO w x k.aH):Ok Pr Bn [.agg ⟨k.cs x⟩] w fun r w'=>∃ y:ah,r=.agg ⟨k.cs y⟩∧JL w w' y k.aH:=by
 refine agw ?_
 unfold Qn
 rw [o6]
 have bV:=hx.len
 obtain ⟨xs,dP,cz⟩:=hx
 refine (ak.start w).nw fun p w1 H _=>H.nw fun p1 w2 H _=>?_
 have H:ak w [] w2 [.av p (dA k.id k.ten k.set x) aV,.av p1 [.int .i64 0,.int .i64 0,.int .i64 0,.slice none 0 0] aV]:=H
 refine H.ax 0 rfl (au p 3) rfl (aB (Uz x k.aH xs cz.1 (by omega) _ (dP.aG H.mod)) ?_)
 rintro _ w3 ⟨y,rfl,hy,xY,m3⟩
 have H:=H.cB m3 hy
 refine bW (H.st 0 rfl (au p 3) (by show 3<4; omega) rfl fun w4 H=>H.ax 0 rfl (au p 3) rfl ?_)
 have H:ak w [] w4 ([.av p (dA k.id k.ten k.set y) aV,.av p1 [.int .i64 0,.int .i64 0,.int .i64 0,.slice none 0 0] aV] ++ [.row cI 4 y (bq bp.cs k.aH xs)]):=H
 refine cZ 0 k.aH.length (fun i w'=>fW bp.cs 4 iz cI w [] [.av p (dA k.id k.ten k.set y) aV,.av p1 [.int .i64 0,.int .i64 0,.int .i64 0,.slice none 0 0] aV] w' y k.aH xs i) rfl (by omega) (fW.start H) ?_ ?_
 ·intro again i w5 _ hi R aM
  have R:=R.frame (Mod.drew [] w5)
  have ha:k.aH[i]? = some k.aH[i]:=List.getElem?_eq_getElem hi
  have dy:xs[i]? = some (xs[i]'(by rw [cz.1]; exact hi)):=List.getElem?_eq_getElem _
  have gl:=hs _ (List.getElem_mem hi)
  have sJ:=cz.2 i _ _ dy ha
  obtain ⟨dh,hc⟩:=R.at bp.ct (by omega) cz.1 ha dy
  generalize k.aH[i]=v at *
  generalize xs[i]'(by rw [cz.1]; exact hi)=z at *
  have F:=R.front
  refine ite_true (decide_eq_true (by omega)) (F.ax 0 rfl (au p 3) rfl (F.ax 0 rfl (au p 3) rfl ⟨dh,z,hc 3 z.v rfl,aB (C4 z v.aq gl _ (Bytes.aG sJ F.mod)) ?_⟩))
  rintro _ w6 h6
  obtain ⟨u,rfl,hu⟩:=h6.S7
  refine bW ⟨F.jZ 0 rfl hu.mod 3,dh,R.step bp.ct cz.1 ha dy (hu:fJ _ _ fun w=>iz w u v) (by omega:3<4) (Re v z u) fun w7 R=>⟨⟨by omega,by omega⟩,aM w7 R⟩⟩
 ·intro again w5 R
  obtain ⟨ys,fp,H⟩:=R.done rfl cz.1
  refine ite_false (decide_eq_false (by omega)) (H.bz 0 rfl (H.cA 1 rfl rfl fun w8 H=>H.bz 1 rfl ⟨y,rfl,ys,fp,H.drop 2⟩))
theorem Vu (n:Int) (x:ah) (aq:List B8) (hs:aq.length≤1000000) (w:World) (hx:Bytes w x aq):Ok Pr Hu [.int .i64 n,.slice x.a x.n x.c] w fun r w'=>∃ y:ah,r=.agg ⟨(bp.mk n 1 0 aq).cs y⟩∧fJ w w' fun w=>Own w 0 bh 1 y (bn aq):=by
 refine aeR ?_
 unfold Oo
 rw [wZ]
 refine (ak.start w).nw fun p w1 H _=>aB (C4 x aq hs _ (hx.aG H.mod)) ?_
 rintro _ w2 ⟨y,rfl,hy,m2⟩
 have H:=H.cB m2 hy
 refine bW (H.gu 0 rfl rfl fun w3 H=>H.jx 0 rfl ⟨y,rfl,?_⟩)
 exact H.boxed fun w' h=>h 1 _ rfl
def zU (id ten set:Int) (aq:List B8):aR:=⟨id,ten,set,[⟨1,1,0,aq⟩]⟩
def mq (id ten set:Int) (aq:List B8):Int:=if cR (zU id ten set aq)=true then 0 else 2
def qH (id ten set:Int) (aq:List B8):aR:=if mq id ten set aq=0 then zU id ten set aq else kz
def BP (w w':World) (v:Value) (k:aR) (c:Int):Prop:=∃ (y:ah) (er:Value),v=.tuple ⟨[.agg ⟨k.cs y⟩,er]⟩∧(fJ w w' fun w=>j0 w y k.aH)∧cO w w' er c
theorem Ek {w w':World} {Q:World→Prop} (m:Mod [] w w') (h:∀ w,Q w):fJ w w' Q:=((ak.start w).frame m).boxed fun w' _=>h w'
theorem fO.one {w:World} {p:Nat} {y:ah} {v:bp} {t:TypeId} (h:bX w p (v.cs y) t) (hy:jM w y v):fO w ⟨some ⟨p,0,none⟩,1,1⟩ [v]:=by
 refine ⟨[y],?_,rfl,fun i x l hx hl=>?_⟩
 ·have:=h.sl 4 1 1 (by rw [bp.ct]; decide) (by omega)
  rw [wW]
  simpa [bp.cs,uG] using this
 ·cases i with
  | zero=>
   simp only [List.getElem?_cons_zero,Option.some.injEq] at hx hl
   subst hx hl; exact hy
  | succ i=>simp at hx
theorem j0.nil (w:World):j0 w ⟨none,0,0⟩ []:=⟨[],Own.nil w 0 cI 4,rfl,fun i x l h=>by simp at h⟩
theorem j0.one {w:World} {p:Nat} {y:ah} {v:bp} (h:bX w p (v.cs y) cI) (hy:iz w y v):j0 w ⟨some ⟨p,0,none⟩,1,1⟩ [v]:=by
 refine ⟨[y],?_,rfl,fun i x l hx hl=>?_⟩
 ·have:=h.own 4 1 1 (by rw [bp.ct]) (by omega) (by simp only [maxLen]; omega)
  rw [wW]
  exact this
 ·cases i with
  | zero=>
   simp only [List.getElem?_cons_zero,Option.some.injEq] at hx hl
   subst hx hl; exact hy
  | succ i=>simp at hx
theorem VW (id ten set:Int) (x:ah) (aq:List B8) (hs:aq.length≤1000000) (w:World) (hx:Bytes w x aq):Ok Pr HS [.int .i64 id,.int .i64 ten,.int .i64 set,.slice x.a x.n x.c] w fun r w'=>BP w w' r (qH id ten set aq) (mq id ten set aq):=by
 refine agx ?_
 unfold Qo
 rw [o6]
 have hC:mq id ten set aq=if cR (zU id ten set aq)=true then 0 else 2:=rfl
 have hR:qH id ten set aq=if mq id ten set aq=0 then zU id ten set aq else kz:=rfl
 generalize mq id ten set aq=C at *
 generalize qH id ten set aq=R at *
 refine (ak.start w).nw fun p w1 H _=>aB (Vu 1 x aq hs _ (hx.aG H.mod)) ?_
 rintro _ w2 ⟨y,rfl,hy⟩
 obtain ⟨fp,H⟩:=H.iu hy
 refine wz (H.nw fun p1 w3 H _=>H.nw fun p2 w4 H _=>H.cA 3 rfl rfl fun w5 H=>H.bz 3 rfl ?_)
 have H:ak w [] w5 [.av p [.int .i64 0,.int .i64 0,.int .i64 0,.slice none 0 0] aV,.box fp fun w=>Own w 0 bh 1 y (bn aq),.av p1 ((bp.mk 1 1 0 aq).cs y) cI,.av p2 (dA id ten set ⟨some ⟨p1,0,none⟩,1,1⟩) aV]:=H
 refine aB (wK (zU id ten set aq) ⟨some ⟨p1,0,none⟩,1,1⟩ (by show 1≤1000000; omega) _ (fO.one (H.av 2 rfl) (iz.r (v:=⟨1,1,0,aq⟩) (H.box 1 rfl)))) ?_
 rintro _ w6 ⟨rfl,m6⟩
 have H:=H.frame m6
 refine bu ?_
 cases hm:cR (zU id ten set aq) with
 | false=>
  rw [hm,if_neg (by decide)] at hC
  rw [hC,if_neg (by decide)] at hR
  subst hR
  rw [hC]
  refine ite_true rfl (aB (AX 2 (by decide) w6) ?_)
  rintro e w7 ⟨h,m7⟩
  have H:=H.gD m7 h
  refine H.cA 0 rfl rfl fun w8 H=>H.bz 0 rfl ⟨⟨none,0,0⟩,e,rfl,Ek H.mod fun w=>j0.nil w,?_⟩
  exact ⟨H.ok 4 _ rfl,fun b hb=>(H.own 4 _ rfl b hb).resolve_left (by simp)⟩
 | true=>
  rw [hm,if_pos rfl] at hC
  rw [hC,if_pos rfl] at hR
  subst hR
  rw [hC]
  refine ite_false rfl (H.bz 3 rfl (H.cA 0 rfl rfl fun w8 H=>H.bz 0 rfl ⟨⟨some ⟨p1,0,none⟩,1,1⟩,.nilIface,rfl,?_,qw _ _⟩))
  refine H.boxed fun w' h=>j0.one (h 2 _ rfl) ?_
  have h2:(aE.box fp fun w=>Own w 0 bh 1 y (bn aq)).ok w':=h 1 _ rfl
  exact h2.2 w' fun _ _=>rfl
end Go.Proofs.YtgjoehgomjgckaaGreatDoor
end
