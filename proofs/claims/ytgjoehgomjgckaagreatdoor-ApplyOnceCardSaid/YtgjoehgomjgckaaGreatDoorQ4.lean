/- Texts of this claim, packed and shortened. -/
import Derived.KernelRfl
import Derived.Test.YtgjoehgomjgckaaGreatDoorQ3
import Derived.Test.YtgjoehgomjgckaaGreatDoorQ2
import Derived.Test.YtgjoehgomjgckaaGreatDoorAErrNot
import Derived.Test.YtgjoehgomjgckaaGreatDoorQ1
section
set_option linter.unusedVariables false
set_option linter.unusedSimpArgs false
namespace Go.Ev
open Go Go.RowKit
set_option linter.unusedVariables false
theorem ak.drop {w0 w:World} {S:List Nat} {L:List aD} (H:ak w0 S w L) (n:Nat):ak w0 S w (L.drop n):=by
 have e:∀ {k:Nat} {s:aD},(L.drop n)[k]? = some s→L[n+k]? = some s:=fun {k s} h=>by rwa [List.getElem?_drop] at h
 exact ⟨H.mod,fun k s hs=>H.ok _ s (e hs),fun k s hs=>H.own _ s (e hs),fun j k s t k9 hs ht=>H.apart (n+j) (n+k) s t (by omega) (e hs) (e ht)⟩
end Go.Ev
namespace Go.Proofs.YtgjoehgomjgckaaGreatDoor
open Go Go.Ev
set_option maxRecDepth 20000
set_option linter.unusedVariables false
theorem AV (c:Int) (hc:c≠0) (w:World):Ok Pr oV [.int .i64 c] w fun v w'=>cO w w' v c∧Mod [] w w':=by
 refine afe ?_
 unfold Pa
 exact qv fun b w' hb h1 h2 _=>⟨cO.mk h1 (by omega) hc,h2⟩
structure iz where
 k:Nat
 e1:Nat
 e2:Nat
 du:Nat
 dv:Nat
def iz.cells (s:iz):List Value:=DG s.k s.e1 s.e2 s.du s.dv
def dD (set:Int):iz:=if set=1 then ⟨2,3,2,10,4⟩ else if set=2 then ⟨3,2,2,10,4⟩ else if set=3 then ⟨4,2,2,11,5⟩ else ⟨0,0,0,0,0⟩
structure zy (s:iz):Prop where
 k:2≤s.k∧s.k≤4
 e1:s.e1=2∨s.e1=3
 e2:s.e2=2
 du:s.du=10∨s.du=11
 dv:s.dv=4∨s.dv=5
theorem nk {set:Int} (h:isSet set=true):zy (dD set):=by
 unfold isSet at h
 simp only [Bool.or_eq_true,decide_eq_true_eq] at h
 rcases h with rfl | rfl | rfl
 ·exact ⟨⟨by decide,by decide⟩,.inr rfl,rfl,.inl rfl,.inl rfl⟩
 ·exact ⟨⟨by decide,by decide⟩,.inl rfl,rfl,.inl rfl,.inl rfl⟩
 ·exact ⟨⟨by decide,by decide⟩,.inl rfl,rfl,.inr rfl,.inr rfl⟩
theorem noK {set:Int} (h:isSet set=false):dD set=⟨0,0,0,0,0⟩:=by
 unfold isSet at h
 simp only [Bool.or_eq_false_iff,decide_eq_false_iff_not] at h
 unfold dD
 rw [if_neg h.1,if_neg h.2.1,if_neg h.2.2]
theorem wQ:zc Pr g8=[.int .i64 0,.int .i64 0,.int .i64 0,.int .i64 0,.int .i64 0]:=by kernel_rfl
theorem yQ (set:Int) (w:World):Ok Pr uD [.int .i64 set] w fun v w'=>v=.tuple ⟨[.agg ⟨(dD set).cells⟩,.bool (isSet set)]⟩∧Mod [] w w':=by
 refine ahs ?_
 unfold Q7
 rw [wQ]
 refine (ak.start w).nw fun p w1 H _=>?_
 unfold isSet dD
 refine bU (fun h=>?_) (fun h=>?_)
 ·have h:=of_decide_eq_true h
  subst h
  exact H.iY 0 rfl rfl fun w2 H=>H.mS 0 rfl ⟨rfl,H.mod⟩
 ·have h1:=of_decide_eq_false h
  rw [if_neg h1,decide_eq_false h1]
  refine bU (fun h=>?_) (fun h=>?_)
  ·have h:=of_decide_eq_true h
   subst h
   exact H.iY 0 rfl rfl fun w2 H=>H.mS 0 rfl ⟨rfl,H.mod⟩
  ·have h2:=of_decide_eq_false h
   rw [if_neg h2,decide_eq_false h2]
   refine bU (fun h=>?_) (fun h=>?_)
   ·have h:=of_decide_eq_true h
    subst h
    exact H.iY 0 rfl rfl fun w2 H=>H.mS 0 rfl ⟨rfl,H.mod⟩
   ·have h3:=of_decide_eq_false h
    rw [if_neg h3,decide_eq_false h3]
    exact H.iY 0 rfl rfl fun w2 H=>H.mS 0 rfl ⟨rfl,H.mod⟩
theorem y9 {s:iz} {K:Int→Int→Int→Int→Int→Prop} (h:K s.k s.e1 s.e2 s.du s.dv):uz (.agg ⟨s.cells⟩) K:=afU (c0:=s.k) (c1:=s.e1) (c2:=s.e2) (c3:=s.du) (c4:=s.dv) h
def iA (set:Int):Nat:=if isSet set=true then 384 * (dD set).k+32 else 0
def jo (set:Int):Nat:=384 * (dD set).k
def nU (set:Int):Nat:=32 * ((dD set).du * (dD set).k+(dD set).dv)
theorem Hg (set:Int) (w:World):Ok Pr AZ [.int .i64 set] w fun v w'=>v=.tuple ⟨[.int .i64 (iA set:Int),.int .i64 (jo set:Int),.int .i64 (nU set:Int)]⟩∧Mod [] w w':=by
 refine afd ?_
 unfold O9
 rw [wQ]
 refine aB (yQ set w) ?_
 rintro _ w1 ⟨rfl,m1⟩
 have H:=(ak.start w).frame m1
 refine ⟨_,rfl,y9 ⟨_,rfl,rfl,H.nw fun p w2 H _=>H.iY 0 rfl rfl fun w3 H=>?_⟩⟩
 unfold iA jo nU
 cases cG:isSet set with
 | false=>rw [noK cG]; exact ite_true rfl ⟨rfl,H.mod⟩
 | true=>
  have hg:=nk cG
  generalize dD set=s at *
  have H:ak w [] w3 [.av p s.cells g8]:=H
  have H:=H.drew
  have hk:=hg.k
  have hd:s.du * s.k≤11 * 4:=Nat.mul_le_mul (by have:=hg.du; omega) hk.2
  have hv:=hg.dv
  have e:(s.du:Int) * (s.k:Int)=((s.du * s.k:Nat):Int):=by rw [Int.natCast_mul]
  refine ite_false rfl (H.an 0 rfl (au p 0) rfl ⟨⟨by omega,by omega⟩,⟨by omega,by omega⟩,H.an 0 rfl (au p 0) rfl ⟨⟨by omega,by omega⟩,H.an 0 rfl (au p 3) rfl (H.an 0 rfl (au p 0) rfl ?_)⟩⟩)
  rw [e]
  generalize s.du * s.k=D at *
  refine ⟨⟨by omega,by omega⟩,H.an 0 rfl (au p 4) rfl ⟨⟨by omega,by omega⟩,⟨by omega,by omega⟩,?_,H.mod⟩⟩
  rw [if_pos rfl,show (384 * (s.k:Int)+32)=((384 * s.k+32:Nat):Int) by omega,show 384 * (s.k:Int)=((384 * s.k:Nat):Int) by omega,show 32 * ((D:Int)+(s.dv:Int))=((32 * (D+s.dv):Nat):Int) by omega]
def lP (xs:List ah) (ls:List (List Int)):List aD:=List.zipWith (fun x l=>aD.row bG 1 x (cr l)) xs ls
theorem QI {xs:List ah} {ls:List (List Int)} {i:Nat} {x:ah} {l:List Int} (h1:xs[i]? = some x) (h2:ls[i]? = some l):(lP xs ls)[i]? = some (.row bG 1 x (cr l)):=by
 unfold lP; rw [List.getElem?_zipWith,h1,h2]
theorem aiU {xs:List ah} {ls:List (List Int)} {i:Nat} {x:ah} {l:List Int} (h1:xs[i]? = some x):(lP xs ls).set i (.row bG 1 x (cr l))=lP xs (ls.set i l):=by
 unfold lP
 refine List.ext_getElem? fun j=>?_
 rw [List.getElem?_set,List.getElem?_zipWith,List.getElem?_zipWith,List.getElem?_set]
 by_cases h:i=j
 ·subst h
  rw [if_pos rfl,if_pos rfl,h1,List.length_zipWith]
  have hx:=(List.getElem?_eq_some_iff.1 h1).1
  by_cases hl:i<ls.length
  ·rw [if_pos (by omega),if_pos hl]
  ·rw [if_neg (by omega),if_neg hl]
 ·rw [if_neg h,if_neg h]
theorem ah4 {xs:List ah} {ls:List (List Int)} (h:xs.length=ls.length) (x:ah) (l:List Int):lP (xs ++ [x]) (ls ++ [l])=lP xs ls ++ [.row bG 1 x (cr l)]:=by
 unfold lP; rw [List.zipWith_append h]; rfl
def I6 (w w':World) (out:ah) (ls:List (List Int)):Prop:=∃ xs:List ah,xs.length=ls.length∧ak w [] w' (.row e9 1 out (xs.map ah.v) :: lP xs ls)
theorem I6.box {w w':World} {out:ah} {ls:List (List Int)} (h:I6 w w' out ls):fJ w w' fun w=>fK w out ls:=by
 obtain ⟨xs,hl,H⟩:=h
 refine H.boxed fun w' h=>⟨xs,Own.sl (h 0 _ rfl),hl,fun i x l hx hl=>Own.dH (h (i+1) _ (QI hx hl))⟩
def iP (d:Nat) (b:List B8) (i:Nat):List Int:=unpack d ((b.drop (32 * d * i)).take (32 * d))
def gF (d many:Nat) (b:List B8):List (List Int):=(List.range many).map (iP d b)
def nV (d many:Nat) (b:List B8):Bool:=!decide (d=12) || (gF d many b).all rL
theorem Yr {many:Nat} {b:List B8}:nV 12 many b=true↔∀ i,i<many→rL (iP 12 b i)=true:=by
 unfold nV gF
 simp
theorem QJ {d many:Nat} {b:List B8} (hd:1≤d) (hb:32 * d * many≤b.length) {i:Nat} (hi:i<many):(iP d b i).length=256:=by
 have h1:32 * d * (i+1)≤32 * d * many:=Nat.mul_le_mul_left _ hi
 rw [Nat.mul_succ] at h1
 unfold iP
 rw [M0,List.length_take,List.length_drop,Nat.min_eq_left (by omega),show 8 * (32 * d)=256 * d by omega,Nat.mul_div_cancel _ hd]
theorem ah5:jw Pr CW=true:=by kernel_rfl
theorem Bv:e6 Pr fA e9 1 24:=.of (by kernel_rfl)
theorem alT:zc Pr fA=[.slice none 0 0]:=by kernel_rfl
theorem alU:zc Pr ot=[.bool false]:=by kernel_rfl
theorem Hs (d many:Nat) (hd:1≤d) (sv:d≤12) (hm:many≤8) (x:ah) (b:List B8) (hb:32 * d * many≤b.length) (jK:b.length≤1000000) (w:World) (hx:Bytes w x b) :
  Ok Pr A9 [.int .i64 (d:Int),.int .i64 (many:Int),.slice x.a x.n x.c] w fun v w'=>(nV d many b=true∧∃ out:ah,v=.tuple ⟨[.slice out.a out.n out.c,.bool true]⟩∧I6 w w' out (gF d many b))∨
   (nV d many b=false∧v=.tuple ⟨[.slice none 0 0,.bool false]⟩∧Mod [] w w'):=by
 refine af9 ?_
 unfold P0
 rw [alT,alU]
 have bT:=hx.len
 have tQ:=hx.cap
 have h1:32 * d * many≤32 * 12 * 8:=Nat.mul_le_mul (by omega) hm
 have e1:32 * (d:Int) * (many:Int)=((32 * d * many:Nat):Int):=by simp only [Int.natCast_mul]; rfl
 refine (ak.start w).nw fun p w1 H _=>H.nw fun p1 w2 H _=>H.nw fun p2 w3 H _=>H.nw fun p3 w4 H _=>?_
 have H:=H.drew
 refine H.an 0 rfl rfl rfl ⟨⟨by omega,by omega⟩,?_⟩
 rw [e1]
 refine ⟨⟨by omega,by omega⟩,ID (32 * d * many) rfl (by omega) fun xt hxt kt=>H.an 0 rfl rfl rfl ⟨⟨by omega,by omega⟩,?_⟩⟩
 have kt:=kt _ b hx hb
 rw [show 32 * (d:Int)=((32 * d:Nat):Int) by omega]
 refine aB (aew xt (32 * d) (by omega) _) ?_
 rintro _ w5 ⟨q,c,rfl,Hc⟩
 have H:=H.join Hc
 have H:ak w [] w5 [.av p [.int .i64 d] bG,.av p1 [.slice none 0 0] fA,.av p2 [.bool false] ot,.av p3 [.slice none 0 0] fA,.av q [.slice xt.a xt.n xt.c] bJ,.av c [.int .i64 ((32 * d:Nat):Int)] bG]:=H
 have vA:many * (32 * d)=32 * d * many:=Nat.mul_comm _ _
 have zX:=fun (i:Fin many)=>QJ (b:=b) hd hb i.isLt
 refine ajV (A:=Fin many) rfl ah5 [q,c] ?_ (fun w1 m=>aiT (x:=xt) (k:=32 * d) (N:=many) (by omega) (by omega) kt.cap (by omega) ((H.av 4 rfl).aE m) ((H.av 5 rfl).aE m)) H
  (fun pre M N'=>∃ out xs,M=[.av p [.int .i64 d] bG,.av p1 [.slice none 0 0] fA,.av p2 [.bool false] ot,.av p3 [.slice out.a out.n out.c] fA,.av q [.slice xt.a xt.n xt.c] bJ,.av c [.int .i64 ((32 * d:Nat):Int)] bG]∧
   N'=.row e9 1 out (xs.map ah.v) :: lP xs (pre.map fun i=>iP d b i.val)∧xs.length=pre.length∧(d=12→∀ i∈pre,rL (iP d b i.val)=true))
  (fun pre M N'=>(∃ out:ah,M=[.av p [.int .i64 d] bG,.av p1 [.slice none 0 0] fA,.av p2 [.bool false] ot,.av p3 [.slice out.a out.n out.c] fA,.av q [.slice xt.a xt.n xt.c] bJ,.av c [.int .i64 ((32 * d:Nat):Int)] bG])∧nV d many b=false) ?_ ?_ ?_ ?_
 ·intro e he
  rcases List.mem_cons.1 he with rfl | he
  ·exact (H.av 4 rfl).lt
  ·rw [List.mem_singleton.1 he]; exact (H.av 5 rfl).lt
 ·intro W o HW
  have HW:=HW.iZ e9 1
  rw [alS] at HW
  exact ⟨_,_,⟨⟨none,0,0⟩,[],rfl,rfl,rfl,fun _ i hi=>by cases hi⟩,HW⟩
 ·rintro pre i W o M N' K Kr ⟨out,xs,rfl,rfl,jM,lQ⟩ hlen HW hK hKr
  have JP:i.val * (32 * d)+32 * d≤xt.n:=by
   have h2:(i.val+1) * (32 * d)≤many * (32 * d):=Nat.mul_le_mul_right _ i.isLt
   rw [Nat.succ_mul] at h2
   omega
  have kp:=ahr (kt.aE HW.mod) (k:=32 * d) (i:=i.val) (by omega) JP
  have ep:(((b.take (32 * d * many)).drop (i.val * (32 * d))).take (32 * d))=(b.drop (32 * d * i.val)).take (32 * d):=by
   rw [List.drop_take,List.take_take,Nat.min_eq_left (by omega),Nat.mul_comm i.val]
  rw [ep] at kp
  have hU:=zX i
  have hT:(pre ++ [i]).map (fun j:Fin many=>iP d b j.val)=pre.map (fun j:Fin many=>iP d b j.val) ++ [iP d b i.val]:=by rw [List.map_append]; rfl
  have hlp:((b.drop (32 * d * i.val)).take (32 * d)).length≤1000000:=by rw [List.length_take]; omega
  refine HW.an 0 rfl rfl rfl (aB (GR d hd (by omega) (DY xt (32 * d) i.val) _ hlp W kp) ?_)
  rintro _ kH ⟨y,rfl,hy,m18⟩
  have hy:Own kH W.heap.size bG 1 y (cr (iP d b i.val)):=hy
  have HW0:=HW
  have HW:=HW.cF m18 hy
  have nN:=(HW.fI 8 rfl).len
  rw [List.length_map,Nat.mul_one] at nN
  have ak1:∀ W2,nV d many b=false→ak w [] W2 (RL w5.heap.size o [.av p [.int .i64 d] bG,.av p1 [.slice none 0 0] fA,.av p2 [.bool false] ot,.av p3 [.slice out.a out.n out.c] fA,.av q [.slice xt.a xt.n xt.c] bJ,.av c [.int .i64 ((32 * d:Nat):Int)] bG] (.row e9 1 out (xs.map ah.v) :: lP xs (pre.map fun i=>iP d b i.val)) ++ [.row bG 1 y (cr (iP d b i.val))])→
    st ⟨p1,0,none⟩ (.slice none 0 0) W2 fun fE=>st ⟨p2,0,none⟩ (.bool false) fE fun fQ=>Kr fQ:=by
   intro W2 dA HW
   refine HW.st 1 (i:=0) rfl rfl (Nat.lt_succ_self 0) rfl fun fE HW=>HW.st 2 (i:=0) rfl rfl (Nat.lt_succ_self 0) rfl fun fQ HW=>?_
   exact hKr fQ _ _ ⟨⟨out,rfl⟩,dA⟩ (HW.front)
  have aap:∀ W2,(d=12→rL (iP d b i.val)=true)→ak w [] W2 (RL w5.heap.size o [.av p [.int .i64 d] bG,.av p1 [.slice none 0 0] fA,.av p2 [.bool false] ot,.av p3 [.slice out.a out.n out.c] fA,.av q [.slice xt.a xt.n xt.c] bJ,.av c [.int .i64 ((32 * d:Nat):Int)] bG] (.row e9 1 out (xs.map ah.v) :: lP xs (pre.map fun i=>iP d b i.val)) ++ [.row bG 1 y (cr (iP d b i.val))])→
    ax ⟨p3,0,none⟩ W2 fun t31=>nw e9 [.slice y.a y.n y.c] W2 fun TC w9=>cH Pr [fA,fA] fA [.slice t31.a t31.n t31.c,.slice (some TC) 1 1] w9 fun t34 cJ=>st ⟨p3,0,none⟩ (.slice t34.a t34.n t34.c) cJ fun cY=>K cY:=by
   intro W2 aog HW
   refine HW.ax 3 rfl rfl rfl (HW.B7 8 Bv rfl rfl (by intro u hu; rw [List.mem_singleton.1 hu]; rfl) (by omega) (by omega) fun k5 cJ HW _=>HW.st 3 (i:=0) rfl rfl (Nat.lt_succ_self 0) rfl fun cY HW=>?_)
   refine hK cY _ (.row e9 1 k5 ((xs ++ [y]).map ah.v) :: lP (xs ++ [y]) ((pre ++ [i]).map fun i=>iP d b i.val)) ?_ ⟨k5,xs ++ [y],rfl,rfl,by simp [jM],fun jA j hj=>?_⟩ ?_
   ·intro e he
    rcases List.mem_cons.1 he with rfl | he
    ·exact (HW.av 4 rfl).trans (HW0.av 4 rfl).symm
    ·rw [List.mem_singleton.1 he]; exact (HW.av 5 rfl).trans (HW0.av 5 rfl).symm
   ·rcases List.mem_append.1 hj with h | h
    ·exact lQ jA j h
    ·rw [List.mem_singleton.1 h]; exact aog jA
   ·rw [hT,ah4 (by simp [jM]),List.map_append]
    exact HW
  refine bV (ku fun go bZ=>jv fun jC iw=>HW.an 0 rfl rfl rfl (bU (fun hc=>?_) (fun hc=>?_)))
  ·have hc:=of_decide_eq_true hc
   refine aB (yE y _ (by omega) _ hy.dH) ?_
   rintro _ pZ ⟨rfl,TD⟩
   have HW:=HW.frame TD
   refine bk (iw _ _ ?_)
   cases xB:rL (iP d b i.val) with
   | false=>
    refine ite_true rfl (ak1 pZ (Bool.eq_false_iff.2 fun h=>?_) HW)
    have jA:d=12:=by omega
    subst jA
    rw [Yr.1 h i.val i.isLt] at xB
    cases xB
   | true=>exact ite_false rfl (bZ _ (aap pZ (fun _=>xB) HW))
  ·have hc:=of_decide_eq_false hc
   exact iw _ _ (ite_false rfl (bZ _ (aap kH (fun h=>absurd h (by omega)) HW)))
 ·rintro all W o M N' hS ⟨out,xs,rfl,rfl,jM,lQ⟩ HW
  have eT:all.map (fun i:Fin many=>iP d b i.val)=gF d many b:=by
   have:all.map (fun i:Fin many=>iP d b i.val)=(all.map (·.val)).map (iP d b):=by rw [List.map_map]; rfl
   rw [this,hS]; rfl
  have dU:nV d many b=true:=by
   by_cases jA:d=12
   ·subst jA
    refine Yr.2 fun i hi=>?_
    have hm:i∈all.map (·.val):=by rw [hS]; exact List.mem_range.2 hi
    obtain ⟨j,hj,rfl⟩:=List.mem_map.1 hm
    exact lQ rfl j hj
   ·unfold nV; rw [decide_eq_false jA]; rfl
  have hlen:xs.length=(gF d many b).length:=by rw [← eT,List.length_map]; exact jM
  rw [eT] at HW
  refine HW.ax 3 rfl rfl rfl (HW.st 1 (i:=0) rfl rfl (Nat.lt_succ_self 0) rfl fun kH HW=>HW.st 2 (i:=0) rfl rfl (Nat.lt_succ_self 0) rfl fun pZ HW=>HW.zK 6 rfl fun As _ HW=>HW.ax 1 rfl rfl rfl (HW.l5 2 rfl rfl rfl (.inl ⟨dU,out,rfl,xs,hlen,HW.drop 8⟩)))
 ·rintro pre W o M N' hS ⟨⟨out,rfl⟩,dA⟩ HW
  exact HW.zK 6 rfl fun As _ HW=>HW.ax 1 (n:=⟨none,0,0⟩) rfl rfl rfl (HW.l5 2 rfl rfl rfl (.inr ⟨dA,rfl,HW.mod⟩))
end Go.Proofs.YtgjoehgomjgckaaGreatDoor
end
section
set_option linter.unusedVariables false
set_option linter.unusedSimpArgs false
namespace Go.Proofs.YtgjoehgomjgckaaGreatDoor
open Go Go.Ev
set_option maxRecDepth 20000
set_option linter.unusedVariables false
def jJ (d:Nat):List Int→Nat
 | []=>0
 | x :: r=>x.toNat+2 ^ d * jJ d r
def nq (k N:Nat):List B8:=(List.range k).map fun j=>BitVec.ofNat 8 (N / 2 ^ (8 * j))
@[irreducible] def uQ (d:Nat) (xs:List Int):List B8:=nq ((d * xs.length+7) / 8) (jJ d xs)
theorem N3 (k N:Nat):(nq k N).length=k:=by simp [nq]
theorem N4 (d:Nat) (xs:List Int):(uQ d xs).length=(d * xs.length+7) / 8:=by unfold uQ; exact N3 _ _
theorem aht (d:Nat) (l m:List Int):jJ d (l ++ m)=jJ d l+2 ^ (d * l.length) * jJ d m:=by
 induction l with
 | nil=>simp [jJ]
 | cons x r ih=>
  simp only [List.cons_append,jJ,ih,List.length_cons,Nat.mul_add,Nat.mul_one,Nat.pow_add,Nat.add_assoc,← Nat.mul_assoc]
  rw [Nat.mul_comm (2 ^ d) (2 ^ (d * r.length))]
theorem IE (d:Nat) (l:List Int) (h:∀ x∈l,x.toNat<2 ^ d):jJ d l<2 ^ (d * l.length):=by
 induction l with
 | nil=>simp [jJ]
 | cons x r ih=>
  have h1:=ih fun y hy=>h y (by simp [hy])
  have h2:=h x (by simp)
  simp only [jJ,List.length_cons,Nat.mul_add,Nat.mul_one,Nat.pow_add]
  rw [Nat.mul_comm (2 ^ (d * r.length))]
  have h3:2 ^ d * (jJ d r+1)≤2 ^ d * 2 ^ (d * r.length):=Nat.mul_le_mul_left _ h1
  rw [Nat.mul_add,Nat.mul_one] at h3
  omega
theorem Wf (k N:Nat):nq (k+1) N=nq k N ++ [BitVec.ofNat 8 (N / 2 ^ (8 * k))]:=by
 simp [nq,List.range_succ]
theorem aiV (k c M N:Nat) (h:8 * k≤c):nq k (N+2 ^ c * M)=nq k N:=by
 unfold nq
 refine List.map_congr_left fun j hj=>?_
 have hj:=List.mem_range.1 hj
 refine BitVec.eq_of_toNat_eq ?_
 rw [BitVec.toNat_ofNat,BitVec.toNat_ofNat]
 have e:=Y7 N M c (8 * j) 8 (by omega)
 exact e
theorem Q8 (n:Nat):IntKind.wrap .u8 (n:Int)=((BitVec.ofNat 8 n).toNat:Int):=by
 rw [yD,BitVec.ofInt_natCast]
theorem ak2 (a x n:Nat) (h:a<2 ^ n):a ||| (x * 2 ^ n)=a+x * 2 ^ n:=X5 h
structure tV (d:Nat) (xs:List Int):Prop where
 pos:∀ x∈xs,0≤x
 lt:∀ x∈xs,x<((2 ^ d:Nat):Int)
theorem tV.at {d:Nat} {xs:List Int} (h:tV d xs) {i:Nat} (hi:i<xs.length):∃ y:Nat,xs.getD i 0=(y:Int)∧y<2 ^ d:=by
 have e:xs.getD i 0=xs[i]:=by simp [List.getD_eq_getElem?_getD,hi]
 have hm:xs[i]∈xs:=List.getElem_mem hi
 have h1:=h.pos _ hm
 have h2:=h.lt _ hm
 exact ⟨xs[i].toNat,by omega,by omega⟩
theorem tV.take {d:Nat} {xs:List Int} (h:tV d xs) (k:Nat):tV d (xs.take k):=⟨fun x hx=>h.pos x (List.mem_of_mem_take hx),fun x hx=>h.lt x (List.mem_of_mem_take hx)⟩
theorem tV.IE {d:Nat} {xs:List Int} (h:tV d xs):jJ d xs<2 ^ (d * xs.length):=
 YtgjoehgomjgckaaGreatDoor.IE d xs fun x hx=>by
  have h1:=h.pos x hx
  have h2:=h.lt x hx
  omega
theorem aff (d:Nat) (xs:List Int) (i y:Nat) (hi:i<xs.length) (hy:xs.getD i 0=(y:Int)):jJ d (xs.take (i+1))=jJ d (xs.take i)+2 ^ (d * i) * y:=by
 rw [kT _ _ hi 0,aht,hy,List.length_take,Nat.min_eq_left (by omega)]
 simp [jJ]
theorem Vy (d:Nat) (qQ:1≤d) (hd:d≤24) (x:ah) (xs:List Int) (hl:xs.length≤1000000) (hx:tV d xs) (w:World) (hn:dQ w x xs) :
  Ok Pr Hp [.int .i64 (d:Int),.slice x.a x.n x.c] w fun v w'=>nG w w' v (uQ d xs):=by
 refine aeT ?_
 unfold OR
 have bT:=hn.len
 refine ite_false (by rw [decide_eq_false (show ¬ (d:Int)<1 by omega),decide_eq_false (show ¬ (24:Int)<(d:Int) by omega)]; rfl) ?_
 have h24:(2:Nat) ^ 24=16777216:=by decide
 have arv:2 ^ d≤2 ^ 24:=Nat.pow_le_pow_right (by omega) hd
 refine Xm 0 xs.length (fun i (out:ah) (held:Int) (n:Int) w'=>held=((jJ d (xs.take i) / 2 ^ (8 * (d * i / 8)):Nat):Int)∧n=((d * i % 8:Nat):Int)∧
   ak w [] w' [.row bh 1 out (bp (nq (d * i / 8) (jJ d (xs.take i))))]) rfl (by omega) ⟨by simp [jJ],by simp,by simpa [nq,bp] using (ak.start w).iZ bh 1⟩ ?_ ?_
 ·rintro again i out _ _ w1 _ hi ⟨rfl,rfl,H⟩ aM
  refine ite_true (decide_eq_true (by omega)) ((hn.aE H.mod).ld (i:=i) hi rfl ?_)
  obtain ⟨y,hy,hyd⟩:=hx.at hi
  rw [hy]
  have hT:=aff d xs i y hi hy
  have bX:=(hx.take i).IE
  rw [List.length_take,Nat.min_eq_left (by omega)] at bX
  generalize jJ d (xs.take i)=N at *
  generalize jJ d (xs.take (i+1))=N' at *
  obtain ⟨c,hc⟩:∃ c,c=d * i:=⟨_,rfl⟩
  have TE:d * (i+1)=c+d:=by rw [Nat.mul_add,Nat.mul_one,hc]
  rw [TE] at aM
  rw [← hc] at H hT bX ⊢
  have nP:c≤24 * 1000000:=by rw [hc]; exact Nat.mul_le_mul hd (by omega)
  have hq:N / 2 ^ (8 * (c / 8))<2 ^ (c % 8):=by
   refine Nat.div_lt_of_lt_mul ?_
   rw [← Nat.pow_add,show 8 * (c / 8)+c % 8=c by omega]
   exact bX
  have hp8:2 ^ (c % 8)≤2 ^ 7:=Nat.pow_le_pow_right (by omega) (by omega)
  have h7:(2:Nat) ^ 7=128:=by decide
  have hym:y * 2 ^ (c % 8)≤16777216 * 128:=Nat.mul_le_mul (by omega) (by omega)
  refine ku fun go bZ=>?_
  have hsh:shr .i64 (y:Int) (d:Int)=0:=by
   rw [ET (by omega),Nat.div_eq_of_lt hyd]; rfl
  refine ite_false (decide_eq_false (by omega)) (kK (by omega) (ite_false (by rw [hsh]; rfl) (bZ _ ?_)))
  refine kK (by omega) (tu ?_)
  rw [Ch (by omega) (by omega),orN (by omega) (by omega),ak2 _ _ _ hq]
  refine ⟨⟨by omega,by omega⟩,?_⟩
  have hN:N / 2 ^ (8 * (c / 8))+y * 2 ^ (c % 8)=N' / 2 ^ (8 * (c / 8)):=by
   rw [hT]
   conv=>rhs; rw [show 2 ^ c=2 ^ (8 * (c / 8)) * 2 ^ (c % 8) by rw [← Nat.pow_add]; congr 1; omega]
   rw [Nat.mul_assoc,Nat.add_mul_div_left _ _ (Nat.pow_pos (by omega)),Nat.mul_comm y]
  rw [hN]
  have aaq:nq (c / 8) N=nq (c / 8) N':=by rw [hT,aiV _ _ _ _ (by omega)]
  rw [aaq] at H
  have ano:N' / 2 ^ (8 * (c / 8))<2147483776:=by rw [← hN]; omega
  clear aaq hN hT hq bX hym hsh
  refine Io (fun (out:ah) (held:Int) (n:Int) w'=>∃ k:Nat,c / 8≤k∧8 * k≤c+d∧held=((N' / 2 ^ (8 * k):Nat):Int)∧n=((c+d - 8 * k:Nat):Int)∧N' / 2 ^ (8 * k)<2147483776∧ak w [] w' [.row bh 1 out (bp (nq k N'))])
   (fun _ _ n _=>n.toNat) ⟨c / 8,Nat.le_refl _,by omega,rfl,by omega,ano,H⟩ ?_
  rintro mu arw _ _ w2 ⟨k,k7,oO,rfl,rfl,hh,H⟩ jz
  have nN:=(H.bytes 0 rfl).len
  rw [N3] at nN
  refine bU (fun sw=>?_) (fun sw=>?_)
  ·have sw:=of_decide_eq_true sw
   rw [Q8]
   refine H.Ro 0 _ iG rfl rfl (by omega) fun aar w3 H _=>⟨⟨by omega,by omega⟩,?_⟩
   rw [show (8:Int)=((8:Nat):Int) from rfl,ET (by omega),Nat.div_div_eq_div_mul,← Nat.pow_add,show 8 * k+8=8 * (k+1) by omega]
   refine jz _ _ _ w3 ⟨k+1,by omega,by omega,rfl,by omega,?_,?_⟩ (by omega)
   ·rw [show 8 * (k+1)=8 * k+8 by omega,Nat.pow_add,← Nat.div_div_eq_div_mul]
    omega
   ·rw [Wf]; exact H
  ·have sw:=of_decide_eq_false sw
   refine ⟨⟨by omega,by omega⟩,aM _ _ _ w2 ?_⟩
   obtain rfl:k=(c+d) / 8:=by omega
   exact ⟨rfl,by omega,H⟩
 ·rintro again out _ _ w1 ⟨rfl,rfl,H⟩
  refine ite_false (decide_eq_false (by omega)) ?_
  rw [List.take_of_length_le (Nat.le_refl _)] at H ⊢
  have bX:=hx.IE
  obtain ⟨c,hc⟩:∃ c,c=d * xs.length:=⟨_,rfl⟩
  have nP:c≤24 * 1000000:=by rw [hc]; exact Nat.mul_le_mul hd (by omega)
  have FT:uQ d xs=nq ((c+7) / 8) (jJ d xs):=by unfold uQ; rw [hc]
  rw [FT]
  rw [← hc] at H bX ⊢
  generalize jJ d xs=N at *
  have nN:=(H.bytes 0 rfl).len
  rw [N3] at nN
  refine bU (fun sw=>?_) (fun sw=>?_)
  ·have sw:=of_decide_eq_true sw
   rw [Q8]
   refine H.Ro 0 _ iG rfl rfl (by omega) fun aar w3 H _=>⟨aar,rfl,?_,H.mod⟩
   rw [show (c+7) / 8=c / 8+1 by omega,Wf]
   exact H.fN 0 rfl
  ·have sw:=of_decide_eq_false sw
   rw [show (c+7) / 8=c / 8 by omega]
   exact ⟨out,rfl,H.fN 0 rfl,H.mod⟩
end Go.Proofs.YtgjoehgomjgckaaGreatDoor
end
section
set_option linter.unusedVariables false
set_option linter.unusedSimpArgs false
namespace Go.Proofs.YtgjoehgomjgckaaGreatDoor
open Go Go.Ev
set_option maxRecDepth 20000
set_option linter.unusedVariables false
theorem ahu (eta:Nat) (l:List B8):(lean eta l).length=256:=by unfold lean; rw [List.length_map,List.length_range]
theorem ak3 (l:List B8):(su l).length=256:=by
 unfold su
 have:=RJ (eZ 168 31 l 4095) 1365
 generalize jE (eZ 168 31 l 4095) 1365=e at *
 rw [List.length_append,List.length_replicate]
 omega
end Go.Proofs.YtgjoehgomjgckaaGreatDoor
end
section
set_option linter.unusedVariables false
set_option linter.unusedSimpArgs false
namespace Go.Proofs.YtgjoehgomjgckaaGreatDoor
open Go Go.Ev
set_option maxRecDepth 20000
set_option linter.unusedVariables false
def Sq (w w':World) (v:Value) (ls:List (List Int)):Prop:=∃ y:ah,v=.slice y.a y.n y.c∧fJ w w' fun w=>fK w y ls
def zL (w:World) (s:ah) (a:List (List (List Int))):Prop:=mF fK w s a
theorem zL.aE {w w':World} {s:ah} {a:List (List (List Int))} (h:zL w s a) (m:Mod [] w w'):zL w' s a:=mF.aE (E:=fK) (fun m h=>fK.aE h m) h m
def alV (w w':World) (v:Value) (a:List (List (List Int))):Prop:=∃ y:ah,v=.slice y.a y.n y.c∧fJ w w' fun w=>zL w y a
theorem ajW:e6 Pr Hq fA 1 24:=.of (by kernel_rfl)
theorem JW {A:Type} (f:Nat→A) (i:Nat):(List.range (i+1)).map f=(List.range i).map f ++ [f i]:=by simp [List.range_succ]
def mH (ls:List (List Int)):Prop:=∀ l∈ls,Pq l
theorem mH.get {ls:List (List Int)} (h:mH ls) {i:Nat} (hi:i<ls.length):Pq (ls.getD i []):=h _ (DP hi [])
theorem Qh (d:Nat) (l:List B8):∀ x∈unpack d l,0≤x∧x<((2 ^ d:Nat):Int):=by
 intro x hx
 unfold unpack at hx
 obtain ⟨i,_,rfl⟩:=List.mem_map.1 hx
 have:=Y8 (num l) d i
 omega
theorem _root_.Go.Ev.dQ.kept {w w':World} {x:ah} {l:List Int} (h:dQ w x l) {i:Nat} (hi:i<l.length) (m:Mod [] w w'):kept (Addr.add (base x.a) (Int.toNat (i:Int) * 1)) 1 w w':=by
 refine yT m (v:=i64 l[i]) ?_
 rw [Int.toNat_natCast,Nat.mul_one]
 exact h.cell i _ (by simp [cr,hi])
theorem _root_.Go.Ev.fK.kept {w w':World} {x:ah} {ls:List (List Int)} (h:fK w x ls) {i:Nat} (hi:i<ls.length) (m:Mod [] w w'):kept (Addr.add (base x.a) (Int.toNat (i:Int) * 1)) 1 w w':=by
 obtain ⟨y,_,_,hc⟩:=h.at hi
 exact yT m (by rw [Int.toNat_natCast]; exact hc)
theorem qA.aas {w w':World} {v:Value} {l:List Int} (h:qA w w' v l):∃ y:ah,v=.slice y.a y.n y.c∧fJ w w' fun w=>dQ w y l:=by
 obtain ⟨y,rfl,hy,m⟩:=h
 exact ⟨y,rfl,fJ.Ek hy m fun w2 h=>h.dH⟩
theorem aiW {A:Type} (f:List Int→List A) (fs:List (List Int)) (i:Nat) (h:i<fs.length):(fs.take (i+1)).flatMap f=(fs.take i).flatMap f ++ f (fs.getD i []):=by
 rw [kT _ _ h [],List.flatMap_append]; simp
@[irreducible] def zz (f:List Int):List B8:=uQ 12 f
def xC (fs:List (List Int)):List B8:=fs.flatMap zz
theorem WN {f:List Int} (h:f.length=256):(zz f).length=384:=by unfold zz; rw [N4,h]
theorem Is {fs:List (List Int)} (h:mH fs):(xC fs).length=384 * fs.length:=by
 unfold xC
 induction fs with
 | nil=>rfl
 | cons f r ih=>rw [List.flatMap_cons,List.length_append,ih fun l hl=>h l (by simp [hl]),WN (h f (by simp)).len,List.length_cons]; omega
theorem alW {f:List Int} (h:Pq f):tV 12 f:=⟨fun x hx=>(h.Tu x hx).1,fun x hx=>by
 have:=h.Tu x hx
 show x<((2 ^ 12:Nat):Int)
 omega⟩
theorem Wg (x:ah) (fs:List (List Int)) (hl:fs.length≤100) (hp:mH fs) (w:World) (hx:fK w x fs):Ok Pr HU [.slice x.a x.n x.c] w fun v w'=>nG w w' v (xC fs):=by
 refine agR ?_
 unfold QH
 have bT:=hx.len
 refine kX 0 fs.length (fun i (o:ah) w'=>ak w [] w' [.row bh 1 o (bp ((fs.take i).flatMap zz))]) rfl (by omega) (by simpa [bp] using (ak.start w).iZ bh 1) ?_ ?_
 ·intro again i o w1 _ hi H aM
  have hA:((fs.take i).flatMap zz).length≤384 * 100:=by
   have:=Is (fs:=fs.take i) fun l hl=>hp l (List.mem_of_mem_take hl)
   unfold xC at this
   rw [this,List.length_take]
   omega
  have sx:=(H.bytes 0 rfl).len
  refine ite_true (decide_eq_true (by omega)) ((hx.aE H.mod).ld (i:=i) hi rfl fun y hy=>?_)
  rw [aiW _ _ _ hi] at aM
  have hP:=hp.get hi
  generalize fs.getD i []=f at *
  have FU:=hP.len
  refine aB (Vy 12 (by omega) (by omega) y f (by omega) (alW hP) _ hy) ?_
  rintro _ w2 ⟨z,rfl,hz,m⟩
  rw [show uQ 12 f=zz f by unfold zz; rfl] at hz
  have H:=H.cF m hz
  have pT:=hz.bytes.len
  have:=WN FU
  refine bV (H.uV 0 iG rfl hz.bytes (by omega) fun o' w3 H _=>⟨⟨by omega,by omega⟩,aM o' w3 H.front⟩)
 ·intro again o w1 H
  rw [List.take_of_length_le (Nat.le_refl _)] at H
  exact ite_false (decide_eq_false (by omega)) ⟨o,rfl,H.fN 0 rfl,H.mod⟩
def vL (d:Nat) (f:List Int):List Int:=f.map fun x=>(CJ d x:Int)
@[irreducible] def lq (d:Nat) (f:List Int):List B8:=uQ d (vL d f)
theorem IF {d:Nat} {f:List Int} (h:f.length=256):(lq d f).length=32 * d:=by
 unfold lq vL
 rw [N4,List.length_map,h]; omega
theorem ak4 (d:Nat) (f:List Int):tV d (vL d f):=⟨fun x hx=>by
 obtain ⟨y,_,rfl⟩:=List.mem_map.1 hx
 omega,fun x hx=>by
 obtain ⟨y,_,rfl⟩:=List.mem_map.1 hx
 have:=alO (d:=d) y
 omega⟩
theorem getD_map' {f:Int→Int} {l:List Int} {i:Nat} (h:i<l.length):(l.map f).getD i 0=f (l.getD i 0):=by
 simp [List.getD_eq_getElem?_getD,h]
theorem M7 (d:Nat) (h1:1≤d) (hd:d≤11) (x:ah) (f:List Int) (hf:f.length=256) (w:World) (hx:dQ w x f):Ok Pr Dn [.int .i64 (d:Int),.slice x.a x.n x.c] w fun v w'=>nG w w' v (lq d f):=by
 refine aex ?_
 unfold N1
 have bT:=hx.len
 have hN:=N4 d (vL d f)
 have JS:(vL d f).length=256:=by unfold vL; rw [List.length_map,hf]
 have xD:∀ i,i<256→(vL d f).getD i 0=(CJ d (f.getD i 0):Int):=fun i hi=>getD_map' (by omega)
 have aoh:=ak4 d f
 rw [show lq d f=uQ d (vL d f) by unfold lq; rfl]
 generalize vL d f=N at *
 refine kX 0 256 (fun i (xs:ah) w'=>ak w [] w' [.row bG 1 xs (cr (N.take i))]) rfl (by omega) (by simpa [cr] using (ak.start w).iZ bG 1) ?_ ?_
 ·intro again i xs w3 _ hi H aM
  have hn:=(H.dH 0 rfl).len
  rw [List.length_take,Nat.min_eq_left (by omega)] at hn
  refine ite_true (decide_eq_true (by omega)) ((hx.aE H.mod).ld (i:=i) (by omega) rfl (aB (ae9 d h1 hd _ _) ?_))
  rintro _ w4 ⟨rfl,m⟩
  have H:=H.frame m
  rw [← xD i hi]
  refine ey (H.Sj 0 Bu rfl (by omega) fun xs' w5 H _=>⟨⟨by omega,by omega⟩,aM xs' w5 ?_⟩)
  rw [kT _ _ (by omega) 0]
  exact H
 ·intro again xs w3 H
  rw [List.take_of_length_le (by omega)] at H
  refine ite_false (decide_eq_false (by omega)) (aB (Vy d h1 (by omega) xs N (by omega) aoh _ (H.dH 0 rfl)) ?_)
  rintro _ w5 ⟨y,rfl,hy,m5⟩
  have H:=H.cF m5 hy
  exact bV ⟨y,rfl,H.fN 1 rfl,H.mod⟩
def zM (d:Nat) (l:List Int):List Int:=l.map fun x=>pX d x.toNat
def rO (d many:Nat) (b:List B8):List (List Int):=(gF d many b).map (zM d)
theorem Q9 (d many:Nat) (b:List B8):(rO d many b).length=many:=by unfold rO gF; simp
theorem Ys {d many:Nat} (h1:1≤d) (hd:d≤11) {b:List B8} (hb:32 * d * many≤b.length):mH (rO d many b):=by
 intro l hl
 unfold rO gF at hl
 rw [List.map_map] at hl
 obtain ⟨i,hi,rfl⟩:=List.mem_map.1 hl
 refine ⟨by show (zM d _).length=256; unfold zM; rw [List.length_map]; exact QJ h1 hb (List.mem_range.1 hi),fun x hx=>?_⟩
 obtain ⟨y,_,rfl⟩:=List.mem_map.1 hx
 exact akW hd h1
theorem QK (d many:Nat) (b:List B8):(gF d many b).length=many:=by unfold gF; simp
theorem WO {d many:Nat} {b:List B8} {i:Nat} (h:i<many):(gF d many b)[i]? = some (iP d b i):=by
 unfold gF; rw [List.getElem?_map,List.getElem?_range h]; rfl
theorem IG {A:Type} (f:A→A) (l:List A) (i:Nat) (h:i<l.length) (d:A):((l.take i).map f ++ l.drop i).set i (f (l.getD i d))=(l.take (i+1)).map f ++ l.drop (i+1):=by
 have hl:((l.take i).map f).length=i:=by rw [List.length_map,List.length_take]; omega
 rw [List.set_append_right _ _ (by omega),hl,Nat.sub_self,List.drop_eq_getElem_cons h,List.set_cons_zero,kT _ _ h d,List.map_append,List.append_assoc]
 simp [List.getD_eq_getElem?_getD,h]
theorem II {A:Type} (f:A→A) (l:List A) (i:Nat) (h:i<l.length):((l.take i).map f ++ l.drop i)[i]? = l[i]?:=by
 rw [List.getElem?_append_right (by simp; omega),List.length_map,List.length_take,Nat.min_eq_left (by omega),Nat.sub_self,List.getElem?_drop,Nat.add_zero]
theorem UY (d many:Nat) (h1:1≤d) (hd:d≤11) (hm:many≤8) (x:ah) (b:List B8) (hb:32 * d * many≤b.length) (jK:b.length≤1000000) (w:World) (hx:Bytes w x b) :
  Ok Pr G1 [.int .i64 (d:Int),.int .i64 (many:Int),.slice x.a x.n x.c] w fun v w'=>Sq w w' v (rO d many b):=by
 refine adO ?_
 unfold M5
 refine aB (Hs d many h1 (by omega) hm x b hb jK w hx) ?_
 rintro _ w1 (⟨_,out,rfl,hG⟩ | ⟨dA,_⟩)
 case inr=>
  unfold nV at dA
  rw [decide_eq_false (show ¬ d=12 by omega)] at dA
  cases dA
 obtain ⟨xs,jM,H⟩:=hG
 have CN:=QK d many b
 have hxn:=(H.fI 0 rfl).len
 rw [List.length_map,Nat.mul_one,jM,CN] at hxn
 refine ⟨_,rfl,out,rfl,true,rfl,rfl,?_⟩
 refine dw 0 many (fun i w'=>ak w [] w' (.row e9 1 out (xs.map ah.v) :: lP xs (((gF d many b).take i).map (zM d) ++ (gF d many b).drop i))) rfl (by omega) H ?_ ?_
 ·intro again i w2 _ hi H aM
  obtain ⟨z,hz⟩:∃ z,xs[i]? = some z:=⟨_,List.getElem?_eq_getElem (by omega)⟩
  have nt:w2.cell? (Addr.add (base out.a) (Int.toNat (i:Int) * 1))=some z.v:=by
   rw [Int.toNat_natCast,Nat.mul_one]
   exact (H.fI 0 rfl).cell i _ (by rw [List.getElem?_map,hz]; rfl)
  refine ite_true (decide_eq_true (by omega)) ⟨⟨(H.fI 0 rfl).pre (by omega),by omega,by omega⟩,z,nt,?_⟩
  have hg:(((gF d many b).take i).map (zM d) ++ (gF d many b).drop i)[i]? = some (iP d b i):=by rw [II _ _ _ (by omega)]; exact WO hi
  have hlen:=QJ h1 hb hi
  have bX:=Qh d ((b.drop (32 * d * i)).take (32 * d))
  change ∀ x∈iP d b i,0≤x∧x<((2 ^ d:Nat):Int) at bX
  have qF:=IG (zM d) (gF d many b) i (by omega) []
  rw [show (gF d many b).getD i []=iP d b i by rw [List.getD_eq_getElem?_getD,WO hi]; rfl] at qF
  rw [← qF] at aM
  generalize (((gF d many b).take i).map (zM d) ++ (gF d many b).drop i)=LS at *
  generalize iP d b i=U at *
  have hLi:i<LS.length:=(List.getElem?_eq_some_iff.1 hg).1
  have FN:=(H.dH (i+1) (QI hz hg)).len
  have h2:=Bz hd
  refine dw 0 256 (fun j w'=>ak w [] w' (.row e9 1 out (xs.map ah.v) :: lP xs (LS.set i ((U.take j).map (fun x=>pX d x.toNat) ++ U.drop j)))) rfl (by omega) ?_ ?_ ?_
  ·have e:LS.set i U=LS:=by
    refine List.ext_getElem? fun j=>?_
    rw [List.getElem?_set]
    by_cases h:i=j
    ·subst h; rw [if_pos rfl,if_pos hLi,hg]
    ·rw [if_neg h]
   show ak w [] w2 (.row e9 1 out (xs.map ah.v) :: lP xs (LS.set i U))
   rw [e]; exact H
  ·intro mu j w3 _ hj H jz
   have xD:(lP xs (LS.set i ((U.take j).map (fun x=>pX d x.toNat) ++ U.drop j)))[i]? = some (.row bG 1 z (cr ((U.take j).map (fun x=>pX d x.toNat) ++ U.drop j))):=QI hz (by rw [List.getElem?_set,if_pos rfl,if_pos hLi])
   have aoi:=H.dH (i+1) xD
   have zX:((U.take j).map (fun x=>pX d x.toNat) ++ U.drop j).length=256:=by simp only [List.length_append,List.length_map,List.length_take,List.length_drop]; omega
   have TF:((U.take j).map (fun x=>pX d x.toNat) ++ U.drop j).getD j 0=U.getD j 0:=by
    rw [List.getD_eq_getElem?_getD,II _ _ _ (by omega),List.getD_eq_getElem?_getD]
   refine ite_true (decide_eq_true (by omega)) (aoi.ld (i:=j) (by omega) rfl ?_)
   rw [TF]
   obtain ⟨h3,h4⟩:=bX _ (DP (l:=U) (i:=j) (by omega) 0)
   obtain ⟨u,hu⟩:∃ u:Nat,U.getD j 0=(u:Int):=⟨(U.getD j 0).toNat,by omega⟩
   rw [hu]
   refine aB (UP d h1 hd u (by omega) _) ?_
   rintro _ w4 ⟨rfl,m⟩
   have H:=H.frame m
   refine ey (H.rX (i+1) (i:=j) xD (by omega) rfl fun w5 H=>⟨⟨by omega,by omega⟩,jz w5 ?_⟩)
   have e:=IG (fun x:Int=>pX d x.toNat) U j (by omega) 0
   rw [hu,Int.toNat_natCast] at e
   rw [e,List.set_cons_succ,aiU hz,List.set_set] at H
   exact H
  ·intro mu w3 H
   rw [List.take_of_length_le (by omega),List.drop_of_length_le (by omega),List.append_nil] at H
   exact ite_false (decide_eq_false (by omega)) ⟨⟨by omega,by omega⟩,aM w3 H⟩
 ·intro again w2 H
  rw [List.take_of_length_le (by omega),List.drop_of_length_le (by omega),List.append_nil] at H
  exact ite_false (decide_eq_false (by omega)) ⟨out,rfl,I6.box ⟨xs,by rw [jM,CN,Q9],H⟩⟩
def oz (eta:Nat) (aq:List B8) (from_ many:Nat):List (List Int):=(List.range many).map fun (i:Nat)=>rA (eta:Int) aq (BitVec.ofInt 8 ((from_+i:Nat):Int))
theorem ajX {eta:Nat} (he:eta=2∨eta=3) {aq:List B8} (hs:aq.length=32) (n:B8):Pq (rA (eta:Int) aq n):=by
 have ec:tA (eta:Int) aq.length=0:=by unfold tA; rw [if_pos (by omega),if_pos hs]
 unfold rA
 rw [if_pos ec]
 generalize eZ 136 31 (aq ++ [n]) (64 * (eta:Int))=z
 refine ⟨ahu _ _,fun x hx=>?_⟩
 unfold lean at hx
 obtain ⟨i,_,rfl⟩:=List.mem_map.1 hx
 omega
theorem wG (eta:Nat) (aq:List B8) (from_ many:Nat):(oz eta aq from_ many).length=many:=by unfold oz; simp
theorem yR {eta:Nat} (he:eta=2∨eta=3) {aq:List B8} (hs:aq.length=32) (from_ many:Nat):mH (oz eta aq from_ many):=fun l hl=>by
 unfold oz at hl
 obtain ⟨i,_,rfl⟩:=List.mem_map.1 hl
 exact ajX he hs _
theorem Ht (eta:Nat) (x:ah) (aq:List B8) (from_ many:Nat) (hm:many≤100) (hf:from_≤100) (hs:aq.length≤100000) (w:World) (hx:Bytes w x aq) :
  Ok Pr Bk [.int .i64 (eta:Int),.slice x.a x.n x.c,.int .i64 (from_:Int),.int .i64 (many:Int)] w fun v w'=>Sq w w' v (oz eta aq from_ many):=by
 refine agi ?_
 unfold P8
 refine kX 0 many (fun i (out:ah) w'=>gX dQ e9 w [] [] w' out (oz eta aq from_ i)) rfl (by omega) (gX.start (ak.start w)) ?_ ?_
 ·intro again i out w2 _ hi C aM
  refine ite_true (decide_eq_true (by omega)) ⟨⟨by omega,by omega⟩,?_⟩
  rw [show (from_:Int)+(i:Int)=((from_+i:Nat):Int) by omega,yD]
  refine aB (afY (eta:Int) x aq _ (by omega) _ (hx.aE C.mod)) ?_
  rintro _ w3 ⟨y,er,rfl,hy,he,hn,m3⟩
  have hs:oz eta aq from_ (i+1)=oz eta aq from_ i ++ [rA (eta:Int) aq (BitVec.ofInt 8 ((from_+i:Nat):Int))]:=JW _ _
  rw [hs] at aM
  exact ⟨_,rfl,y,rfl,rfl,C.add (fJ.Ek hy m3 fun w2 h=>h.dH) Bv (by rw [wG]; omega) fun k5 w4 C=>⟨⟨by omega,by omega⟩,aM k5 w4 C⟩⟩
 ·intro again out w2 C
  exact ite_false (decide_eq_false (by omega)) ⟨out,rfl,C.boxed.mono fun w h=>Iq h⟩
def nu (cN:List B8) (k:Nat) (gl:Bool) (i:Nat):List (List Int):=(List.range k).map fun (j:Nat)=>if gl=true then su (cN ++ [BitVec.ofInt 8 (i:Int),BitVec.ofInt 8 (j:Int)]) else su (cN ++ [BitVec.ofInt 8 (j:Int),BitVec.ofInt 8 (i:Int)])
def o9 (cN:List B8) (k:Nat) (gl:Bool) (i:Nat):List (List (List Int)):=(List.range i).map (nu cN k gl)
theorem ak5 (l:List B8) (t:Nat):∀ x∈jE l t,0≤x∧x<3329:=by
 have push:∀ (o:List Int) (x:Int),(∀ x∈o,0≤x∧x<3329)→0≤x→∀ y∈pU o x,0≤y∧y<3329:=by
  intro o x ho hx y hy
  unfold pU at hy
  split at hy
  ·rename_i hc
   rcases List.mem_append.1 hy with h | h
   ·exact ho y h
   ·rw [List.mem_singleton.1 h]; exact ⟨hx,hc.1⟩
  ·exact ho y hy
 induction t with
 | zero=>intro x hx; cases hx
 | succ t ih=>exact push _ _ (push _ _ ih (by unfold cx; omega)) (by unfold cy; omega)
theorem alX (l:List B8):Pq (su l):=by
 refine ⟨ak3 l,fun x hx=>?_⟩
 unfold su at hx
 rcases List.mem_append.1 hx with h | h
 ·exact ak5 _ _ x h
 ·rw [List.eq_of_mem_replicate h]; omega
theorem Ra (cN:List B8) (k:Nat) (gl:Bool) (i:Nat):(nu cN k gl i).length=k∧mH (nu cN k gl i):=by
 refine ⟨by unfold nu; simp,fun l hl=>?_⟩
 unfold nu at hl
 obtain ⟨j,_,rfl⟩:=List.mem_map.1 hl
 split <;> exact alX _
theorem DM (cN:List B8) (k:Nat) (gl:Bool) (i:Nat):(o9 cN k gl i).length=i:=by unfold o9; simp
theorem WQ {cN:List B8} {k:Nat} {gl:Bool} {n i:Nat} (h:i<n):(o9 cN k gl n).getD i []=nu cN k gl i:=by
 unfold o9; rw [List.getD_eq_getElem?_getD,List.getElem?_map,List.getElem?_range h]; rfl
theorem VO (s:iz) (hk:s.k≤100) (x:ah) (cN:List B8) (hr:cN.length=32) (gl:Bool) (w:World) (hx:Bytes w x cN):Ok Pr HE [.agg ⟨s.cells⟩,.slice x.a x.n x.c,.bool gl] w fun v w'=>alV w w' v (o9 cN s.k gl s.k):=by
 refine agj ?_
 unfold P9
 refine (ak.start w).nw fun p w1 H _=>H.an 0 rfl (au p 0) rfl ?_
 refine kX 0 s.k (fun i (out:ah) w'=>gX fK fA w [] [.av p s.cells g8] w' out (o9 cN s.k gl i)) rfl (by omega) (gX.start H) ?_ ?_
 ·intro again i out w2 _ hi C aM
  have H:=C.front
  refine ite_true (decide_eq_true (by omega)) (H.an 0 rfl (au p 0) rfl ?_)
  have hs:o9 cN s.k gl (i+1)=o9 cN s.k gl i ++ [nu cN s.k gl i]:=JW _ _
  rw [hs] at aM
  refine kX 0 s.k (fun j (row:ah) w'=>gX dQ e9 w2 [] [] w' row (nu cN j gl i)) rfl (by omega) (gX.start (ak.start w2)) ?_ ?_
  ·intro mu j row w3 _ hj D jz
   have At:nu cN (j+1) gl i=nu cN j gl i ++ [if gl=true then su (cN ++ [BitVec.ofInt 8 (i:Int),BitVec.ofInt 8 (j:Int)]) else su (cN ++ [BitVec.ofInt 8 (j:Int),BitVec.ofInt 8 (i:Int)])]:=JW _ _
   rw [At] at jz
   have hx3:=(hx.aE H.mod).aE D.mod
   have CN:=(Ra cN j gl i).1
   refine ite_true (decide_eq_true (by omega)) (wM fun go bZ=>?_)
   cases gl with
   | true=>
    refine ite_true rfl (bZ _ _ _ ?_)
    rw [yD,yD]
    refine aB (Vw x cN hr _ _ _ hx3) ?_
    rintro _ w4 ⟨y,er,rfl,hy,he,hn,m4⟩
    exact ⟨_,rfl,y,rfl,rfl,D.add (fJ.Ek hy m4 fun w2 h=>h.dH) Bv (by omega) fun S1 w5 D=>⟨⟨by omega,by omega⟩,jz S1 w5 D⟩⟩
   | false=>
    refine ite_false rfl (bZ _ _ _ ?_)
    rw [yD,yD]
    refine aB (Vw x cN hr _ _ _ hx3) ?_
    rintro _ w4 ⟨y,er,rfl,hy,he,hn,m4⟩
    exact ⟨_,rfl,y,rfl,rfl,D.add (fJ.Ek hy m4 fun w2 h=>h.dH) Bv (by omega) fun S1 w5 D=>⟨⟨by omega,by omega⟩,jz S1 w5 D⟩⟩
  ·intro mu row w3 D
   exact ite_false (decide_eq_false (by omega)) (C.add (D.boxed.mono fun w h=>Iq h) ajW (by rw [DM]; omega) fun k5 w4 C=>⟨⟨by omega,by omega⟩,aM k5 w4 C⟩)
 ·intro again out w2 C
  exact ite_false (decide_eq_false (by omega)) ⟨out,rfl,C.boxed⟩
def mX (fs:List (List Int)):List (List Int):=fs.map uP
theorem HZ {fs:List (List Int)} (h:mH fs):mH (mX fs):=fun l hl=>by
 unfold mX at hl
 obtain ⟨f,hf,rfl⟩:=List.mem_map.1 hl
 exact ajL (h f hf)
theorem DJ (fs:List (List Int)):(mX fs).length=fs.length:=by unfold mX; simp
theorem Hu (x:ah) (fs:List (List Int)) (hl:fs.length≤1000) (hp:mH fs) (w:World) (hx:fK w x fs):Ok Pr Bj [.slice x.a x.n x.c] w fun v w'=>Sq w w' v (mX fs):=by
 refine agh ?_
 unfold P7
 have bT:=hx.len
 refine kX 0 fs.length (fun i (out:ah) w'=>gX dQ e9 w [] [] w' out (mX (fs.take i))) rfl (by omega) (gX.start (ak.start w)) ?_ ?_
 ·intro again i out w1 _ hi C aM
  have hs:mX (fs.take (i+1))=mX (fs.take i) ++ [uP (fs.getD i [])]:=by unfold mX; rw [kT _ _ hi [],List.map_append]; rfl
  rw [hs] at aM
  refine ite_true (decide_eq_true (by omega)) ((hx.aE C.mod).ld (i:=i) hi rfl fun y hy=>aB (agO y _ (hp.get hi) _ hy) ?_)
  rintro _ w2 h
  obtain ⟨z,rfl,hz⟩:=h.aas
  exact bV (C.add hz Bv (by rw [DJ,List.length_take]; omega) fun k5 w3 C=>⟨⟨by omega,by omega⟩,aM k5 w3 C⟩)
 ·intro again out w1 C
  rw [List.take_of_length_le (Nat.le_refl _)] at C
  exact ite_false (decide_eq_false (by omega)) ⟨out,rfl,C.boxed.mono fun w h=>Iq h⟩
@[irreducible] def EZ (m:List B8):List Int:=(unpack 1 m).map fun x=>x * 1665
theorem ak6 {m:List B8} (h:m.length=32):Pq (EZ m):=by
 unfold EZ
 refine ⟨by rw [List.length_map,M0,h],fun x hx=>?_⟩
 obtain ⟨y,hy,rfl⟩:=List.mem_map.1 hx
 have:=Qh 1 m y hy
 omega
theorem anp:pX 1 1=1665:=by decide
theorem afg (x:ah) (m:List B8) (h:m.length=32) (w:World) (hx:Bytes w x m):Ok Pr MQ [.slice x.a x.n x.c] w fun v w'=>qA w w' v (EZ m):=by
 refine adP ?_
 unfold M6
 refine aB (GR 1 (by omega) (by omega) x m (by omega) w hx) ?_
 rintro _ w1 ⟨y,rfl,hy,m1⟩
 have hU:(unpack 1 m).length=256:=by rw [M0,h]
 have bX:=Qh 1 m
 unfold EZ
 generalize unpack 1 m=U at *
 have H:=(ak.start w).cF m1 hy
 have xP:=(H.dH 0 rfl).len
 refine bV (dw 0 256 (fun j w'=>ak w [] w' [.row bG 1 y (cr ((U.take j).map (fun x=>x * 1665) ++ U.drop j))]) rfl (by omega) (by simpa using H) ?_ ?_)
 ·intro again j w2 _ hj H aM
  have zX:((U.take j).map (fun x=>x * 1665) ++ U.drop j).length=256:=by simp only [List.length_append,List.length_map,List.length_take,List.length_drop]; omega
  have TF:((U.take j).map (fun x=>x * 1665) ++ U.drop j).getD j 0=U.getD j 0:=by
   rw [List.getD_eq_getElem?_getD,II _ _ _ (by omega),List.getD_eq_getElem?_getD]
  have H:=H.drew
  have hg:=bX _ (DP (l:=U) (i:=j) (by omega) 0)
  refine ite_true (decide_eq_true (by omega)) ((H.dH 0 rfl).ld (i:=j) (by omega) rfl ?_)
  rw [TF]
  refine aB (UP 1 (by omega) (by omega) 1 (by omega) _) ?_
  rintro _ w3 ⟨rfl,m3⟩
  rw [anp]
  have kp:=(H.dH 0 rfl).kept (i:=j) (by omega) m3
  have H:=H.frame m3
  refine ey ⟨kp,⟨by omega,by omega⟩,H.rX 0 (i:=j) rfl (by omega) rfl fun w4 H=>⟨⟨by omega,by omega⟩,aM w4 ?_⟩⟩
  rw [← IG (fun x:Int=>x * 1665) U j (by omega) 0]
  exact H
 ·intro again w2 H
  rw [List.take_of_length_le (by omega),List.drop_of_length_le (by omega),List.append_nil] at H
  exact ite_false (decide_eq_false (by omega)) ⟨y,rfl,H.fN 0 rfl,H.mod⟩
end Go.Proofs.YtgjoehgomjgckaaGreatDoor
end
section
set_option linter.unusedVariables false
set_option linter.unusedSimpArgs false
namespace Go.Proofs.YtgjoehgomjgckaaGreatDoor
open Go Go.Ev
set_option maxRecDepth 20000
set_option linter.unusedVariables false
theorem _root_.Go.Ev.ak.j0 {w0 w w':World} {S:List Nat} {L:List aD} (H:ak w0 S w L) (k:Nat) {b:Nat} {cs:List Value} {t:TypeId} (hk:L[k]? = some (.av b cs t)) (m:Mod [] w w') (j:Nat):kept (Addr.add ⟨b,0,none⟩ j) 1 w w':=
 DT m (by rw [jH]; exact (H.av k hk).lt) (by simp)
theorem qw (w w':World):cO w w' .nilIface 0:=⟨.inl ⟨rfl,rfl⟩,fun b hb=>by cases hb⟩
def iB (set:Int) (b:List B8):Int:=if isSet set=true then (if b.length=iA set then (if nV 12 (dD set).k b=true then 0 else 4) else 3) else 2
theorem Wh (set:Int) (x:ah) (b:List B8) (w:World) (hx:Bytes w x b):Ok Pr HT [.int .i64 set,.slice x.a x.n x.c] w fun v w'=>cO w w' v (iB set b)∧Mod [] w w':=by
 refine agQ ?_
 unfold QG
 rw [wQ]
 have bT:=hx.len
 refine aB (yQ set w) ?_
 rintro _ w1 ⟨rfl,m1⟩
 have H:=(ak.start w).frame m1
 have fin:∀ {L:List aD} {w2 w3:World} {e:Value} {c:Int},ak w [] w2 L→cO w2 w3 e c→Mod [] w2 w3→cO w w3 e c∧Mod [] w w3:=fun H h m=>⟨⟨h.1,fun b hb=>by
  have:=h.2 b hb
  have:=H.mod.size
  omega⟩,H.mod.trans m⟩
 refine ⟨_,rfl,y9 ⟨_,rfl,rfl,H.nw fun p w2 H _=>H.iY 0 rfl rfl fun w3 H=>?_⟩⟩
 have H:ak w [] w3 [.av p (dD set).cells g8]:=H
 unfold iB
 cases cG:isSet set with
 | false=>
  refine ite_true rfl (aB (AV 2 (by decide) w3) ?_)
  rintro e w4 ⟨h,m⟩
  rw [if_neg (by decide)]
  exact fin H h m
 | true=>
  have hg:=nk cG
  have hk:=hg.k
  rw [if_pos rfl]
  refine ite_false rfl (aB (Hg set w3) ?_)
  rintro _ w5 ⟨rfl,m5⟩
  have H:=H.frame m5
  have hA:iA set=384 * (dD set).k+32:=by unfold iA; rw [if_pos cG]
  refine ⟨_,rfl,_,rfl,_,rfl,_,rfl,rfl,?_⟩
  by_cases hn:b.length=iA set
  case neg=>
   rw [if_neg hn]
   refine ite_true (by rw [decide_eq_false (show ¬ ((x.n:Nat):Int)=((iA set:Nat):Int) by omega)]; rfl) (aB (AV 3 (by decide) w5) ?_)
   rintro e w6 ⟨h,m⟩
   exact fin H h m
  rw [if_pos hn]
  refine ite_false (by rw [decide_eq_true (show ((x.n:Nat):Int)=((iA set:Nat):Int) by omega)]; rfl) (H.an 0 rfl (au p 0) rfl (aB (Hs 12 (dD set).k (by omega) (by omega) (by omega) x b (by omega) (by omega) _ (hx.aE H.mod)) ?_))
  rintro _ w7 (⟨dU,out,rfl,hG⟩ | ⟨dA,rfl,m7⟩)
  ·rw [if_pos dU]
   refine ⟨_,rfl,_,rfl,_,rfl,rfl,ite_false rfl ⟨qw _ _,H.mod.trans hG.box.mod⟩⟩
  ·rw [if_neg (by rw [dA]; decide)]
   refine ⟨_,rfl,⟨none,0,0⟩,rfl,_,rfl,rfl,ite_true rfl (aB (AV 4 (by decide) w7) ?_)⟩
   rintro e w8 ⟨h,m⟩
   exact fin (H.frame m7) h m
def tK (k:Nat) (cN:List B8) (s e:List (List Int)):List (List Int):=(List.range k).map fun i=>pI (qG (nu cN k false i) s) (e.getD i [])
def gK (s:iz) (d:List B8):List B8:=eZ 72 6 (d ++ [BitVec.ofNat 8 s.k]) 64
def sK (s:iz) (g:List B8):List (List Int):=mX (oz s.e1 (g.drop 32) 0 s.k)
def eK (s:iz) (g:List B8):List (List Int):=mX (oz s.e1 (g.drop 32) s.k s.k)
@[irreducible] def BY (s:iz) (g:List B8):List B8:=xC (tK s.k (g.take 32) (sK s g) (eK s g)) ++ g.take 32
@[irreducible] def BZ (s:iz) (g:List B8):List B8:=xC (sK s g)
def tW (set:Int) (n:Nat):Int:=if isSet set=true then (if n=32 then 0 else 3) else 2
@[irreducible] def p7 (set:Int) (d:List B8):List B8:=if tW set d.length=0 then BY (dD set) (gK (dD set) d) else []
@[irreducible] def vM (set:Int) (d:List B8):List B8:=if tW set d.length=0 then BZ (dD set) (gK (dD set) d) else []
theorem Sr {s:iz} (hs:zy s) {g:List B8} (hg:g.length=64):(sK s g).length=s.k∧mH (sK s g):=by
 unfold sK
 exact ⟨by rw [DJ,wG],HZ (yR (by have:=hs.e1; omega) (by rw [List.length_drop]; omega) _ _)⟩
theorem anq {s:iz} (hs:zy s) {g:List B8} (hg:g.length=64):(eK s g).length=s.k∧mH (eK s g):=by
 unfold eK
 exact ⟨by rw [DJ,wG],HZ (yR (by have:=hs.e1; omega) (by rw [List.length_drop]; omega) _ _)⟩
theorem RO (k:Nat) (cN:List B8) (s e:List (List Int)):(tK k cN s e).length=k:=by unfold tK; simp
theorem Ss (k:Nat) (cN:List B8) (s e:List (List Int)):mH (tK k cN s e):=fun l hl=>by
 unfold tK at hl
 obtain ⟨i,_,rfl⟩:=List.mem_map.1 hl
 exact DX _ _
theorem aiX {s:iz} (hs:zy s) {g:List B8} (hg:g.length=64):(BY s g).length=384 * s.k+32:=by
 unfold BY
 rw [List.length_append,Is (Ss _ _ _ _),RO,List.length_take]; omega
theorem aiY {s:iz} (hs:zy s) {g:List B8} (hg:g.length=64):(BZ s g).length=384 * s.k:=by
 unfold BZ
 rw [Is (Sr hs hg).2,(Sr hs hg).1]
theorem ahv (set:Int) (x:ah) (d:List B8) (hd:d.length≤100000) (w:World) (hx:Bytes w x d) :
  Ok Pr PF [.int .i64 set,.slice x.a x.n x.c] w fun v w'=>∃ (y z:ah) (er:Value),v=.tuple ⟨[.slice y.a y.n y.c,.slice z.a z.n z.c,er]⟩∧
   ak w [] w' [.row bh 1 y (bp (p7 set d)),.row bh 1 z (bp (vM set d)),aD.err er (tW set d.length)]:=by
 refine agf ?_
 unfold P6
 rw [wQ]
 have bT:=hx.len
 have hC:tW set d.length=if isSet set=true then (if d.length=32 then 0 else 3) else 2:=rfl
 have hV:p7 set d=if tW set d.length=0 then BY (dD set) (gK (dD set) d) else []:=by unfold p7; rfl
 have hS:vM set d=if tW set d.length=0 then BZ (dD set) (gK (dD set) d) else []:=by unfold vM; rfl
 have TG:=fun h:isSet set=true=>nk h
 refine aB (yQ set w) ?_
 rintro _ w1 ⟨rfl,m1⟩
 have H:=(ak.start w).frame m1
 generalize p7 set d=V at *
 generalize vM set d=K at *
 generalize tW set d.length=C at *
 generalize dD set=s at *
 refine ⟨_,rfl,y9 ⟨_,rfl,rfl,H.nw fun p w2 H _=>H.iY 0 rfl rfl fun w3 H=>?_⟩⟩
 have H:ak w [] w3 [.av p s.cells g8]:=H
 have no:∀ (c:Int),c≠0→C=c→ay Pr oV [.int .i64 c] w3 fun FV w4=>∃ (y z:ah) (er:Value),Value.tuple ⟨[.slice none 0 0,.slice none 0 0,FV]⟩=.tuple ⟨[.slice y.a y.n y.c,.slice z.a z.n z.c,er]⟩∧
   ak w [] w4 [.row bh 1 y (bp V),.row bh 1 z (bp K),aD.err er C]:=by
  intro c hc gY
  rw [gY] at hV hS
  rw [if_neg hc] at hV hS
  subst hV hS
  refine aB (AV c hc w3) ?_
  rintro e w4 ⟨h,m4⟩
  rw [gY]
  exact ⟨⟨none,0,0⟩,⟨none,0,0⟩,e,rfl,((((ak.start w).iZ bh 1).iZ bh 1).frame H.mod).gG m4 h⟩
 cases cG:isSet set with
 | false=>
  rw [cG,if_neg (by decide)] at hC
  exact ite_true rfl (no 2 (by decide) hC)
 | true=>
  rw [cG,if_pos rfl] at hC
  refine ite_false rfl ?_
  by_cases kG:d.length=32
  case neg=>
   rw [if_neg kG] at hC
   exact ite_true (by rw [decide_eq_false (show ¬ ((x.n:Nat):Int)=32 by omega)]; rfl) (no 3 (by decide) hC)
  rw [if_pos kG] at hC
  clear no
  subst hC
  rw [if_pos rfl] at hV hS
  subst hV hS
  have hG:=TG cG
  have hk:=hG.k
  refine ite_false (by rw [decide_eq_true (show ((x.n:Nat):Int)=32 by omega)]; rfl) (H.an 0 rfl (au p 0) rfl ?_)
  rw [Q8]
  refine H.nw fun p1 w4 H _=>H.nw fun p2 w5 H _=>?_
  have FD:=H.QZ 1 (l:=[BitVec.ofNat 8 s.k]) rfl
  refine aB (LD ⟨some ⟨p2,0,none⟩,2,2⟩ [d,[BitVec.ofNat 8 s.k]] _ (eY.zG (H.av 2 rfl) (by simp) (hx.aE H.mod) (jX _) FD (jX _)) (y7 rfl (by omega) (by show (1:Nat)≤_; omega))) ?_
  rintro _ w6 ⟨g,rfl,hg,m6⟩
  rw [show [d,[BitVec.ofNat 8 s.k]].flatten=d ++ [BitVec.ofNat 8 s.k] by simp] at hg
  have hGl:(gK s d).length=64:=sV 72 6 _ 64 (by omega)
  change Own w6 w5.heap.size bh 1 g (bp (gK s d)) at hg
  generalize gK s d=G at *
  have H:=((H.cF m6 hg).drew).drew
  have hgn:=(H.bytes 3 rfl).len
  have hgc:=(H.bytes 3 rfl).cap
  refine bV (ID 32 rfl (by omega) fun zr hzr hr=>y8 32 rfl (by omega) fun zk hzk oO=>?_)
  have hr:=fun w' (h:Bytes w' g G)=>hr w' G h (by omega)
  have oO:=fun w' (h:Bytes w' g G)=>oO w' G h (by omega)
  have JT:(G.drop 32).length=32:=by rw [List.length_drop]; omega
  have CN:(G.take 32).length=32:=by rw [List.length_take]; omega
  obtain ⟨B1,hB1⟩:∃ r:aD,r=.av p1 (bp [BitVec.ofNat 8 s.k]) bh:=⟨_,rfl⟩
  obtain ⟨B2,JU⟩:∃ r:aD,r=.av p2 [x.v,.slice (some ⟨p1,0,none⟩) 1 1] bJ:=⟨_,rfl⟩
  have H:ak w [] w6.drew.drew [.av p s.cells g8,B1,B2,.row bh 1 g (bp G)]:=by rw [hB1,JU]; exact H
  clear hB1 JU FD
  have TH:=yR (eta:=s.e1) (by have:=hG.e1; omega) JT 0 s.k
  have le2:=yR (eta:=s.e1) (by have:=hG.e1; omega) JT s.k s.k
  have nl1:=wG s.e1 (G.drop 32) 0 s.k
  have nl2:=wG s.e1 (G.drop 32) s.k s.k
  refine H.an 0 rfl (au p 1) rfl (H.an 0 rfl (au p 0) rfl (H.an 0 rfl (au p 1) rfl (H.an 0 rfl (au p 0) rfl (H.an 0 rfl (au p 0) rfl ?_))))
  refine aB (Ht s.e1 zk (G.drop 32) 0 s.k (by omega) (by omega) (by omega) _ (oO _ (H.bytes 3 rfl))) ?_
  rintro _ w7 ⟨y1,rfl,sy⟩
  obtain ⟨f1,H1⟩:=H.g9 sy
  refine bV ⟨H.j0 0 rfl sy.mod 0,H.j0 0 rfl sy.mod 0,H.j0 0 rfl sy.mod 1,aB (Hu y1 _ (by omega) TH _ (H1.box 4 rfl)) ?_⟩
  rintro _ w8 ⟨y2,rfl,sA⟩
  obtain ⟨f2,H2⟩:=H1.g9 sA
  refine bV ⟨H1.j0 0 rfl sA.mod 0,H1.j0 0 rfl sA.mod 0,H1.j0 0 rfl sA.mod 1,aB (Ht s.e1 zk (G.drop 32) s.k s.k (by omega) (by omega) (by omega) _ (oO _ (H2.bytes 3 rfl))) ?_⟩
  rintro _ w9 ⟨y3,rfl,FW⟩
  obtain ⟨f3,H3⟩:=H2.g9 FW
  refine bV (aB (Hu y3 _ (by omega) le2 _ (H3.box 6 rfl)) ?_)
  rintro _ cJ ⟨y4,rfl,TI⟩
  obtain ⟨f4,H⟩:=H3.g9 TI
  clear H1 H2 H3
  refine bV (H.mS 0 rfl (aB (VO s (by omega) zr (G.take 32) CN false _ (hr _ (H.bytes 3 rfl))) ?_))
  rintro _ cY ⟨y5,rfl,FX⟩
  obtain ⟨f5,H⟩:=H.g9 FX
  have tX:=Sr hG hGl
  have JX:=anq hG hGl
  have hS:fK cY y2 (sK s G):=H.box 5 rfl
  have hE:fK cY y4 (eK s G):=H.box 7 rfl
  have hM:zL cY y5 (o9 (G.take 32) s.k false s.k):=H.box 8 rfl
  have TJ:=mF.len hM
  rw [DM] at TJ
  have eS:BY s G=xC (tK s.k (G.take 32) (sK s G) (eK s G)) ++ G.take 32:=by unfold BY; rfl
  have eO:BZ s G=xC (sK s G):=by unfold BZ; rfl
  rw [eS,eO]
  clear eS eO
  obtain ⟨SK,hSK⟩:∃ z,z=sK s G:=⟨_,rfl⟩
  rw [← hSK] at hS tX ⊢
  generalize eK s G=EK at *
  refine bV ?_
  have rows:=fun i=>Ra (G.take 32) s.k false i
  obtain ⟨f,hf⟩:∃ f:Nat→List Int,f=fun i=>pI (qG (nu (G.take 32) s.k false i) SK) (EK.getD i []):=⟨_,rfl⟩
  have htK:tK s.k (G.take 32) SK EK=(List.range s.k).map f:=by rw [hf]; rfl
  refine kX 0 s.k (fun i (out:ah) w'=>gX dQ e9 cY [] [] w' out ((List.range i).map f)) rfl (by omega) (gX.start (ak.start cY)) ?_ ?_
  ·intro again i out fP _ hi C aM
   have mi:=C.mod
   rw [JW] at aM
   have FP:i<(o9 (G.take 32) s.k false s.k).length:=by rw [DM]; exact hi
   refine ite_true (decide_eq_true (by omega)) (mF.ld (hM.aE mi) (i:=i) FP rfl (d:=[]) fun r iR=>?_)
   rw [WQ hi] at iR
   have TK:=mi.trans (Mod.drew [] fP)
   refine (hE.aE TK).ld (i:=i) (by omega) rfl fun e he=>?_
   have iR:=(iR.aE (Mod.drew [] fP):fK fP.drew r _)
   refine aB (Hr r y2 _ SK (by rw [(rows i).1,tX.1]) (by rw [(rows i).1]; omega) (by rw [(rows i).1]; omega) (rows i).2 tX.2 _ iR (hS.aE TK)) ?_
   rintro _ fE ⟨q,rfl,hq,jq⟩
   refine bV ⟨(hE.aE TK).kept (by omega) jq,aB (DB q e _ _ (IA _ _ (by rw [(rows i).1,tX.1])) (JX.2.get (by omega)) _ hq.dH (he.aE jq)) ?_⟩
   rintro _ fQ xQ
   obtain ⟨t,rfl,ht⟩:=xQ.aas
   have C:=(C.frame (Mod.drew [] fP)).frame jq
   have ef:pI (qG (nu (G.take 32) s.k false i) SK) (EK.getD i [])=f i:=by rw [hf]
   rw [ef] at ht
   refine bV (C.add ht Bv (by rw [List.length_map,List.length_range]; omega) fun k5 jT C'=>⟨⟨by omega,by omega⟩,aM k5 jT C'⟩)
  ·intro again out fP C
   rw [← htK] at C
   obtain ⟨f6,H⟩:=H.g9 (C.boxed.mono fun w h=>Iq h)
   have hT:fK fP out (tK s.k (G.take 32) SK EK):=H.box 9 rfl
   refine ite_false (decide_eq_false (by omega)) (aB (Wg out _ (by rw [RO]; omega) (Ss _ _ _ _) _ hT) ?_)
   rintro _ fE ⟨a,rfl,ha,jq⟩
   have H:=H.cF jq ha
   have sx:=(H.bytes 10 rfl).len
   have TL:=Is (Ss s.k (G.take 32) SK EK)
   rw [RO] at TL
   refine bV (H.uV 10 iG rfl (hr _ (H.bytes 3 rfl)) (by omega) fun a' fQ H _=>?_)
   refine aB (Wg y2 SK (by omega) tX.2 _ (by rw [hSK]; exact H.box 5 rfl)) ?_
   rintro _ jT ⟨b,rfl,hb,vN⟩
   have H:=H.cF vN hb
   exact bV ⟨a',b,.nilIface,rfl,(H.drop 10).gG (Mod.refl _ _) (qw _ _)⟩
end Go.Proofs.YtgjoehgomjgckaaGreatDoor
end
section
set_option linter.unusedVariables false
set_option linter.unusedSimpArgs false
namespace Go.Proofs.YtgjoehgomjgckaaGreatDoor
open Go Go.Ev
set_option maxRecDepth 20000
set_option linter.unusedVariables false
theorem Xw {k:Nat} {b:List B8} (h:nV 12 k b=true):mH (gF 12 k b):=fun l hl=>by
 unfold nV at h
 rw [decide_eq_true (rfl:12=12),Bool.not_true,Bool.false_or,List.all_eq_true] at h
 exact Xt.1 (h l hl)
def yK (s:iz) (r:List B8):List (List Int):=mX (oz s.e1 r 0 s.k)
def nK (s:iz) (r:List B8):List (List Int):=oz s.e2 r s.k (s.k+1)
def cU (s:iz) (cN:List B8) (y n:List (List Int)) (i:Nat):List Int:=pI (qB (qG (nu cN s.k true i) y)) (n.getD i [])
def cV (s:iz) (t y n:List (List Int)) (m:List B8):List Int:=pI (pI (qB (qG t y)) (n.getD s.k [])) (EZ m)
@[irreducible] def I7 (s:iz) (b m r:List B8):List B8:=((List.range s.k).flatMap fun i=>lq s.du (cU s (b.drop (384 * s.k)) (yK s r) (nK s r) i)) ++ lq s.dv (cV s (gF 12 s.k b) (yK s r) (nK s r) m)
def Au (set:Int) (b m r:List B8):Int:=if iB set b=0 then (if m.length=32∧r.length=32 then 0 else 3) else iB set b
@[irreducible] def tY (set:Int) (b m r:List B8):List B8:=if Au set b m r=0 then I7 (dD set) b m r else []
theorem Xx {set:Int} {b:List B8} (h:iB set b=0):isSet set=true∧b.length=384 * (dD set).k+32∧nV 12 (dD set).k b=true:=by
 unfold iB at h
 cases cG:isSet set with
 | false=>rw [cG,if_neg (by decide)] at h; exact absurd h (by decide)
 | true=>
  have hA:iA set=384 * (dD set).k+32:=by unfold iA; rw [if_pos cG]
  rw [cG,if_pos rfl] at h
  split at h
  ·split at h
   ·rename_i h1 h2; exact ⟨rfl,by rw [h1,hA],h2⟩
   ·exact absurd h (by decide)
  ·exact absurd h (by decide)
theorem anr {s:iz} (hs:zy s) {r:List B8} (hr:r.length=32):(yK s r).length=s.k∧mH (yK s r):=by
 unfold yK
 exact ⟨by rw [DJ,wG],HZ (yR (by have:=hs.e1; omega) hr _ _)⟩
theorem ans {s:iz} (hs:zy s) {r:List B8} (hr:r.length=32):(nK s r).length=s.k+1∧mH (nK s r):=by
 unfold nK
 exact ⟨wG _ _ _ _,yR (by have:=hs.e2; omega) hr _ _⟩
theorem VP (d:Nat) (f:Nat→List Int) (hf:∀ i,Pq (f i)) (n:Nat):((List.range n).flatMap fun i=>lq d (f i)).length=32 * d * n:=by
 induction n with
 | zero=>rfl
 | succ n ih=>rw [List.range_succ,List.flatMap_append,List.length_append,ih]; simp [IF (hf n).len,Nat.mul_succ]
theorem ant (s:iz) (cN:List B8) (y n:List (List Int)) (i:Nat):Pq (cU s cN y n i):=DX _ _
theorem anu (s:iz) (t y n:List (List Int)) (m:List B8):Pq (cV s t y n m):=DX _ _
theorem VQ (set:Int) (x xm xr:ah) (b m r:List B8) (w:World) (hx:Bytes w x b) (hm:Bytes w xm m) (hr:Bytes w xr r) :
  Ok Pr HD [.int .i64 set,.slice x.a x.n x.c,.slice xm.a xm.n xm.c,.slice xr.a xr.n xr.c] w fun v w'=>jy bh 1 w w' v (bp (tY set b m r)) (Au set b m r):=by
 refine age ?_
 unfold P5
 rw [wQ]
 have bT:=hx.len
 have Tp:=hm.len
 have CN:=hr.len
 have hC:Au set b m r=if iB set b=0 then (if m.length=32∧r.length=32 then 0 else 3) else iB set b:=rfl
 have hV:tY set b m r=if Au set b m r=0 then I7 (dD set) b m r else []:=by unfold tY; rfl
 generalize Au set b m r=C at *
 generalize tY set b m r=V at *
 refine aB (Wh set x b w hx) ?_
 rintro e w1 ⟨he,m1⟩
 by_cases h0:iB set b=0
 case neg=>
  rw [if_neg h0] at hC
  rw [hC,if_neg h0] at hV
  subst hV
  rw [hC]
  refine he.1.isNil (ite_true (by rw [decide_eq_false h0]; rfl) (jy.no he m1))
 obtain ⟨cG,jK,dU⟩:=Xx h0
 have hG:=nk cG
 have hk:=hG.k
 rw [if_pos h0] at hC
 refine he.1.isNil (ite_false (by rw [decide_eq_true h0]; rfl) ?_)
 by_cases kG:m.length=32∧r.length=32
 case neg=>
  rw [if_neg kG] at hC
  rw [hC,if_neg (by decide)] at hV
  subst hV
  rw [hC]
  refine ite_true ?_ (aB (AV 3 (by decide) w1) ?_)
  ·by_cases h:m.length=32
   ·rw [decide_eq_false (show ¬ ((xr.n:Nat):Int)=32 by omega),Bool.not_false,Bool.or_true]
   ·rw [decide_eq_false (show ¬ ((xm.n:Nat):Int)=32 by omega)]; rfl
  ·rintro e2 w2 ⟨h2,m2⟩
   exact jy.no ⟨h2.1,fun b hb=>by have:=h2.2 b hb; have:=m1.size; omega⟩ (m1.trans m2)
 rw [if_pos kG] at hC
 rw [hC,if_pos rfl] at hV
 subst hV
 rw [hC]
 clear hC
 obtain ⟨kG,zN⟩:=kG
 refine ite_false (by rw [decide_eq_true (show ((xr.n:Nat):Int)=32 by omega),decide_eq_true (show ((xm.n:Nat):Int)=32 by omega)]; rfl) (aB (yQ set w1) ?_)
 rintro _ w2 ⟨rfl,m2⟩
 have H:=(ak.start w).frame (m1.trans m2)
 rw [cG]
 generalize dD set=s at *
 refine ⟨_,rfl,y9 ⟨_,rfl,rfl,H.nw fun p w3 H _=>H.iY 0 rfl rfl fun w5 H=>?_⟩⟩
 have H:ak w [] w5 [.av p s.cells g8]:=H
 refine H.an 0 rfl (au p 0) rfl (aB (Hs 12 s.k (by omega) (by omega) (by omega) x b (by omega) (by omega) _ (hx.aE H.mod)) ?_)
 rintro _ w6 (⟨_,yt,rfl,TM⟩ | ⟨dA,_⟩)
 case inr=>rw [dA] at dU; cases dU
 obtain ⟨f0,H⟩:=H.g9 TM.box
 have H:=H.drew
 have TH:=yR (eta:=s.e1) (by have:=hG.e1; omega) zN 0 s.k
 have nl1:=wG s.e1 r 0 s.k
 refine ⟨_,rfl,_,rfl,_,rfl,rfl,H.an 0 rfl (au p 1) rfl (H.an 0 rfl (au p 0) rfl (H.an 0 rfl (au p 2) rfl (H.an 0 rfl (au p 0) rfl (H.an 0 rfl (au p 0) rfl ⟨⟨by omega,by omega⟩,?_⟩))))⟩
 refine aB (Ht s.e1 xr r 0 s.k (by omega) (by omega) (by omega) _ (hr.aE H.mod)) ?_
 rintro _ w7 ⟨y1,rfl,sy⟩
 obtain ⟨f1,H1⟩:=H.g9 sy
 refine bV ⟨H.j0 0 rfl sy.mod 0,H.j0 0 rfl sy.mod 0,H.j0 0 rfl sy.mod 2,aB (Hu y1 _ (by omega) TH _ (H1.box 2 rfl)) ?_⟩
 rintro _ w8 ⟨y2,rfl,sA⟩
 obtain ⟨f2,H2⟩:=H1.g9 sA
 refine bV ⟨H1.j0 0 rfl sA.mod 0,H1.j0 0 rfl sA.mod 0,H1.j0 0 rfl sA.mod 2,?_⟩
 rw [show (s.k:Int)+1=((s.k+1:Nat):Int) by omega]
 refine aB (Ht s.e2 xr r s.k (s.k+1) (by omega) (by omega) (by omega) _ (hr.aE H2.mod)) ?_
 rintro _ w9 ⟨y3,rfl,FW⟩
 obtain ⟨f3,H⟩:=H2.g9 FW
 clear H1 H2
 have H:=H.drew
 refine bV (H.mS 0 rfl (H.an 0 rfl (au p 0) rfl ⟨⟨by omega,by omega⟩,y8 (384 * s.k) (by omega) (by omega) fun zr hzr kr=>?_⟩))
 have kr:=fun w' h=>kr w' b h (by omega)
 have aoj:(b.drop (384 * s.k)).length=32:=by rw [List.length_drop]; omega
 refine aB (VO s (by omega) zr (b.drop (384 * s.k)) aoj true _ (kr _ (hx.aE H.mod))) ?_
 rintro _ cJ ⟨y5,rfl,FX⟩
 obtain ⟨f5,H⟩:=H.g9 FX
 have tX:=anr hG zN
 have JX:=ans hG zN
 have Ju:=Xw dU
 have lT:=QK 12 s.k b
 have hT:fK cJ yt (gF 12 s.k b):=H.box 1 rfl
 have hS:fK cJ y2 (yK s r):=H.box 3 rfl
 have hE:fK cJ y3 (nK s r):=H.box 4 rfl
 have hM:zL cJ y5 (o9 (b.drop (384 * s.k)) s.k true s.k):=H.box 5 rfl
 have TJ:=mF.len hM
 rw [DM] at TJ
 have eC:I7 s b m r=((List.range s.k).flatMap fun i=>lq s.du (cU s (b.drop (384 * s.k)) (yK s r) (nK s r) i)) ++ lq s.dv (cV s (gF 12 s.k b) (yK s r) (nK s r) m):=by unfold I7; rfl
 rw [eC]
 clear eC
 have H:ak w [] cJ [.av p s.cells g8,.box f0 fun w=>fK w yt (gF 12 s.k b),.box f1 fun w=>fK w y1 (oz s.e1 r 0 s.k),.box f2 fun w=>fK w y2 (yK s r),.box f3 fun w=>fK w y3 (nK s r),.box f5 fun w=>zL w y5 (o9 (b.drop (384 * s.k)) s.k true s.k)]:=H
 generalize oz s.e1 r 0 s.k=L1 at *
 generalize yK s r=Y at *
 generalize nK s r=N at *
 generalize b.drop (384 * s.k)=cN at *
 generalize gF 12 s.k b=T at *
 have rows:=fun i=>Ra cN s.k true i
 have hdu:=hG.du
 have hdv:=hG.dv
 refine bV ?_
 obtain ⟨f,hf⟩:∃ f:Nat→List Int,f=cU s cN Y N:=⟨_,rfl⟩
 rw [← hf]
 have JY:∀ i,Pq (f i):=fun i=>by rw [hf]; exact ant _ _ _ _ _
 refine kX 0 s.k (fun i (out:ah) w'=>ak cJ [] w' [.row bh 1 out (bp ((List.range i).flatMap fun i=>lq s.du (f i)))]) rfl (by omega) (by simpa [bp] using (ak.start cJ).iZ bh 1) ?_ ?_
 ·intro again i out cY _ hi D aM
  have hs:((List.range (i+1)).flatMap fun i=>lq s.du (f i))=((List.range i).flatMap fun i=>lq s.du (f i)) ++ lq s.du (f i):=by rw [List.range_succ,List.flatMap_append]; simp
  rw [hs] at aM
  have hlen:=VP s.du f JY i
  have anv:32 * s.du * i≤32 * 11 * 4:=Nat.mul_le_mul (by omega) (by omega)
  have sx:=(D.bytes 0 rfl).len
  generalize ((List.range i).flatMap fun i=>lq s.du (f i))=A at *
  have FP:i<(o9 cN s.k true s.k).length:=by rw [DM]; exact hi
  have m0:=D.mod
  have Hw:=(H.frame D.mod).drew
  have D:=D.drew
  have mi:=D.mod
  refine ite_true (decide_eq_true (by omega)) (mF.ld (hM.aE m0) (i:=i) FP rfl (d:=[]) fun q iR=>?_)
  rw [WQ hi] at iR
  refine Hw.an 0 rfl (au p 3) rfl ((hE.aE mi).ld (i:=i) (by omega) rfl fun e he=>?_)
  have iR:=(iR.aE (Mod.drew [] cY):fK cY.drew q _)
  refine aB (Hr q y2 _ Y (by rw [(rows i).1,tX.1]) (by rw [(rows i).1]; omega) (by rw [(rows i).1]; omega) (rows i).2 tX.2 _ iR (hS.aE mi)) ?_
  rintro _ fP ⟨d1,rfl,qQ,kI⟩
  have D:=D.cF kI qQ
  have Hx:=Hw.frame kI
  refine bV ⟨(hE.aE mi).kept (by omega) kI,Hw.j0 0 rfl kI 3,aB (N0 d1 _ (IA _ _ (by rw [(rows i).1,tX.1])) _ qQ.dH) ?_⟩
  rintro _ fE ⟨d2,rfl,sv,jq⟩
  have D:=D.cF jq sv
  have Hy:=Hx.frame jq
  refine bV ⟨(hE.aE (mi.trans kI)).kept (by omega) jq,Hx.j0 0 rfl jq 3,aB (DB d2 e _ _ (Q5 _) (JX.2.get (by omega)) _ sv.dH (he.aE (kI.trans jq))) ?_⟩
  rintro _ fQ ⟨d3,rfl,vO,p8⟩
  have D:=D.cF p8 vO
  have ef:pI (qB (qG (nu cN s.k true i) Y)) (N.getD i [])=f i:=by rw [hf]; rfl
  rw [ef] at vO
  refine bV ⟨Hy.j0 0 rfl p8 3,aB (M7 s.du (by omega) (by omega) d3 (f i) (JY i).len _ vO.dH) ?_⟩
  rintro _ jT ⟨z,rfl,hz,vN⟩
  have D:=D.cF vN hz
  have pT:=hz.bytes.len
  have dS:=IF (d:=s.du) (JY i).len
  exact bV (D.uV 0 iG rfl hz.bytes (by omega) fun o' l8 D _=>⟨⟨by omega,by omega⟩,aM o' l8 D.front⟩)
 ·intro again out cY D
  have hlen:=VP s.du f JY s.k
  have anv:32 * s.du * s.k≤32 * 11 * 4:=Nat.mul_le_mul (by omega) (by omega)
  have sx:=(D.bytes 0 rfl).len
  generalize ((List.range s.k).flatMap fun i=>lq s.du (f i))=A at *
  have H:=(H.join D).drew
  have mi:=(D.drew).mod
  refine ite_false (decide_eq_false (by omega)) (H.an 0 rfl (au p 0) rfl ((hE.aE mi).ld (i:=s.k) (by omega) rfl fun e he=>aB (Hr yt y2 T Y (by omega) (by omega) (by omega) Ju tX.2 _ (hT.aE mi) (hS.aE mi)) ?_))
  rintro _ fP ⟨d1,rfl,qQ,kI⟩
  have H1:=H.cF kI qQ
  refine bV ⟨(hE.aE mi).kept (by omega) kI,H.j0 0 rfl kI 0,aB (N0 d1 _ (IA _ _ (by omega)) _ qQ.dH) ?_⟩
  rintro _ fE ⟨d2,rfl,sv,jq⟩
  have H2:=H1.cF jq sv
  refine bV ⟨(hE.aE (mi.trans kI)).kept (by omega) jq,H1.j0 0 rfl jq 0,aB (DB d2 e _ _ (Q5 _) (JX.2.get (by omega)) _ sv.dH (he.aE (kI.trans jq))) ?_⟩
  rintro _ fQ ⟨d3,rfl,vO,p8⟩
  have H:=H2.cF p8 vO
  refine bV (aB (afg xm m kG _ (hm.aE H.mod)) ?_)
  rintro _ jT ⟨d4,rfl,hd4,vN⟩
  have H:=H.cF vN hd4
  refine bV (aB (DB d3 d4 _ _ (DX _ _) (ak6 kG) _ (H.dH 9 rfl) hd4.dH) ?_)
  rintro _ l8 ⟨d5,rfl,TN,TO⟩
  have H:=H.cF TO TN
  change Own l8 jT.heap.size bG 1 d5 (cr (cV s T Y N m)) at TN
  have pV:Pq (cV s T Y N m):=anu _ _ _ _ _
  refine bV (H.an 0 rfl (au p 4) rfl (aB (M7 s.dv (by omega) (by omega) d5 _ pV.len _ TN.dH) ?_))
  rintro _ xR ⟨z,rfl,hz,TP⟩
  have H:=H.cF TP hz
  have pT:=hz.bytes.len
  have dS:=IF (d:=s.dv) pV.len
  refine bV (H.uV 6 iG rfl hz.bytes (by omega) fun o' kH H _=>?_)
  exact jy.yes (H.fN 6 rfl) H.mod
def vQ (set:Int) (b c:List B8):Int:=if isSet set=true then (if b.length=jo set∧c.length=nU set then (if nV 12 (dD set).k b=true then 0 else 4) else 3) else 2
def EA (s:iz) (b c:List B8):List Int:=Jt ((rO s.dv 1 (c.drop (32 * s.du * s.k))).getD 0 []) (qB (qG (gF 12 s.k b) (mX (rO s.du s.k c))))
@[irreducible] def B0 (s:iz) (b c:List B8):List B8:=lq 1 (EA s b c)
@[irreducible] def Av (set:Int) (b c:List B8):List B8:=if vQ set b c=0 then B0 (dD set) b c else []
theorem aiZ (s:iz) (b c:List B8):(B0 s b c).length=32:=by
 unfold B0; rw [IF (show (EA s b c).length=256 from (Yl _ _).len)]
theorem ahw (set:Int) (x xc:ah) (b c:List B8) (w:World) (hx:Bytes w x b) (hc:Bytes w xc c) :
  Ok Pr PE [.int .i64 set,.slice x.a x.n x.c,.slice xc.a xc.n xc.c] w fun v w'=>jy bh 1 w w' v (bp (Av set b c)) (vQ set b c):=by
 refine agd ?_
 unfold P4
 rw [wQ]
 have bT:=hx.len
 have JZ:=hc.len
 have hC:vQ set b c=if isSet set=true then (if b.length=jo set∧c.length=nU set then (if nV 12 (dD set).k b=true then 0 else 4) else 3) else 2:=rfl
 have hV:Av set b c=if vQ set b c=0 then B0 (dD set) b c else []:=by unfold Av; rfl
 have hB:jo set=384 * (dD set).k:=rfl
 have hZ:nU set=32 * ((dD set).du * (dD set).k+(dD set).dv):=rfl
 have TG:=fun h:isSet set=true=>nk h
 have jN:=Hg set
 generalize vQ set b c=C at *
 generalize Av set b c=V at *
 generalize jo set=B at *
 generalize nU set=Z at *
 refine aB (yQ set w) ?_
 rintro _ w1 ⟨rfl,m1⟩
 have H:=(ak.start w).frame m1
 generalize dD set=s at *
 refine ⟨_,rfl,y9 ⟨_,rfl,rfl,H.nw fun p w2 H _=>H.iY 0 rfl rfl fun w3 H=>?_⟩⟩
 have H:ak w [] w3 [.av p s.cells g8]:=H
 have no:∀ {L:List aD} {w4:World} (e:Int),ak w [] w4 L→e≠0→C=e→ay Pr oV [.int .i64 e] w4 fun v w5=>jy bh 1 w w5 (.tuple ⟨[.slice none 0 0,v]⟩) (bp V) C:=by
  intro L w4 e H he hCe
  rw [hCe,if_neg he] at hV
  subst hV
  rw [hCe]
  refine aB (AV e he w4) ?_
  rintro v w5 ⟨h,m⟩
  exact jy.no ⟨h.1,fun b hb=>by have:=h.2 b hb; have:=H.mod.size; omega⟩ (H.mod.trans m)
 cases cG:isSet set with
 | false=>
  rw [cG,if_neg (by decide)] at hC
  exact ite_true rfl (no 2 H (by decide) hC)
 | true=>
  rw [cG,if_pos rfl] at hC
  have hG:=TG cG
  have hk:=hG.k
  have hdu:=hG.du
  have hdv:=hG.dv
  refine ite_false rfl (aB (jN w3) ?_)
  rintro _ w5 ⟨rfl,m5⟩
  have H:=H.frame m5
  refine ⟨_,rfl,_,rfl,_,rfl,_,rfl,rfl,?_⟩
  by_cases hn:b.length=B∧c.length=Z
  case neg=>
   rw [if_neg hn] at hC
   refine ite_true ?_ (no 3 H (by decide) hC)
   by_cases h:b.length=B
   ·rw [decide_eq_false (show ¬ ((xc.n:Nat):Int)=((Z:Nat):Int) by omega),Bool.not_false,Bool.or_true]
   ·rw [decide_eq_false (show ¬ ((x.n:Nat):Int)=((B:Nat):Int) by omega)]; rfl
  rw [if_pos hn] at hC
  obtain ⟨hn,tP⟩:=hn
  have hdk:s.du * s.k≤11 * 4:=Nat.mul_le_mul (by omega) hk.2
  refine ite_false (by rw [decide_eq_true (show ((xc.n:Nat):Int)=((Z:Nat):Int) by omega),decide_eq_true (show ((x.n:Nat):Int)=((B:Nat):Int) by omega)]; rfl) (H.an 0 rfl (au p 0) rfl (aB (Hs 12 s.k (by omega) (by omega) (by omega) x b (by omega) (by omega) _ (hx.aE H.mod)) ?_))
  rintro _ w7 (⟨dU,yt,rfl,TM⟩ | ⟨dA,rfl,m7⟩)
  case inr=>
   rw [dA,if_neg (by decide)] at hC
   exact ⟨_,rfl,⟨none,0,0⟩,rfl,_,rfl,rfl,ite_true rfl (no 4 (H.frame m7) (by decide) hC)⟩
  rw [if_pos dU] at hC
  rw [hC,if_pos rfl] at hV
  subst hV
  rw [hC]
  clear hC no
  obtain ⟨f0,H⟩:=H.g9 TM.box
  have e1:32 * (s.du:Int) * (s.k:Int)=((32 * s.du * s.k:Nat):Int):=by simp only [Int.natCast_mul]; rfl
  have e2:32 * s.du * s.k=32 * (s.du * s.k):=Nat.mul_assoc _ _ _
  refine ⟨_,rfl,_,rfl,_,rfl,rfl,ite_false rfl (H.an 0 rfl (au p 3) rfl ⟨⟨by omega,by omega⟩,H.an 0 rfl (au p 0) rfl ?_⟩)⟩
  rw [e1]
  have H:=H.drew
  refine ⟨⟨by omega,by omega⟩,H.an 0 rfl (au p 3) rfl (H.an 0 rfl (au p 0) rfl (H.an 0 rfl (au p 4) rfl (y8 (32 * s.du * s.k) rfl (by omega) fun zc pQ kc=>?_)))⟩
  have kc:=fun w' h=>kc w' c h (by omega)
  have J0:(c.drop (32 * s.du * s.k)).length=32 * s.dv:=by rw [List.length_drop]; omega
  refine aB (UY s.du s.k (by omega) (by omega) (by omega) xc c (by omega) (by omega) _ (hc.aE H.mod)) ?_
  rintro _ w9 ⟨yu,rfl,hyu⟩
  obtain ⟨f1,H1⟩:=H.g9 hyu
  have pu:=Ys (d:=s.du) (many:=s.k) (by omega) (by omega) (b:=c) (by omega)
  have pv:=Ys (d:=s.dv) (many:=1) (by omega) (by omega) (b:=c.drop (32 * s.du * s.k)) (by omega)
  have lu:=Q9 s.du s.k c
  have lv:=Q9 s.dv 1 (c.drop (32 * s.du * s.k))
  refine bV ⟨H.j0 0 rfl hyu.mod 4,aB (UY s.dv 1 (by omega) (by omega) (by omega) zc _ (by omega) (by omega) _ (kc _ (hc.aE H1.mod))) ?_⟩
  rintro _ cJ ⟨yv,rfl,hyv⟩
  obtain ⟨f2,H⟩:=H1.g9 hyv
  have H:=H.drew
  have Ju:=Xw dU
  have lT:=QK 12 s.k b
  have eC:B0 s b c=lq 1 (EA s b c):=by unfold B0; rfl
  have eW:EA s b c=Jt ((rO s.dv 1 (c.drop (32 * s.du * s.k))).getD 0 []) (qB (qG (gF 12 s.k b) (mX (rO s.du s.k c)))):=rfl
  rw [eC]
  clear eC
  generalize rO s.dv 1 (c.drop (32 * s.du * s.k))=SV at *
  generalize rO s.du s.k c=SU at *
  generalize gF 12 s.k b=T at *
  have hV:fK cJ.drew yv SV:=H.box 3 rfl
  refine bV (hV.ld (i:=0) (by omega) rfl fun v0 hv0=>aB (Hu yu SU (by omega) pu _ (H.box 2 rfl)) ?_)
  rintro _ cY ⟨yo,rfl,FY⟩
  obtain ⟨f3,H⟩:=H.g9 FY
  have lo:=DJ SU
  refine bV ⟨hV.kept (i:=0) (by omega) FY.mod,aB (Hr yt yo T (mX SU) (by omega) (by omega) (by omega) Ju (HZ pu) _ (H.box 1 rfl) (H.box 4 rfl)) ?_⟩
  rintro _ fP ⟨d1,rfl,qQ,kI⟩
  have H:=H.cF kI qQ
  refine bV ⟨(hV.aE FY.mod).kept (i:=0) (by omega) kI,aB (N0 d1 _ (IA _ _ (by omega)) _ qQ.dH) ?_⟩
  rintro _ fE ⟨d2,rfl,sv,jq⟩
  have H:=H.cF jq sv
  have mm:=FY.mod.trans (kI.trans jq)
  refine bV ⟨(hV.aE (FY.mod.trans kI)).kept (i:=0) (by omega) jq,aB (aho v0 d2 _ _ (pv.get (by omega)) (Q5 _) _ (hv0.aE mm) sv.dH) ?_⟩
  rintro _ fQ ⟨d3,rfl,vO,p8⟩
  have H:=H.cF p8 vO
  rw [← eW] at vO
  have pW:Pq (EA s b c):=Yl _ _
  refine bV (aB (M7 1 (by omega) (by omega) d3 _ pW.len _ vO.dH) ?_)
  rintro _ jT ⟨z,rfl,hz,vN⟩
  have H:=H.cF vN hz
  exact bV (jy.yes (H.fN 8 rfl) H.mod)
end Go.Proofs.YtgjoehgomjgckaaGreatDoor
end
section
set_option linter.unusedVariables false
set_option linter.unusedSimpArgs false
namespace Go.Ev
open Go Go.RowKit
theorem Own.shrink {w:World} {lo:Nat} {e:TypeId} {sz:Nat} {s:ah} {vs:List Value} (h:Own w lo e sz s vs) (k:Nat) (hk:k≤s.n):Own w lo e sz ⟨s.a,k,s.c⟩ (vs.take (k * sz)):=by
 obtain ⟨a,n,c⟩:=s
 obtain ⟨hl,h1 | ⟨g,cap,cur,h1,h2,h3,h4,h5,h6,h7⟩⟩:=h
 ·obtain ⟨h1,h2⟩:=h1
  simp only [ah.v,Value.slice.injEq] at h1
  obtain ⟨rfl,rfl,rfl⟩:=h1
  have hk0:k=0:=by simpa using hk
  subst hk0
  rw [Nat.zero_mul,List.take_zero]
  exact Own.nil w lo e sz
 ·simp only [ah.v,Value.slice.injEq] at h1
  obtain ⟨rfl,hn,rfl⟩:=h1
  have fG:k≤n:=hk
  refine ⟨?_,.inr ⟨g,c,cur,rfl,h2,h3,Nat.le_trans fG h4,h5,h6,?_⟩⟩
  ·rw [List.length_take,hl]
   exact Nat.min_eq_left (Nat.mul_le_mul_right _ fG)
  ·rw [← h7,List.take_take]
   congr 1
   exact (Nat.min_eq_left (Nat.mul_le_mul_right _ fG)).symm
end Go.Ev
namespace Go.Proofs.YtgjoehgomjgckaaGreatDoor
open Go Go.Ev
set_option maxRecDepth 20000
set_option linter.unusedVariables false
theorem acD {A:Type} (ls:List (List A)) (i:Nat) (h:i<ls.length):(ls.take (i+1)).flatten.length=(ls.take i).flatten.length+(ls.getD i []).length:=by
 rw [kT _ _ h [],List.flatten_append,List.length_append]; simp
theorem WR {A:Type} {l:List (List A)} {i:Nat} (hi:i<l.length):l.getD i []∈l:=by
 rw [List.getD_eq_getElem?_getD,List.getElem?_eq_getElem hi]; exact List.getElem_mem hi
theorem Yt:e6 Pr bJ bh 1 1:=.of (by kernel_rfl)
theorem ajY:Pr.underlying bG=some (.int .i64):=by kernel_rfl
theorem ab4 (n:Nat) (hn:n≤1000000) (w:World):Ok Pr KG [.slice none 0 0,.int .i64 (n:Int)] w fun v w'=>∃ y:ah,v=.slice y.a y.n y.c∧Own w' w.heap.size bh 1 y []∧Mod [] w w':=by
 refine abX (s:=⟨none,0,0⟩) ?_
 unfold KI
 refine ku fun go bZ=>ite_false (decide_eq_false (by omega)) (bZ w ⟨⟨by decide,by decide⟩,⟨by show _≤(n:Int) - (0 - 0); omega,by show (n:Int) - (0 - 0)≤_; omega⟩,tu ?_⟩)
 refine bU (fun hc=>?_) (fun hc=>?_)
 ·refine ⟨⟨by decide,by decide⟩,?_⟩
  have H:=(ak.start w).iZ bh 1
  refine H.anh (s:=⟨none,0,0⟩) (q:=.i64) (m:=n) (v:=.int .u8 0) (vs:=[]) 0 Yt ajY (by kernel_rfl) rfl rfl (by show (n:Int) - (0 - 0)=n; omega) (by show (0+n) * 1≤_; omega) (by show 0+n≤_; omega) fun y w2 H2 hy=>?_
  refine ⟨⟨by decide,by show (0:Int)≤(y.c:Int); omega⟩,⟨y.a,0,y.c⟩,rfl,?_,H2.mod⟩
  have:=(H2.fN 0 rfl).shrink 0 (Nat.zero_le _)
  simpa using this
 ·exact ⟨⟨none,0,0⟩,rfl,Own.nil _ _ _ _,Mod.refl _ _⟩
theorem abY (x:ah) (ls:List (List B8)) (hl:ls.length≤1000) (FU:∀ i,(ls.take i).flatten.length≤1000000) (hb:∀ l∈ls,l.length≤1000000) (w:World) (hx:eY w [] x ls):Ok Pr Kz [.slice x.a x.n x.c] w fun v w'=>nG w w' v ls.flatten:=by
 refine abT ?_
 unfold KB
 have bT:=hx.len
 refine kX 0 ls.length (fun i (s:Int) w'=>s=((ls.take i).flatten.length:Int)∧w'=w) rfl (by omega) ⟨rfl,rfl⟩ ?_ ?_
 ·rintro again i _ w1 _ hi ⟨rfl,hw⟩ aM
  subst hw
  refine ite_true (decide_eq_true (by omega)) (hx.ld hi fun y hy _=>?_)
  have jS:=hy.len
  have h1:=FU i
  have h2:=hb _ (WR hi)
  have h3:=acD ls i hi
  exact ⟨⟨by omega,by omega⟩,ite_false (decide_eq_false (by omega)) ⟨⟨by omega,by omega⟩,aM _ _ ⟨by omega,rfl⟩⟩⟩
 ·rintro again _ w1 ⟨rfl,hw⟩
  subst hw
  rw [List.take_of_length_le (Nat.le_refl _)]
  have h1:=FU ls.length
  rw [List.take_of_length_le (Nat.le_refl _)] at h1
  refine ite_false (decide_eq_false (by omega)) (aB (ab4 _ (by omega) _) ?_)
  rintro _ w2 ⟨y,rfl,hy,m2⟩
  have H:=(ak.start w1).cF m2 hy
  refine bV ?_
  refine kX 0 ls.length (fun i (s:ah) w'=>ak w1 [] w' [.row bh 1 s (bp (ls.take i).flatten)]) rfl (by omega) H ?_ ?_
  ·intro mu i s w3 _ hi H aM
   have dS:=(H.bytes 0 rfl).len
   refine ite_true (decide_eq_true (by omega)) ((hx.mod H.mod).ld hi fun z hz _=>?_)
   have pT:=hz.len
   have h2:=FU i
   have h3:=hb _ (WR hi)
   refine H.uV 0 Yt rfl hz (by omega) fun s' w4 H _=>⟨⟨by omega,by omega⟩,aM s' w4 ?_⟩
   rw [kT _ _ hi [],List.flatten_append]
   simpa using H
  ·intro mu s w3 H
   rw [List.take_of_length_le (Nat.le_refl _)] at H
   exact ite_false (decide_eq_false (by omega)) ⟨s,rfl,H.fN 0 rfl,H.mod⟩
end Go.Proofs.YtgjoehgomjgckaaGreatDoor
end
section
set_option linter.unusedVariables false
set_option linter.unusedSimpArgs false
namespace Go.Ev
open Go Go.RowKit
set_option linter.unusedVariables false
def Cut (w:World) (y:ah) (l:List B8):Prop:=(y=⟨none,0,0⟩∧l=[])∨∃ g cur t,y.a=some ⟨g,0,none⟩∧bW w g cur t∧y.n=l.length∧y.n≤y.c∧(y.c≤maxLen∧t=Go.Proofs.YtgjoehgomjgckaaGreatDoor.bh∧(y.c=y.n∧y.c≤cur.length∨y.c=cur.length))∧cur.take y.n=bp l
theorem Cut.bytes {w:World} {y:ah} {l:List B8} (h:Cut w y l):Bytes w y l:=by
 rcases h with ⟨rfl,rfl⟩ | ⟨g,cur,t,h1,h2,h3,h4,h5,h6⟩
 ·exact Sl.nil w 1
 ·refine ⟨by rw [yH]; omega,h4,fun _=>by rw [h1]; rfl,fun i v hv=>?_⟩
  show w.cell? (Addr.add (base y.a) i)=some v
  rw [h1]
  show w.cell? (Addr.add ⟨g,0,none⟩ i)=some v
  rw [s8,Nat.zero_add,h2.cell]
  rw [← h6,List.getElem?_take] at hv
  split at hv
  ·exact hv
  ·cases hv
def aD.cut (y:ah) (l:List B8):aD where
 fp:=y.row
 ok w:=Cut w y l
 kD w w' h k:=by
  rcases k with k | ⟨g,cur,t,h1,h2,h3⟩
  ·exact .inl k
  ·exact .inr ⟨g,cur,t,h1,(h g (by simp [ah.row,h1])).trans h2,h3⟩
 lt w h b hb:=by
  rcases h with ⟨rfl,_⟩ | ⟨g,cur,t,h1,h2,_⟩
  ·simp [ah.row] at hb
  ·simp only [ah.row,h1,List.mem_singleton] at hb
   subst hb
   exact h2.lt
theorem ak.Zq {w0 w:World} {S:List Nat} {L:List aD} (H:ak w0 S w L) (k:Nat) {y:ah} {l:List B8} (hk:L[k]? = some (.row Go.Proofs.YtgjoehgomjgckaaGreatDoor.bh 1 y (bp l))) (n:Nat) (hn:0<n) (Tj:n≤l.length):ak w0 S w (L.set k (.cut ⟨y.a,n,n⟩ (l.take n))):=by
 refine H.less k hk ?_ (fun b hb=>hb)
 obtain ⟨hl,h1 | ⟨g,cap,cur,h1,h2,h3,h4,h5,h6,h7⟩⟩:=H.ok k _ hk
 ·have:=h1.2
  rw [this,yH] at hl
  omega
 ·simp only [ah.v,Value.slice.injEq] at h1
  rw [yH] at hl
  have hy:y.a=some ⟨g,0,none⟩:=h1.1
  refine .inr ⟨g,cur.toList,Go.Proofs.YtgjoehgomjgckaaGreatDoor.bh,hy,h3,?_,Nat.le_refl _,⟨by show n≤_; omega,rfl,.inl ⟨rfl,by show n≤cur.toList.length; rw [Array.length_toList]; omega⟩⟩,?_⟩
  ·show n=_
   rw [List.length_take]; omega
  ·show cur.toList.take n=_
   rw [← Ip,← h7,List.take_take,Nat.min_eq_left (by omega)]
theorem ak.Em {w0 w:World} {S:List Nat} {L:List aD} (H:ak w0 S w L) (k:Nat) {y:ah} {l:List B8} (hk:L[k]? = some (.row Go.Proofs.YtgjoehgomjgckaaGreatDoor.bh 1 y (bp l))):ak w0 S w (L.set k (.cut y l)):=by
 refine H.less k hk ?_ (fun b hb=>hb)
 obtain ⟨hl,h1 | ⟨g,cap,cur,h1,h2,h3,h4,h5,h6,h7⟩⟩:=H.ok k _ hk
 ·obtain ⟨h1,h2⟩:=h1
  rw [h2,yH] at hl
  obtain ⟨a,n,c⟩:=y
  simp only [ah.v,Value.slice.injEq] at h1
  obtain ⟨rfl,rfl,rfl⟩:=h1
  exact .inl ⟨rfl,List.length_eq_zero_iff.1 (by omega)⟩
 ·simp only [ah.v,Value.slice.injEq] at h1
  rw [yH,Nat.mul_one] at hl
  have hy:y.a=some ⟨g,0,none⟩:=h1.1
  refine .inr ⟨g,cur.toList,Go.Proofs.YtgjoehgomjgckaaGreatDoor.bh,hy,h3,hl.symm,by rw [h1.2.2]; exact h4,⟨by rw [h1.2.2]; exact h5,rfl,.inr (by rw [h1.2.2,Array.length_toList]; omega)⟩,?_⟩
  rw [← h7,Nat.mul_one]
end Go.Ev
namespace Go.Proofs.YtgjoehgomjgckaaGreatDoor
open Go Go.Ev
set_option maxRecDepth 20000
set_option linter.unusedVariables false
theorem AW (e:Value) (c d:Int) (w:World) (h:gm w e c):Ok Pr AY [e,.iface qq (.int .i64 d)] w fun v w'=>v=.bool (decide (c=d) && !decide (c=0))∧w'=w:=by
 rcases h with ⟨rfl,rfl⟩ | ⟨b,s,rfl,hb,hc⟩
 ·refine Calls.mono (ahJ d w) ?_
  rintro _ _ ⟨rfl,rfl⟩
  exact ⟨_,rfl,by simp,rfl⟩
 ·have nt:w.cell? ⟨b,0,none⟩=some (.int .i64 c):=by rw [hb.cell]; rfl
  by_cases vq:c=d
  ·subst vq
   refine Calls.mono (XR b c w nt) ?_
   rintro _ _ ⟨rfl,rfl⟩
   exact ⟨_,rfl,by simp [hc],rfl⟩
  ·refine Calls.mono (ag8 b c d vq w nt) ?_
   rintro _ _ ⟨rfl,rfl⟩
   exact ⟨_,rfl,by simp [vq],rfl⟩
theorem Dq (c:Int) (hc:c≠0) (w:World):Ok Pr mP [.int .i64 c] w fun v w'=>cO w w' v c∧Mod [] w w':=by
 refine afb ?_
 unfold O7
 exact qv fun b w' hb h1 h2 _=>⟨cO.mk h1 (by omega) hc,h2⟩
theorem BA {w w1 w2:World} {e:Value} {c:Int} (h:cO w1 w2 e c) (m:Mod [] w w1):cO w w2 e c:=⟨h.1,fun b hb=>by
 have:=h.2 b hb
 have:=m.size
 omega⟩
def oP (set:Int):Nat:=if isSet set=true then iA set+jo set+64 else 0
theorem Aw {set:Int} (h:isSet set=true):iA set=384 * (dD set).k+32∧jo set=384 * (dD set).k∧oP set=768 * (dD set).k+96∧nU set=32 * ((dD set).du * (dD set).k+(dD set).dv):=by
 have hA:iA set=384 * (dD set).k+32:=by unfold iA; rw [if_pos h]
 have hB:jo set=384 * (dD set).k:=rfl
 refine ⟨hA,hB,?_,rfl⟩
 unfold oP
 rw [if_pos h,hA,hB]; omega
theorem szN {set:Int} (h:isSet set=false):iA set=0∧jo set=0∧oP set=0∧nU set=0:=by
 have hk:=noK h
 refine ⟨by unfold iA; rw [h]; rfl,by unfold jo; simp [hk],by unfold oP; rw [h]; rfl,by unfold nU; simp [hk]⟩
theorem Vz (set:Int) (w:World):Ok Pr Hj [.int .i64 set] w fun v w'=>v=.tuple ⟨[.int .i64 (iA set:Int),.int .i64 (oP set:Int),.int .i64 (nU set:Int)]⟩∧Mod [] w w':=by
 refine afa ?_
 unfold O6
 refine aB (Hg set w) ?_
 rintro _ w1 ⟨rfl,m1⟩
 refine ⟨_,rfl,_,rfl,_,rfl,_,rfl,rfl,?_⟩
 cases cG:isSet set with
 | false=>
  obtain ⟨h1,h2,h3,h4⟩:=szN cG
  rw [h1,h3,h4]
  exact ite_true rfl ⟨rfl,m1⟩
 | true=>
  obtain ⟨h1,h2,h3,h4⟩:=Aw cG
  have hk:=(nk cG).k
  refine ite_false (decide_eq_false (by omega)) ⟨⟨by omega,by omega⟩,⟨by omega,by omega⟩,?_,m1⟩
  rw [show (iA set:Int)+(jo set:Int)+64=(oP set:Int) by omega]
def pO (set:Int) (l:List B8):List B8:=l.take (jo set)
def pS (set:Int) (l:List B8):List B8:=(l.drop (jo set)).take (iA set)
def pH (set:Int) (l:List B8):List B8:=(l.drop (iA set+jo set)).take 32
def pR (set:Int) (l:List B8):List B8:=l.drop (iA set+jo set+32)
theorem alY:zc Pr q9=[.slice none 0 0,.slice none 0 0,.slice none 0 0,.slice none 0 0]:=by kernel_rfl
theorem VA (set:Int) (cG:isSet set=true) (x:ah) (hn:x.n=oP set) (hc:x.n≤x.c) (w:World):Ok Pr Hl [.int .i64 set,.slice x.a x.n x.c] w fun v w'=>∃ x0 x1 x2 x3:ah,v=.agg ⟨[.slice x0.a x0.n x0.c,.slice x1.a x1.n x1.c,.slice x2.a x2.n x2.c,.slice x3.a x3.n x3.c]⟩∧Mod [] w w'∧
  ∀ w2 l,Bytes w2 x l→Bytes w2 x0 (pO set l)∧Bytes w2 x1 (pS set l)∧Bytes w2 x2 (pH set l)∧Bytes w2 x3 (pR set l):=by
 refine afc ?_
 unfold O8
 rw [alY]
 obtain ⟨h1,h2,h3,h4⟩:=Aw cG
 have hk:=(nk cG).k
 refine (ak.start w).nw fun p w1 H _=>aB (Hg set w1) ?_
 rintro _ w2 ⟨rfl,m2⟩
 have H:=(H.frame m2).drew
 refine ⟨_,rfl,_,rfl,_,rfl,_,rfl,rfl,ID (jo set) rfl (by omega) fun x0 n0 k0=>⟨⟨by omega,by omega⟩,Xv (jo set) (iA set+jo set) rfl (by omega) (by omega) (by omega) fun x1 n1 k1=>⟨⟨by omega,by omega⟩,⟨by omega,by omega⟩,⟨by omega,by omega⟩,Xv (iA set+jo set) (iA set+jo set+32) (by omega) (by omega) (by omega) (by omega) fun x2 n2 k2=>⟨⟨by omega,by omega⟩,⟨by omega,by omega⟩,y8 (iA set+jo set+32) (by omega) (by omega) fun x3 n3 k3=>?_⟩⟩⟩⟩
 refine H.wE 0 rfl rfl fun w3 H=>H.DE 0 rfl ⟨x0,x1,x2,x3,rfl,H.mod,fun w2 l hl=>?_⟩
 have TL:=hl.len
 refine ⟨k0 w2 l hl (by omega),?_,?_,k3 w2 l hl (by omega)⟩
 ·have:=k1 w2 l hl (by omega)
  rwa [Nat.add_sub_cancel] at this
 ·have:=k2 w2 l hl (by omega)
  rwa [Nat.add_sub_cancel_left] at this
def mJ (set:Int) (n:Nat):Int:=if isSet set=true then (if n=64 then 0 else 3) else 2
@[irreducible] def jr (set:Int) (aq:List B8):List B8:=if mJ set aq.length=0 then p7 set (aq.take 32) else []
@[irreducible] def tZ (set:Int) (aq:List B8):List B8:=if mJ set aq.length=0 then vM set (aq.take 32) ++ p7 set (aq.take 32) ++ eZ 136 6 (p7 set (aq.take 32)) 32 ++ aq.drop 32 else []
theorem alZ {set:Int} (cG:isSet set=true) {d:List B8} (hd:d.length=32):tW set d.length=0∧(p7 set d).length=iA set∧(vM set d).length=jo set:=by
 have hc:tW set d.length=0:=by unfold tW; rw [if_pos cG,if_pos hd]
 obtain ⟨h1,h2,h3,h4⟩:=Aw cG
 have hg:(gK (dD set) d).length=64:=sV 72 6 _ 64 (by omega)
 refine ⟨hc,?_,?_⟩
 ·unfold p7; rw [if_pos hc,aiX (nk cG) hg,h1]
 ·unfold vM; rw [if_pos hc,aiY (nk cG) hg,h2]
theorem ahx (set:Int) (x:ah) (aq:List B8) (w:World) (hx:Bytes w x aq) :
  Ok Pr PD [.int .i64 set,.slice x.a x.n x.c] w fun v w'=>∃ (y z:ah) (er:Value),v=.tuple ⟨[.slice y.a y.n y.c,.slice z.a z.n z.c,er]⟩∧
   ak w [] w' [.row bh 1 y (bp (jr set aq)),.row bh 1 z (bp (tZ set aq)),aD.err er (mJ set aq.length)]:=by
 refine agc ?_
 unfold P3
 rw [wQ]
 have bT:=hx.len
 have tQ:=hx.cap
 have hC:mJ set aq.length=if isSet set=true then (if aq.length=64 then 0 else 3) else 2:=rfl
 have hV:jr set aq=if mJ set aq.length=0 then p7 set (aq.take 32) else []:=by unfold jr; rfl
 have hS:tZ set aq=if mJ set aq.length=0 then vM set (aq.take 32) ++ p7 set (aq.take 32) ++ eZ 136 6 (p7 set (aq.take 32)) 32 ++ aq.drop 32 else []:=by unfold tZ; rfl
 generalize jr set aq=V at *
 generalize tZ set aq=K at *
 generalize mJ set aq.length=C at *
 refine aB (yQ set w) ?_
 rintro _ w1 ⟨rfl,m1⟩
 have H:=(ak.start w).frame m1
 refine ⟨_,rfl,y9 ⟨_,rfl,rfl,H.nw fun p w2 H _=>H.iY 0 rfl rfl fun w3 H=>?_⟩⟩
 have no:∀ (c:Int),c≠0→C=c→ay Pr mP [.int .i64 c] w3 fun FV w4=>∃ (y z:ah) (er:Value),Value.tuple ⟨[.slice none 0 0,.slice none 0 0,FV]⟩=.tuple ⟨[.slice y.a y.n y.c,.slice z.a z.n z.c,er]⟩∧
   ak w [] w4 [.row bh 1 y (bp V),.row bh 1 z (bp K),aD.err er C]:=by
  intro c hc gY
  rw [gY] at hV hS
  rw [if_neg hc] at hV hS
  subst hV hS
  refine aB (Dq c hc w3) ?_
  rintro e w4 ⟨h,m4⟩
  rw [gY]
  exact ⟨⟨none,0,0⟩,⟨none,0,0⟩,e,rfl,((((ak.start w).iZ bh 1).iZ bh 1).frame H.mod).gG m4 h⟩
 cases cG:isSet set with
 | false=>
  rw [cG,if_neg (by decide)] at hC
  exact ite_true rfl (no 2 (by decide) hC)
 | true=>
  rw [cG,if_pos rfl] at hC
  refine ite_false rfl ?_
  by_cases gV:aq.length=64
  case neg=>
   rw [if_neg gV] at hC
   exact ite_true (by rw [decide_eq_false (show ¬ ((x.n:Nat):Int)=64 by omega)]; rfl) (no 3 (by decide) hC)
  rw [if_pos gV] at hC
  clear no
  subst hC
  rw [if_pos rfl] at hV hS
  subst hV hS
  have kG:(aq.take 32).length=32:=by rw [List.length_take]; omega
  obtain ⟨c0,lA,lB⟩:=alZ cG kG
  obtain ⟨h1,h2,h3,h4⟩:=Aw cG
  have hk:=(nk cG).k
  refine ite_false (by rw [decide_eq_true (show ((x.n:Nat):Int)=64 by omega)]; rfl) (ID 32 rfl (by omega) fun xd nd kd=>aB (ahv set xd (aq.take 32) (by omega) w3 (kd _ aq (hx.aE H.mod) (by omega))) ?_)
  rw [c0]
  rintro _ w6 ⟨y,z,er,rfl,D⟩
  have H:=(H.join D).drew
  have he:=D.err 2 rfl
  generalize p7 set (aq.take 32)=A at *
  generalize vM set (aq.take 32)=B at *
  refine ⟨_,rfl,y,rfl,z,rfl,rfl,he.isNil (ite_false rfl (y8 32 rfl (by omega) fun xr nr kr=>H.nw fun p1 w7 H _=>?_))⟩
  refine aB (LC ⟨some ⟨p1,0,none⟩,1,1⟩ [A] _ (eY.JF (H.av 4 rfl) (by simp) (H.bytes 1 rfl) (jX _)) (RH rfl (by omega))) ?_
  rintro _ w8 ⟨g,rfl,hg,m8⟩
  rw [show [A].flatten=A by simp] at hg
  have hgl:=sV 136 6 A 32 (by omega)
  rw [show ((32:Nat):Int)=32 from rfl] at hgl
  have H:=H.cF m8 hg
  refine bV (H.nw fun p2 w9 H _=>?_)
  generalize hR:eZ 136 6 A 32=R at *
  refine aB (abY ⟨some ⟨p2,0,none⟩,4,4⟩ [B,A,R,aq.drop 32] (by show 4≤1000; omega) (fun i=>?_) (fun l hl=>?_) _ ?_) ?_
  ·have e:(([B,A,R,aq.drop 32]:List (List B8)).take i).flatten.length≤([B,A,R,aq.drop 32]:List (List B8)).flatten.length:=by
    conv=>rhs; rw [← List.take_append_drop i [B,A,R,aq.drop 32],List.flatten_append,List.length_append]
    omega
   refine Nat.le_trans e ?_
   simp only [List.flatten_cons,List.flatten_nil,List.length_append,List.length_nil,List.length_drop]
   omega
  ·simp only [List.mem_cons,List.not_mem_nil,or_false] at hl
   have J0:(aq.drop 32).length=32:=by rw [List.length_drop]; omega
   rcases hl with rfl | rfl | rfl | rfl <;> omega
  ·refine eY.ofs (ss:=[z,y,g,xr]) (H.av 6 rfl) (by simp) rfl fun i s l hs hl=>?_
   match i with
   | 0=>simp at hs hl; subst hs hl; exact ⟨H.bytes 2 rfl,jX _⟩
   | 1=>simp at hs hl; subst hs hl; exact ⟨H.bytes 1 rfl,jX _⟩
   | 2=>simp at hs hl; subst hs hl; exact ⟨H.bytes 5 rfl,jX _⟩
   | 3=>simp at hs hl; subst hs hl; exact ⟨kr _ aq (hx.aE H.mod) (by omega),jX _⟩
   | k+4=>simp at hs
  rintro _ cJ ⟨u,rfl,hu,FZ⟩
  have eU:[B,A,R,aq.drop 32].flatten=B ++ A ++ R ++ aq.drop 32:=by simp
  rw [eU] at hu
  have H:=H.cF FZ hu
  exact bV ⟨y,u,.nilIface,rfl,(H.two 1 7 rfl rfl (by omega)).gG (Mod.refl _ _) (qw _ _)⟩
theorem UZ (set:Int) (x:ah) (b:List B8) (w:World) (hx:Bytes w x b):Ok Pr G0 [.int .i64 set,.slice x.a x.n x.c] w fun v w'=>cO w w' v (iB set b)∧Mod [] w w':=by
 refine adN ?_
 unfold M4
 refine aB (Wh set x b w hx) ?_
 rintro e w1 ⟨he,m1⟩
 have jm:iB set b=0∨iB set b=2∨iB set b=3∨iB set b=4:=by
  unfold iB
  split
  ·split
   ·split
    ·exact .inl rfl
    ·exact .inr (.inr (.inr rfl))
   ·exact .inr (.inr (.inl rfl))
  ·exact .inr (.inl rfl)
 generalize iB set b=c at *
 refine aB (AW e c 2 w1 he.1) ?_
 rintro _ w2 ⟨rfl,hw⟩
 subst hw
 have fault:∀ d:Int,d≠0→ay Pr mP [.int .i64 d] w2 fun v w3=>cO w w3 v d∧Mod [] w w3:=fun d hd=>by
  refine aB (Dq d hd w2) ?_
  rintro v w3 ⟨h,m⟩
  exact ⟨BA h m1,m1.trans m⟩
 rcases jm with rfl | rfl | rfl | rfl
 ·refine bk (ite_false rfl (aB (AW e 0 3 w2 he.1) ?_))
  rintro _ w4 ⟨rfl,hw⟩
  subst hw
  refine bk (ite_false rfl (aB (AW e 0 4 w4 he.1) ?_))
  rintro _ w6 ⟨rfl,hw⟩
  subst hw
  exact bk (ite_false rfl ⟨he,m1⟩)
 ·exact bk (ite_true rfl (fault 2 (by decide)))
 ·refine bk (ite_false rfl (aB (AW e 3 3 w2 he.1) ?_))
  rintro _ w4 ⟨rfl,hw⟩
  subst hw
  exact bk (ite_true rfl (fault 3 (by decide)))
 ·refine bk (ite_false rfl (aB (AW e 4 3 w2 he.1) ?_))
  rintro _ w4 ⟨rfl,hw⟩
  subst hw
  refine bk (ite_false rfl (aB (AW e 4 4 w4 he.1) ?_))
  rintro _ w6 ⟨rfl,hw⟩
  subst hw
  exact bk (ite_true rfl (fault 4 (by decide)))
end Go.Proofs.YtgjoehgomjgckaaGreatDoor
end
section
set_option linter.unusedVariables false
set_option linter.unusedSimpArgs false
namespace Go.Proofs.YtgjoehgomjgckaaGreatDoor
open Go Go.Ev
set_option maxRecDepth 100000
set_option linter.unusedVariables false
def M8 (b:ah) (ns:ah) (w:World) (R:Value→World→Prop):Prop:=
 ay Pr sM [.slice b.a b.n b.c] w fun a c=>
 aT a fun d=>
 iq (fun (e:ah) (f:Int)=>[(0,some (.slice e.a e.n e.c)),(12,some (.int .i64 f))])
 (fun g e f i=>aA (decide (f<(ns.n:Int)))
 (aQ ns.a f ns.n
 (an .i64 (Addr.add (base ns.a) (Int.toNat f * 1)) i fun j=>
 iq (fun (k:ah) (l:Int)=>[(0,some (.slice k.a k.n k.c)),(7,some (.int .i64 l))])
 (fun m k l n=>aA (decide (0≤l))
 (gT l (nw bh [.int .u8 (IntKind.wrap .u8 (shr .u64 (IntKind.wrap .u64 (j)) l))] n fun o p=>
 cH Pr [bJ,bJ] bJ [.slice k.a k.n k.c,.slice (some o) 1 1] p fun q s=>
 (aF (l - 8)∧
 m q (l - 8) s)))
 ((aF (f+1)∧
 g k (f+1) n)))
 e 56 i))
 (R (.slice e.a e.n e.c) i))
 d 0 c
theorem adQ {b:ah} {ns:ah} {w:World} {R:Value→World→Prop} (h:M8 b ns w R):Ok Pr GZ [.slice b.a b.n b.c,.slice ns.a ns.n ns.c] w R:=
 aL (m:=⟨true,true⟩) (J:=[]) (L:=[(3,[(0,.sl),(12,.int .i64)]),(6,[(0,.sl),(7,.int .i64)])]) aJ Tryz.func165 (by kernel_rfl) ((by kernel_rfl:aK Pr _ _ _ Tryz.f165 _ w R=M8 b ns w R).mpr h)
def N5 (b:ah) (parts:ah) (w:World) (R:Value→World→Prop):Prop:=
 ay Pr sM [.slice b.a b.n b.c] w fun a c=>
 aT a fun d=>
 iq (fun (e:ah) (f:Int)=>[(0,some (.slice e.a e.n e.c)),(11,some (.int .i64 f))])
 (fun g e f i=>aA (decide (f<(parts.n:Int)))
 (aQ parts.a f parts.n
 (ax (Addr.add (base parts.a) (Int.toNat f * 1)) i fun j=>
 nw bG [.int .i64 (j.n:Int)] i fun k l=>
 ay Pr GZ [.slice e.a e.n e.c,.slice (some k) 1 1] l fun m n=>
 aT m fun o=>
 cH Pr [bJ,bJ] bJ [.slice o.a o.n o.c,.slice j.a j.n j.c] n fun p q=>
 (aF (f+1)∧
 g p (f+1) q)))
 (R (.slice e.a e.n e.c) i))
 d 0 c
theorem aey {b:ah} {parts:ah} {w:World} {R:Value→World→Prop} (h:N5 b parts w R):Ok Pr AR [.slice b.a b.n b.c,.slice parts.a parts.n parts.c] w R:=
 aL (m:=⟨true,true⟩) (J:=[]) (L:=[(3,[(0,.sl),(11,.int .i64)])]) aJ Tryz.func167 (by kernel_rfl) ((by kernel_rfl:aK Pr _ _ _ Tryz.f167 _ w R=N5 b parts w R).mpr h)
end Go.Proofs.YtgjoehgomjgckaaGreatDoor
end
section
set_option linter.unusedVariables false
set_option linter.unusedSimpArgs false
namespace Go.Proofs.YtgjoehgomjgckaaGreatDoor
open Go Go.Ev
set_option linter.unusedVariables false
theorem ah6:Pr.underlying yU=some .string:=by kernel_rfl
theorem Uu (x:ah) (l:List B8) (hl:l.length≤1000000000) (w:World) (hx:Bytes w x l):Ok Pr sM [.slice x.a x.n x.c] w fun v w'=>nG w w' v l:=by
 refine Uq ?_
 unfold GC
 have bT:=hx.len
 refine bU (fun h=>?_) (fun h=>?_)
 ·have h0:x.n=0:=by
   rcases Nat.eq_zero_or_pos x.n with e | e
   ·exact e
   ·have:=Sl.pre hx e
    cases ha:x.a with
    | none=>rw [ha] at this; cases this
    | some a=>rw [ha] at h; cases h
  obtain rfl:l=[]:=List.eq_nil_of_length_eq_zero (by omega)
  exact ⟨⟨none,0,0⟩,rfl,Own.nil _ _ _ _,Mod.refl _ _⟩
 ·refine (ak.start w).nw fun p w1 H _=>?_
  have H:=H.rz 0 1 0 0 rfl rfl (Nat.le_refl _) (by simp only [maxLen]; omega)
  refine H.uV (s:=⟨some ⟨p,0,none⟩,0,0⟩) (vs:=[]) 0 iG rfl (hx.aE H.mod) (by show 0+x.n≤_; omega) fun y w2 H hy=>?_
  exact ⟨y,rfl,H.fN 0 rfl,H.mod⟩
def be (n:Int):List B8:=(List.range 8).map fun k=>((BitVec.ofInt 64 n:aI) >>> (56 - 8 * k)).setWidth 8
def iU (ns:List Int):List B8:=(ns.map be).flatten
theorem Ih (n:Int):(be n).length=8:=by simp [be]
theorem Qj (ns:List Int):(iU ns).length=8 * ns.length:=by
 induction ns with
 | nil=>rfl
 | cons a r ih=>
  show ((be a) ++ iU r).length=_
  rw [List.length_append,Ih,ih,List.length_cons]
  omega
theorem ah7 (a b:List Int):iU (a ++ b)=iU a ++ iU b:=by simp [iU]
theorem agS (n:Int):IntKind.wrap .u64 n=((BitVec.ofInt 64 n).toNat:Int):=by
 rw [wrap_u64,BitVec.toNat_ofInt]
 omega
theorem ak7 (n:Int) (k:Nat) (hk:k<8) (s:Int) (hs:s=((56 - 8 * k:Nat):Int)):IntKind.wrap .u8 (shr .u64 (IntKind.wrap .u64 n) s)=(((be n).getD k 0).toNat:Int):=by
 subst hs
 rw [agS,zx,aak]
 simp [be,hk]
theorem U0 (x:ah) (l:List B8) (y:ah) (ns:List Int) (hl:l.length≤1000000) (hn:ns.length≤1000000) (w:World) (hx:Bytes w x l) (hy:dQ w y ns) :
  Ok Pr GZ [.slice x.a x.n x.c,.slice y.a y.n y.c] w fun v w'=>nG w w' v (l ++ iU ns):=by
 refine adQ ?_
 unfold M8
 have jS:=hy.len
 refine aB (Uu x l (by omega) w hx) ?_
 rintro _ w1 ⟨z,rfl,hz,m⟩
 have H:=(ak.start w).cF m hz
 refine bV (kX 0 ns.length (fun i (b:ah) w'=>ak w [] w' [.row bh 1 b (bp (l ++ iU (ns.take i)))]) rfl (by omega) (by simpa [iU] using H) ?_ ?_)
 ·intro again i b w2 _ hi H aM
  refine ite_true (decide_eq_true (by omega)) ((hy.aE H.mod).ld hi rfl ?_)
  have xO:iU (ns.take (i+1))=iU (ns.take i) ++ be (ns.getD i 0):=by rw [kT _ _ hi 0,ah7]; simp [iU]
  have jK:=Qj (ns.take i)
  rw [List.length_take,Nat.min_eq_left (by omega)] at jK
  rw [xO] at aM
  generalize ns.getD i 0=n at *
  have Tj:=Ih n
  refine wL (fun (b:ah) (s:Int) w'=>∃ j:Nat,j≤8∧s=56 - 8 * (j:Int)∧ak w [] w' [.row bh 1 b (bp (l ++ iU (ns.take i) ++ (be n).take j))]) (fun _ s _=>(s+8).toNat) ⟨0,by omega,by omega,by simpa using H⟩ ?_
  rintro mu b s w3 ⟨j,hj,rfl,H⟩ jz
  have hb:=(H.bytes 0 rfl).len
  rw [List.length_append,List.length_append,List.length_take,Nat.min_eq_left (by omega)] at hb
  refine bU (fun hc=>?_) (fun hc=>?_)
  ·have hc:=of_decide_eq_true hc
   refine kK (by omega) (H.Ro 0 ((be n).getD j 0) iG rfl (ak7 n j (by omega) _ (by omega)) (by omega) fun b' w4 H _=>⟨⟨by omega,by omega⟩,jz _ _ w4 ⟨j+1,by omega,by omega,?_⟩ (by omega)⟩)
   rw [kT _ _ (by omega) 0,← List.append_assoc]
   exact H
  ·have hc:=of_decide_eq_false hc
   rw [List.take_of_length_le (l:=be n) (by omega),List.append_assoc] at H
   exact ⟨⟨by omega,by omega⟩,aM b w3 H⟩
 ·intro again b w2 H
  rw [List.take_length] at H
  exact ite_false (decide_eq_false (by omega)) ⟨b,rfl,H.fN 0 rfl,H.mod⟩
def laid (p:List B8):List B8:=be (p.length:Int) ++ p
def nv (ps:List (List B8)):List B8:=(ps.map laid).flatten
theorem agT (a b:List (List B8)):nv (a ++ b)=nv a ++ nv b:=by simp [nv]
theorem UQ:∀ (ps:List (List B8)) (k:Nat),(∀ p∈ps,p.length≤k)→(nv ps).length≤ps.length * (k+8)
 | [],_,_=>by simp [nv]
 | p :: r,k,h=>by
  have h1:=UQ r k fun q hq=>h q (List.mem_cons_of_mem _ hq)
  have h2:=h p List.mem_cons_self
  show (laid p ++ nv r).length≤_
  rw [List.length_append,laid,List.length_append,Ih,List.length_cons,Nat.add_mul]
  omega
theorem ak8 (n:Int):iU [n]=be n:=by simp [iU]
theorem _root_.Go.Ev.ak.Yu {w0 w:World} {S:List Nat} {L:List aD} (H:ak w0 S w L) (k:Nat) {b:Nat} {l:List Int} {t:TypeId} (hk:L[k]? = some (.av b (cr l) t)):dQ w ⟨some ⟨b,0,none⟩,l.length,l.length⟩ l:=by
 have:=(H.av k hk).sl 1 l.length l.length (by simp) (Nat.le_refl _)
 rw [Nat.mul_one,List.take_of_length_le (by simp)] at this
 exact this
theorem agk (x:ah) (l:List B8) (y:ah) (ps:List (List B8)) (hl:l.length≤100000) (hn:ps.length≤10) (tU:∀ p∈ps,p.length≤10000) (w:World) (hx:Bytes w x l) (hy:eY w [] y ps) :
  Ok Pr AR [.slice x.a x.n x.c,.slice y.a y.n y.c] w fun v w'=>nG w w' v (l ++ nv ps):=by
 refine aey ?_
 unfold N5
 have jS:=hy.len
 refine aB (Uu x l (by omega) w hx) ?_
 rintro _ w1 ⟨z,rfl,hz,m⟩
 have H:=(ak.start w).cF m hz
 refine bV (kX 0 ps.length (fun i (b:ah) w'=>ak w [] w' [.row bh 1 b (bp (l ++ nv (ps.take i)))]) rfl (by omega) (by simpa [nv] using H) ?_ ?_)
 ·intro again i b w2 _ hi H aM
  have jK:=UQ (ps.take i) 10000 fun p hp=>tU p (List.mem_of_mem_take hp)
  rw [List.length_take] at jK
  have xO:nv (ps.take (i+1))=nv (ps.take i) ++ laid (ps.getD i []):=by rw [kT _ _ hi [],agT]; simp [nv]
  have zX:=tU (ps.getD i []) (by simp [hi])
  rw [xO] at aM
  have arx:min i ps.length * (10000+8)≤10 * (10000+8):=Nat.mul_le_mul_right _ (by omega)
  refine ite_true (decide_eq_true (by omega)) (hy.ld0 H.mod hi fun u hu _=>H.nw fun p w3 H _=>?_)
  have mD:=hu.len
  generalize ps.getD i []=pt at *
  have hbn:=(H.bytes 0 rfl).len
  simp only [List.length_append] at hbn
  refine aB (U0 b _ ⟨some ⟨p,0,none⟩,1,1⟩ [((u.n:Nat):Int)] (by rw [List.length_append]; omega) (by simp) _ (H.bytes 0 rfl) (H.Yu 1 (l:=[((u.n:Nat):Int)]) rfl)) ?_
  rintro _ w4 ⟨q,rfl,hq,m4⟩
  have H:=H.cF m4 hq
  have hql:=hq.bytes.len
  simp only [List.length_append,Qj,List.length_cons,List.length_nil] at hql
  refine bV (H.uV 2 iG rfl (hu.aE H.mod) (by omega) fun b' w5 H _=>⟨⟨by omega,by omega⟩,aM b' w5 ?_⟩)
  have H:=H.only 2 rfl
  rw [ak8,← mD,List.append_assoc,List.append_assoc] at H
  exact H
 ·intro again b w2 H
  rw [List.take_length] at H
  exact ite_false (decide_eq_false (by omega)) ⟨b,rfl,H.fN 0 rfl,H.mod⟩
end Go.Proofs.YtgjoehgomjgckaaGreatDoor
end
section
set_option linter.unusedVariables false
set_option linter.unusedSimpArgs false
namespace Go.Proofs.YtgjoehgomjgckaaGreatDoor
open Go Go.Ev
set_option maxRecDepth 100000
set_option linter.unusedVariables false
def LF (dx:Int) (cW:ah) (cM:ah) (cw:ah) (fh:ah) (fk:ah) (jF:Int) (iC:ah) (gu:ah) (fm:ah) (vR:ah) (vS:ah) (w:World) (R:Value→World→Prop):Prop:=
 nw aN [.int .i64 dx,.slice cW.a cW.n cW.c,.slice cM.a cM.n cM.c,.slice cw.a cw.n cw.c,.slice fh.a fh.n fh.c,.slice fk.a fk.n fk.c] w fun a b=>
 nw aN [.int .i64 jF,.slice iC.a iC.n iC.c,.slice gu.a gu.n gu.c,.slice fm.a fm.n fm.c,.slice vR.a vR.n vR.c,.slice vS.a vS.n vS.c] b fun c d=>
 jZ []
 (fun e=>cZ (fun (f:Int)=>[(5,some (.int .i64 f))])
 (fun g f i=>ax (Addr.add a 4) i fun j=>
 aA (decide (f<(j.n:Int)))
 (ax (Addr.add a 4) (World.drew i) fun k=>
 aQ k.a f k.n
 (bu (Addr.add (base k.a) (Int.toNat f * 4)) (World.drew i) fun l m n o=>
 ax (Addr.add c 4) (World.drew i) fun p=>
 aQ p.a f p.n
 (bu (Addr.add (base p.a) (Int.toNat f * 4)) (World.drew i) fun q s t u=>
 ay Pr Ml [.agg ⟨[.int .i64 l,.int .i64 m,.int .i64 n,.slice o.a o.n o.c]⟩,.agg ⟨[.int .i64 q,.int .i64 s,.int .i64 t,.slice u.a u.n u.c]⟩] (World.drew i) fun v x=>
 aU v fun y=>
 aA (!y)
 (R (.bool false) x)
 ((aF (f+1)∧
 g (f+1) x)))))
 (R (.bool true) i))
 0 e)
 (fun z=>
 an .i64 (Addr.add a 0) d fun A=>
 an .i64 (Addr.add c 0) d fun B=>
 ax (Addr.add a 1) d fun C=>
 ax (Addr.add c 1) d fun D=>
 aA (!decide (A=B))
 (ax (Addr.add a 2) d fun E=>
 ax (Addr.add c 2) d fun F=>
 ax (Addr.add a 3) d fun G=>
 ax (Addr.add c 3) d fun I=>
 ax (Addr.add a 4) d fun J=>
 ax (Addr.add c 4) d fun L=>
 ax (Addr.add a 5) d fun M=>
 ax (Addr.add c 5) d fun N=>
 R (.bool false) d)
 (ay Pr yw [.slice C.a C.n C.c,.slice D.a D.n D.c] d fun O Q=>
 aU O fun S=>
 ax (Addr.add a 2) Q fun T=>
 ax (Addr.add c 2) Q fun U=>
 aA (!S)
 (ax (Addr.add a 3) Q fun V=>
 ax (Addr.add c 3) Q fun X=>
 ax (Addr.add a 4) Q fun Y=>
 ax (Addr.add c 4) Q fun Z=>
 ax (Addr.add a 5) Q fun aa=>
 ax (Addr.add c 5) Q fun ba=>
 R (.bool false) Q)
 (ay Pr KS [.slice T.a T.n T.c,.slice U.a U.n U.c] Q fun ca da=>
 aU ca fun ea=>
 ax (Addr.add a 3) da fun fa=>
 ax (Addr.add c 3) da fun ga=>
 aA (!ea)
 (ax (Addr.add a 4) da fun ia=>
 ax (Addr.add c 4) da fun ja=>
 ax (Addr.add a 5) da fun ka=>
 ax (Addr.add c 5) da fun la=>
 R (.bool false) da)
 (ay Pr Lh [.slice fa.a fa.n fa.c,.slice ga.a ga.n ga.c] da fun ma na=>
 aU ma fun oa=>
 ax (Addr.add a 4) na fun pa=>
 ax (Addr.add c 4) na fun qa=>
 ax (Addr.add a 5) na fun sa=>
 ax (Addr.add c 5) na fun ta=>
 aA ((!oa) || (!decide ((pa.n:Int)=(qa.n:Int))))
 (R (.bool false) na)
 (ay Pr Lj [.slice sa.a sa.n sa.c,.slice ta.a ta.n ta.c] na fun ua va=>
 aU ua fun xa=>
 aA (!xa)
 (R (.bool false) va)
 (z va))))))
theorem acE {dx:Int} {cW:ah} {cM:ah} {cw:ah} {fh:ah} {fk:ah} {jF:Int} {iC:ah} {gu:ah} {fm:ah} {vR:ah} {vS:ah} {w:World} {R:Value→World→Prop} (h:LF dx cW cM cw fh fk jF iC gu fm vR vS w R):Ok Pr Lw [.agg ⟨[.int .i64 dx,.slice cW.a cW.n cW.c,.slice cM.a cM.n cM.c,.slice cw.a cw.n cw.c,.slice fh.a fh.n fh.c,.slice fk.a fk.n fk.c]⟩,.agg ⟨[.int .i64 jF,.slice iC.a iC.n iC.c,.slice gu.a gu.n gu.c,.slice fm.a fm.n fm.c,.slice vR.a vR.n vR.c,.slice vS.a vS.n vS.c]⟩] w R:=
 aL (m:=⟨true,true⟩) (J:=[(3,[])]) (L:=[(4,[(5,.int .i64)])]) aJ Tryz.func12 (by kernel_rfl) ((by kernel_rfl:aK Pr _ _ _ Tryz.f12 _ w R=LF dx cW cM cw fh fk jF iC gu fm vR vS w R).mpr h)
def LG (dx:Int) (cW:Int) (cM:ah) (cw:ah) (jF:Int) (iC:Int) (gu:ah) (fm:ah) (w:World) (R:Value→World→Prop):Prop:=
 nw bD [.int .i64 dx,.int .i64 cW,.slice cM.a cM.n cM.c,.slice cw.a cw.n cw.c] w fun a b=>
 nw bD [.int .i64 jF,.int .i64 iC,.slice gu.a gu.n gu.c,.slice fm.a fm.n fm.c] b fun c d=>
 an .i64 (Addr.add a 0) d fun e=>
 an .i64 (Addr.add c 0) d fun f=>
 an .i64 (Addr.add a 1) d fun g=>
 an .i64 (Addr.add c 1) d fun i=>
 ax (Addr.add a 2) d fun j=>
 ax (Addr.add c 2) d fun k=>
 aA ((decide (e=f)) && (decide (g=i)))
 (ay Pr yw [.slice j.a j.n j.c,.slice k.a k.n k.c] d fun l m=>
 aU l fun n=>
 ax (Addr.add a 3) m fun o=>
 ax (Addr.add c 3) m fun p=>
 aA n
 (ay Pr yw [.slice o.a o.n o.c,.slice p.a p.n p.c] m fun q s=>
 aU q fun t=>
 R (.bool t) s)
 (R (.bool false) m))
 (ax (Addr.add a 3) d fun u=>
 ax (Addr.add c 3) d fun v=>
 R (.bool false) d)
theorem acF {dx:Int} {cW:Int} {cM:ah} {cw:ah} {jF:Int} {iC:Int} {gu:ah} {fm:ah} {w:World} {R:Value→World→Prop} (h:LG dx cW cM cw jF iC gu fm w R):Ok Pr Lx [.agg ⟨[.int .i64 dx,.int .i64 cW,.slice cM.a cM.n cM.c,.slice cw.a cw.n cw.c]⟩,.agg ⟨[.int .i64 jF,.int .i64 iC,.slice gu.a gu.n gu.c,.slice fm.a fm.n fm.c]⟩] w R:=
 aL (m:=⟨true,true⟩) (J:=[]) (L:=[]) aJ Tryz.func13 (by kernel_rfl) ((by kernel_rfl:aK Pr _ _ _ Tryz.f13 _ w R=LG dx cW cM cw jF iC gu fm w R).mpr h)
def KZ (dx:Int) (cW:Int) (cM:Int) (cw:ah) (jF:Int) (iC:Int) (gu:Int) (fm:ah) (w:World) (R:Value→World→Prop):Prop:=
 nw cI [.int .i64 dx,.int .i64 cW,.int .i64 cM,.slice cw.a cw.n cw.c] w fun a b=>
 nw cI [.int .i64 jF,.int .i64 iC,.int .i64 gu,.slice fm.a fm.n fm.c] b fun c d=>
 an .i64 (Addr.add a 0) d fun e=>
 an .i64 (Addr.add c 0) d fun f=>
 an .i64 (Addr.add a 1) d fun g=>
 an .i64 (Addr.add c 1) d fun i=>
 an .i64 (Addr.add a 2) d fun j=>
 an .i64 (Addr.add c 2) d fun k=>
 ax (Addr.add a 3) d fun l=>
 ax (Addr.add c 3) d fun m=>
 aA (((decide (e=f)) && (decide (g=i))) && (decide (j=k)))
 (ay Pr yw [.slice l.a l.n l.c,.slice m.a m.n m.c] d fun n o=>
 aU n fun p=>
 R (.bool p) o)
 (R (.bool false) d)
theorem ace {dx:Int} {cW:Int} {cM:Int} {cw:ah} {jF:Int} {iC:Int} {gu:Int} {fm:ah} {w:World} {R:Value→World→Prop} (h:KZ dx cW cM cw jF iC gu fm w R):Ok Pr KR [.agg ⟨[.int .i64 dx,.int .i64 cW,.int .i64 cM,.slice cw.a cw.n cw.c]⟩,.agg ⟨[.int .i64 jF,.int .i64 iC,.int .i64 gu,.slice fm.a fm.n fm.c]⟩] w R:=
 aL (m:=⟨true,true⟩) (J:=[]) (L:=[]) aJ Tryz.func17 (by kernel_rfl) ((by kernel_rfl:aK Pr _ _ _ Tryz.f17 _ w R=KZ dx cW cM cw jF iC gu fm w R).mpr h)
def K0 (a:ah) (b:ah) (w:World) (R:Value→World→Prop):Prop:=
 aA (!decide ((a.n:Int)=(b.n:Int)))
 (R (.bool false) w)
 (cZ (fun (c:Int)=>[(5,some (.int .i64 c))])
 (fun d c e=>aA (decide (c<(a.n:Int)))
 (aQ a.a c a.n
 (AL (Addr.add (base a.a) (Int.toNat c * 3)) (World.drew e) fun f g i=>
 aQ b.a c b.n
 (AL (Addr.add (base b.a) (Int.toNat c * 3)) (World.drew e) fun j k l=>
 Fs Pr .neq dV [.int .i64 f,.int .i64 g,.string i] [.int .i64 j,.int .i64 k,.string l] (World.drew e) fun m n=>
 aA m
 (R (.bool false) n)
 ((aF (c+1)∧
 d (c+1) n)))))
 (R (.bool true) e))
 0 w)
theorem acf {a:ah} {b:ah} {w:World} {R:Value→World→Prop} (h:K0 a b w R):Ok Pr KS [.slice a.a a.n a.c,.slice b.a b.n b.c] w R:=
 aL (m:=⟨true,true⟩) (J:=[]) (L:=[(4,[(5,.int .i64)])]) aJ Tryz.func19 (by kernel_rfl) ((by kernel_rfl:aK Pr _ _ _ Tryz.f19 _ w R=K0 a b w R).mpr h)
def Mx (dx:Int) (cW:Int) (cM:Int) (cw:ah) (jF:Int) (iC:Int) (gu:Int) (fm:ah) (w:World) (R:Value→World→Prop):Prop:=
 nw aZ [.int .i64 dx,.int .i64 cW,.int .i64 cM,.slice cw.a cw.n cw.c] w fun a b=>
 nw aZ [.int .i64 jF,.int .i64 iC,.int .i64 gu,.slice fm.a fm.n fm.c] b fun c d=>
 an .i64 (Addr.add a 0) d fun e=>
 an .i64 (Addr.add c 0) d fun f=>
 an .i64 (Addr.add a 1) d fun g=>
 an .i64 (Addr.add c 1) d fun i=>
 an .i64 (Addr.add a 2) d fun j=>
 an .i64 (Addr.add c 2) d fun k=>
 ax (Addr.add a 3) d fun l=>
 ax (Addr.add c 3) d fun m=>
 aA ((((!decide (e=f)) || (!decide (g=i))) || (!decide (j=k))) || (!decide ((l.n:Int)=(m.n:Int))))
 (R (.bool false) d)
 (cZ (fun (n:Int)=>[(5,some (.int .i64 n))])
 (fun o n p=>ax (Addr.add a 3) p fun q=>
 aA (decide (n<(q.n:Int)))
 (ax (Addr.add a 3) (World.drew p) fun s=>
 aQ s.a n s.n
 (jt (Addr.add (base s.a) (Int.toNat n * 4)) (World.drew p) fun t u v x=>
 ax (Addr.add c 3) (World.drew p) fun y=>
 aQ y.a n y.n
 (jt (Addr.add (base y.a) (Int.toNat n * 4)) (World.drew p) fun z A B C=>
 ay Pr KR [.agg ⟨[.int .i64 t,.int .i64 u,.int .i64 v,.slice x.a x.n x.c]⟩,.agg ⟨[.int .i64 z,.int .i64 A,.int .i64 B,.slice C.a C.n C.c]⟩] (World.drew p) fun D E=>
 aU D fun F=>
 aA (!F)
 (R (.bool false) E)
 ((aF (n+1)∧
 o (n+1) E)))))
 (R (.bool true) p))
 0 d)
theorem adp {dx:Int} {cW:Int} {cM:Int} {cw:ah} {jF:Int} {iC:Int} {gu:Int} {fm:ah} {w:World} {R:Value→World→Prop} (h:Mx dx cW cM cw jF iC gu fm w R):Ok Pr Ml [.agg ⟨[.int .i64 dx,.int .i64 cW,.int .i64 cM,.slice cw.a cw.n cw.c]⟩,.agg ⟨[.int .i64 jF,.int .i64 iC,.int .i64 gu,.slice fm.a fm.n fm.c]⟩] w R:=
 aL (m:=⟨true,true⟩) (J:=[]) (L:=[(4,[(5,.int .i64)])]) aJ Tryz.func20 (by kernel_rfl) ((by kernel_rfl:aK Pr _ _ _ Tryz.f20 _ w R=Mx dx cW cM cw jF iC gu fm w R).mpr h)
def LZ (dx:Int) (cW:Int) (cM:Int) (cw:Int) (fh:Int) (fk:Int) (gN:Int) (gO:Int) (gP:Int) (gQ:Int) (gH:Int) (gI:ByteArray) (dK:ah) (dL:ah) (w:World) (R:Value→World→Prop):Prop:=
 nw kW [.int .i64 dx,.int .i64 cW,.int .i64 cM,.int .i64 cw,.int .i64 fh,.int .i64 fk,.int .i64 gN,.int .i64 gO,.int .i64 gP,.int .i64 gQ,.int .i64 gH,.string gI,.slice dK.a dK.n dK.c,.slice dL.a dL.n dL.c] w fun a b=>
 fW (Addr.add a 11) b fun c=>
 ax (Addr.add a 12) b fun d=>
 ax (Addr.add a 13) b fun e=>
 R (.bool (((decide (400<((ByteArray.size c:Nat):Int))) || (decide (3000<(d.n:Int)))) || (decide (200<(e.n:Int))))) b
theorem acV {dx:Int} {cW:Int} {cM:Int} {cw:Int} {fh:Int} {fk:Int} {gN:Int} {gO:Int} {gP:Int} {gQ:Int} {gH:Int} {gI:ByteArray} {dK:ah} {dL:ah} {w:World} {R:Value→World→Prop} (h:LZ dx cW cM cw fh fk gN gO gP gQ gH gI dK dL w R):Ok Pr LK [.agg ⟨[.int .i64 dx,.int .i64 cW,.int .i64 cM,.int .i64 cw,.int .i64 fh,.int .i64 fk,.int .i64 gN,.int .i64 gO,.int .i64 gP,.int .i64 gQ,.int .i64 gH,.string gI,.slice dK.a dK.n dK.c,.slice dL.a dL.n dL.c]⟩] w R:=
 aL (m:=⟨true,true⟩) (J:=[]) (L:=[]) aJ Tryz.func25 (by kernel_rfl) ((by kernel_rfl:aK Pr _ _ _ Tryz.f25 _ w R=LZ dx cW cM cw fh fk gN gO gP gQ gH gI dK dL w R).mpr h)
def Lq (a:ah) (b:ah) (w:World) (R:Value→World→Prop):Prop:=
 aA (!decide ((a.n:Int)=(b.n:Int)))
 (R (.bool false) w)
 (cZ (fun (c:Int)=>[(5,some (.int .i64 c))])
 (fun d c e=>aA (decide (c<(a.n:Int)))
 (aQ a.a c a.n
 (an .i64 (Addr.add (Addr.add (base a.a) (Int.toNat c * 5)) 0) (World.drew e) fun f=>
 aQ b.a c b.n
 (an .i64 (Addr.add (Addr.add (base b.a) (Int.toNat c * 5)) 0) (World.drew e) fun g=>
 aA (!decide (f=g))
 (R (.bool false) (World.drew e))
 (aQ a.a c a.n
 (an .i64 (Addr.add (Addr.add (base a.a) (Int.toNat c * 5)) 1) (World.drew e) fun i=>
 aQ b.a c b.n
 (an .i64 (Addr.add (Addr.add (base b.a) (Int.toNat c * 5)) 1) (World.drew e) fun j=>
 aA (!decide (i=j))
 (R (.bool false) (World.drew e))
 (aQ a.a c a.n
 (an .i64 (Addr.add (Addr.add (base a.a) (Int.toNat c * 5)) 3) (World.drew e) fun k=>
 aQ b.a c b.n
 (an .i64 (Addr.add (Addr.add (base b.a) (Int.toNat c * 5)) 3) (World.drew e) fun l=>
 aA (!decide (k=l))
 (R (.bool false) (World.drew e))
 (aQ a.a c a.n
 (an .u64 (Addr.add (Addr.add (base a.a) (Int.toNat c * 5)) 4) (World.drew e) fun m=>
 aQ b.a c b.n
 (an .u64 (Addr.add (Addr.add (base b.a) (Int.toNat c * 5)) 4) (World.drew e) fun n=>
 aA (!decide (m=n))
 (R (.bool false) (World.drew e))
 (aQ a.a c a.n
 (ax (Addr.add (Addr.add (base a.a) (Int.toNat c * 5)) 2) (World.drew e) fun o=>
 aQ b.a c b.n
 (ax (Addr.add (Addr.add (base b.a) (Int.toNat c * 5)) 2) (World.drew e) fun p=>
 ay Pr yw [.slice o.a o.n o.c,.slice p.a p.n p.c] (World.drew e) fun q s=>
 aU q fun t=>
 aA (!t)
 (R (.bool false) s)
 ((aF (c+1)∧
 d (c+1) s)))))))))))))))))
 (R (.bool true) e))
 0 w)
theorem acp {a:ah} {b:ah} {w:World} {R:Value→World→Prop} (h:Lq a b w R):Ok Pr Lh [.slice a.a a.n a.c,.slice b.a b.n b.c] w R:=
 aL (m:=⟨true,true⟩) (J:=[]) (L:=[(4,[(5,.int .i64)])]) aJ Tryz.func30 (by kernel_rfl) ((by kernel_rfl:aK Pr _ _ _ Tryz.f30 _ w R=Lq a b w R).mpr h)
def Lr (a:ah) (b:ah) (w:World) (R:Value→World→Prop):Prop:=
 aA (!decide ((a.n:Int)=(b.n:Int)))
 (R (.bool false) w)
 (cZ (fun (c:Int)=>[(5,some (.int .i64 c))])
 (fun d c e=>aA (decide (c<(a.n:Int)))
 (aQ a.a c a.n
 (iF (Addr.add (base a.a) (Int.toNat c * 6)) (World.drew e) fun f g i j k l=>
 aQ b.a c b.n
 (iF (Addr.add (base b.a) (Int.toNat c * 6)) (World.drew e) fun m n o p q s=>
 Fs Pr .neq cR [.int .i64 f,.int .i64 g,.int .i64 i,.int .i64 j,.int .i64 k,.bool l] [.int .i64 m,.int .i64 n,.int .i64 o,.int .i64 p,.int .i64 q,.bool s] (World.drew e) fun t u=>
 aA t
 (R (.bool false) u)
 ((aF (c+1)∧
 d (c+1) u)))))
 (R (.bool true) e))
 0 w)
theorem acq {a:ah} {b:ah} {w:World} {R:Value→World→Prop} (h:Lr a b w R):Ok Pr Lj [.slice a.a a.n a.c,.slice b.a b.n b.c] w R:=
 aL (m:=⟨true,true⟩) (J:=[]) (L:=[(4,[(5,.int .i64)])]) aJ Tryz.func31 (by kernel_rfl) ((by kernel_rfl:aK Pr _ _ _ Tryz.f31 _ w R=Lr a b w R).mpr h)
end Go.Proofs.YtgjoehgomjgckaaGreatDoor
end
section
set_option linter.unusedVariables false
set_option linter.unusedSimpArgs false
namespace Go.Proofs.YtgjoehgomjgckaaGreatDoor
open Go Go.Ev
set_option maxRecDepth 20000
set_option linter.unusedVariables false
structure bH where
 (n0 n1 n2 n3 n4 n5 n6 n7 n8 n9 nX:Int)
 name:ByteArray
 (gw tok:ah)
@[reducible] def bH.cells (q:bH):List Value:=HL q.n0 q.n1 q.n2 q.n3 q.n4 q.n5 q.n6 q.n7 q.n8 q.n9 q.nX q.name q.gw q.tok
def bH.dH (q:bH):List Int:=[q.n0,q.n1,q.n2,q.n3,q.n4,q.n5,q.n6,q.n7,q.n8,q.n9,q.nX]
def bH.rest (q:bH):List Int:=[q.n3,q.n4,q.n5,q.n6,q.n7,q.n8,q.n9,q.nX]
def aP (lo hi n:Int):Bool:=decide (lo≤n) && decide (n≤hi)
def oA (q:bH):Bool:=aP 1 6 q.n0 && (aP 1 1099511627776 q.n1 && (aP 1 13 q.n2 && (q.rest.all (aP 0 1099511627776) && (decide (q.name.size≤300) && (decide (q.gw.n≤2000) && decide (q.tok.n≤100))))))
theorem Ij (n lo hi:Int) (w:World):Ok Pr Bt [.int .i64 n,.int .i64 lo,.int .i64 hi] w fun v w'=>v=.bool (aP lo hi n)∧w'=w:=by
 refine ahg ?_
 unfold Q2
 exact ⟨rfl,rfl⟩
theorem agU (n:Int) (w:World):Ok Pr Du [.int .i64 n] w fun v w'=>v=.bool (!aP 0 1099511627776 n)∧w'=w:=by
 refine ae3 ?_
 unfold O0
 refine aB (Ij n 0 1099511627776 w) ?_
 rintro _ w1 ⟨rfl,hw⟩
 subst hw
 exact bk ⟨rfl,rfl⟩
theorem adR (g:FuncId) (p:Int→Bool) (hb:jw Pr g=true) (hg:∀ n w,Ok Pr g [.int .i64 n] w fun v w'=>v=.bool (p n)∧w'=w) (x:ah) (l:List Int) (hl:l.length≤1000000) (w:World) (hx:dQ w x l) :
  Ok Pr Gz [.slice x.a x.n x.c,.func (.func g) #[] #[]] w fun v w'=>∃ n:Int,v=.int .i64 n∧(decide (0≤n)=l.any p)∧w'=w:=by
 refine Up ?_
 unfold GA
 have bT:=hx.len
 refine dw 0 l.length (fun i w'=>w'=w∧(l.take i).any p=false) rfl (by omega) ⟨rfl,rfl⟩ ?_ ?_
 ·rintro again i w1 _ hi ⟨mG,ha⟩ aM
  have J1:dQ w1 x l:=by rw [mG]; exact hx
  refine ite_true (decide_eq_true (by omega)) (J1.ld hi rfl ?_)
  have key:ay Pr g [.int .i64 (l.getD i 0)] w1 fun v w2=>aU v fun t16=>aA t16 ((fun (v:Value) (w':World)=>∃ n:Int,v=.int .i64 n∧(decide (0≤n)=l.any p)∧w'=w) (.int .i64 (i:Int)) w2) (aF ((i:Int)+1)∧again ((i:Int)+1) w2):=by
   refine aB (hg _ _) ?_
   rintro _ w2 ⟨rfl,qR⟩
   have SG:l.getD i 0∈l:=by simp [hi]
   refine bk (bU (fun h=>?_) (fun h=>?_))
   ·refine ⟨_,rfl,?_,qR.trans mG⟩
    rw [decide_eq_true (by omega)]
    exact (List.any_eq_true.2 ⟨_,SG,h⟩).symm
   ·refine ⟨⟨by omega,by omega⟩,aM _ ⟨qR.trans mG,?_⟩⟩
    rw [kT _ _ hi 0,List.any_append,ha,List.any_cons,h]
    rfl
  show cond (jw Pr g) _ False
  rw [hb]
  exact key
 ·rintro again w1 ⟨mG,ha⟩
  rw [List.take_length] at ha
  exact ite_false (decide_eq_false (by omega)) ⟨_,rfl,by rw [ha]; rfl,mG⟩
theorem acG (g:FuncId) (p:Int→Bool) (hb:jw Pr g=true) (hg:∀ n w,Ok Pr g [.int .i64 n] w fun v w'=>v=.bool (p n)∧w'=w) (x:ah) (l:List Int) (hl:l.length≤1000000) (w:World) (hx:dQ w x l) :
  Ok Pr CV [.slice x.a x.n x.c,.func (.func g) #[] #[]] w fun v w'=>v=.bool (l.any p)∧w'=w:=by
 refine Uo ?_
 unfold Gy
 refine aB (adR g p hb hg x l hl w hx) ?_
 rintro _ w1 ⟨n,rfl,hn,hw⟩
 subst hw
 exact ey ⟨by rw [hn],rfl⟩
theorem afh (q:bH) (w:World):Ok Pr MM [.agg ⟨q.cells⟩] w fun v w'=>∃ y:ah,v=.slice y.a y.n y.c∧Own w' w.heap.size bG 1 y (cr q.dH)∧Mod [] w w':=by
 refine adI ?_
 unfold MZ
 refine (ak.start w).nw fun p w1 H _=>?_
 refine H.an 0 rfl (au p 0) rfl (H.an 0 rfl (au p 1) rfl (H.an 0 rfl (au p 2) rfl (H.an 0 rfl (au p 3) rfl (H.an 0 rfl (au p 4) rfl (H.an 0 rfl (au p 5) rfl ?_)))))
 refine H.an 0 rfl (au p 6) rfl (H.an 0 rfl (au p 7) rfl (H.an 0 rfl (au p 8) rfl (H.an 0 rfl (au p 9) rfl (H.an 0 rfl (au p 10) rfl (H.nw fun p1 w2 H _=>?_)))))
 have H:=H.rz 1 1 11 11 rfl rfl (Nat.le_refl _) (by simp only [maxLen]; omega)
 exact ⟨⟨some ⟨p1,0,none⟩,11,11⟩,rfl,H.fN 1 rfl,H.mod⟩
theorem ai0:jw Pr Du=true:=by kernel_rfl
theorem ah8 (q:bH) (w:World):Ok Pr QB [.agg ⟨q.cells⟩] w fun v w'=>v=.bool (oA q)∧Mod [] w w':=by
 refine agK ?_
 unfold QD
 refine (ak.start w).nw fun p w1 H _=>?_
 refine H.an 0 rfl (au p 0) rfl (aB (Ij _ _ _ _) ?_)
 rintro _ w2 ⟨rfl,hw⟩
 subst hw
 refine bk (H.an 0 rfl (au p 1) rfl ?_)
 unfold oA
 refine bU (fun h1=>?_) (fun h1=>?_)
 ·rw [h1,Bool.true_and]
  refine aB (Ij _ _ _ _) ?_
  rintro _ w3 ⟨rfl,hw⟩
  subst hw
  refine bk (H.an 0 rfl (au p 2) rfl ?_)
  refine bU (fun h2=>?_) (fun h2=>?_)
  ·rw [h2,Bool.true_and]
   refine aB (Ij _ _ _ _) ?_
   rintro _ w4 ⟨rfl,hw⟩
   subst hw
   refine bk (H.iX 0 rfl ?_)
   refine bU (fun h3=>?_) (fun h3=>?_)
   ·rw [h3,Bool.true_and]
    refine aB (afh q _) ?_
    rintro _ w5 ⟨y,rfl,hy,m5⟩
    have H:=H.cF m5 hy
    have jS:=hy.dH.len
    refine bV (Sl.l (H.dH 1 rfl) (by omega) 3 rfl (by rw [← jS]; show 3≤11; omega) fun z hz jO _=>?_)
    have FN:dQ w5 z q.rest:=jO
    refine aB (acG Du _ ai0 agU z q.rest (by show 8≤1000000; omega) _ FN) ?_
    rintro _ w6 ⟨rfl,hw⟩
    subst hw
    refine bk (H.fW 0 rfl (au p 11) rfl (H.ax 0 rfl (au p 12) rfl (H.ax 0 rfl (au p 13) rfl ⟨?_,H.mod⟩)))
    congr 1
    have e:(!q.rest.any fun n=>!aP 0 1099511627776 n)=q.rest.all (aP 0 1099511627776):=by
     rw [List.not_any_eq_all_not]
     simp
    rw [e]
    have e1:∀ a b:Nat,decide (((a:Nat):Int)≤(b:Int))=decide (a≤b):=fun a b=>by simp
    have aok:=e1 q.name.size 300
    have anw:=e1 q.gw.n 2000
    have aol:=e1 q.tok.n 100
    simp only [Bool.and_assoc]
    rw [← aok,← anw,← aol]
    rfl
   ·rw [h3,Bool.false_and]
    exact H.fW 0 rfl (au p 11) rfl (H.ax 0 rfl (au p 12) rfl (H.ax 0 rfl (au p 13) rfl ⟨rfl,H.mod⟩))
  ·rw [h2,Bool.false_and]
   exact H.iX 0 rfl (H.fW 0 rfl (au p 11) rfl (H.ax 0 rfl (au p 12) rfl (H.ax 0 rfl (au p 13) rfl ⟨rfl,H.mod⟩)))
 ·rw [h1,Bool.false_and]
  exact H.an 0 rfl (au p 2) rfl (H.iX 0 rfl (H.fW 0 rfl (au p 11) rfl (H.ax 0 rfl (au p 12) rfl (H.ax 0 rfl (au p 13) rfl ⟨rfl,H.mod⟩))))
def R4 (q:bH):Int:=if oA q=true then 0 else 2
end Go.Proofs.YtgjoehgomjgckaaGreatDoor
end
section
set_option linter.unusedVariables false
set_option linter.unusedSimpArgs false
namespace Go.Proofs.YtgjoehgomjgckaaGreatDoor
open Go Go.Ev
set_option maxRecDepth 20000
set_option linter.unusedVariables false
theorem My (x y:ah) (l m:List B8) (w:World) (hx:Bytes w x l) (hy:Bytes w y m):Ok Pr C9 [.slice x.a x.n x.c,.slice y.a y.n y.c] w fun v w'=>v=.bool (decide (l=m))∧w'=w:=by
 refine adE ?_
 unfold MV
 refine Y9 hx (Y9 hy ⟨?_,rfl⟩)
 congr 1
 exact decide_eq_decide.2 aiJ
theorem adS (q:bH) (w:World):Ok Pr LK [.agg ⟨q.cells⟩] w fun v w'=>∃ b,v=.bool b∧Mod [] w w'∧(b=false→q.name.size≤400∧q.gw.n≤3000∧q.tok.n≤200):=by
 refine acV ?_
 unfold LZ
 refine (ak.start w).nw fun p w1 H _=>?_
 refine H.fW 0 rfl (au p 11) rfl (H.ax 0 rfl (au p 12) rfl (H.ax 0 rfl (au p 13) rfl ⟨_,rfl,H.mod,fun h=>?_⟩))
 simp only [Bool.or_eq_false_iff,decide_eq_false_iff_not] at h
 omega
end Go.Proofs.YtgjoehgomjgckaaGreatDoor
end
section
set_option linter.unusedVariables false
set_option linter.unusedSimpArgs false
namespace Go.Proofs.YtgjoehgomjgckaaGreatDoor
open Go Go.Ev
set_option maxRecDepth 20000
set_option linter.unusedVariables false
theorem Yv:zc Pr q9=[.slice none 0 0,.slice none 0 0,.slice none 0 0,.slice none 0 0]:=by kernel_rfl
@[irreducible] def qC (l:List B8):List B8:=eZ 136 6 l 32
theorem Xy (l:List B8):eZ 136 6 l 32=qC l:=by unfold qC; rfl
theorem ai1 (l:List B8):(qC l).length=32:=by unfold qC; exact sV 136 6 l 32 (by omega)
def uh (set:Int) (l:List B8):Int:=if isSet set=true then (if l.length=oP set then (if qC (pS set l)=pH set l then 0 else 4) else 3) else 2
theorem ajZ {set:Int} {l:List B8} (h:uh set l=0):isSet set=true∧l.length=oP set:=by
 unfold uh at h
 split at h
 ·rename_i h1
  split at h
  ·rename_i h2; exact ⟨h1,h2⟩
  ·exact absurd h (by decide)
 ·exact absurd h (by decide)
theorem Zr {set:Int} (cG:isSet set=true) {l:List B8} (h:l.length=oP set):(pS set l).length=iA set∧(pO set l).length=jo set∧(pH set l).length=32∧(pR set l).length=32:=by
 obtain ⟨h1,h2,h3,h4⟩:=Aw cG
 refine ⟨?_,?_,?_,?_⟩
 ·unfold pS; rw [List.length_take,List.length_drop]; omega
 ·unfold pO; rw [List.length_take]; omega
 ·unfold pH; rw [List.length_take,List.length_drop]; omega
 ·unfold pR; rw [List.length_drop]; omega
theorem afi (set:Int) (x:ah) (l:List B8) (w:World) (hx:Bytes w x l):Ok Pr MP [.int .i64 set,.slice x.a x.n x.c] w fun v w'=>cO w w' v (uh set l)∧Mod [] w w':=by
 refine adM ?_
 unfold M3
 rw [wQ,Yv]
 have bT:=hx.len
 have tQ:=hx.cap
 have hC:uh set l=if isSet set=true then (if l.length=oP set then (if qC (pS set l)=pH set l then 0 else 4) else 3) else 2:=rfl
 generalize uh set l=C at *
 refine aB (yQ set w) ?_
 rintro _ w1 ⟨rfl,m1⟩
 have H:=(ak.start w).frame m1
 refine ⟨_,rfl,y9 ⟨_,rfl,rfl,H.nw fun p w2 H _=>H.iY 0 rfl rfl fun w3 H=>?_⟩⟩
 have no:∀ {w4:World} (c:Int),Mod [] w w4→c≠0→C=c→ay Pr mP [.int .i64 c] w4 fun v w5=>cO w w5 v C∧Mod [] w w5:=by
  intro w4 c m hc gY
  refine aB (Dq c hc w4) ?_
  rintro e w5 ⟨h,m4⟩
  rw [gY]
  exact ⟨BA h m,m.trans m4⟩
 cases cG:isSet set with
 | false=>
  rw [cG,if_neg (by decide)] at hC
  exact ite_true rfl (no 2 H.mod (by decide) hC)
 | true=>
  rw [cG,if_pos rfl] at hC
  obtain ⟨h1,h2,h3,h4⟩:=Aw cG
  have hk:=(nk cG).k
  refine ite_false rfl (aB (Vz set w3) ?_)
  rintro _ w5 ⟨rfl,m5⟩
  have H:=H.frame m5
  refine ⟨_,rfl,_,rfl,_,rfl,_,rfl,rfl,?_⟩
  by_cases hn:l.length=oP set
  case neg=>
   rw [if_neg hn] at hC
   exact ite_true (by rw [decide_eq_false (show ¬ ((x.n:Nat):Int)=((oP set:Nat):Int) by omega)]; rfl) (no 3 H.mod (by decide) hC)
  rw [if_pos hn] at hC
  obtain ⟨lS,lO,lH,lR⟩:=Zr cG hn
  refine ite_false (by rw [decide_eq_true (show ((x.n:Nat):Int)=((oP set:Nat):Int) by omega)]; rfl) (aB (VA set cG x (by omega) tQ _) ?_)
  rintro _ w7 ⟨x0,x1,x2,x3,rfl,m7,kp⟩
  have H:=H.frame m7
  refine Vn (H.nw fun p1 w8 H _=>H.wE 1 rfl rfl fun w9 H=>?_)
  have H:=H.drew
  have H:ak w [] w9.drew [.av p (dD set).cells g8,.av p1 (yJ x0 x1 x2 x3) q9]:=H
  refine H.ax 1 rfl (au p1 1) rfl (H.ax 1 rfl (au p1 2) rfl (H.nw fun p2 cJ H2 _=>?_))
  obtain ⟨k0,k1,k2,k3⟩:=kp _ l (hx.aE H2.mod)
  refine ⟨kL (H.av 1 rfl) (H2.av 1 rfl) (jH _ _),?_⟩
  refine aB (LC ⟨some ⟨p2,0,none⟩,1,1⟩ [pS set l] _ (eY.JF (H2.av 2 rfl) (by simp) k1 (jX _)) (RH rfl (by omega))) ?_
  rintro _ cY ⟨g,rfl,hg,qS⟩
  rw [show [pS set l].flatten=pS set l by simp] at hg
  rw [Xy] at hg
  have H3:=H2.cF qS hg
  refine bV ⟨kL (H2.av 1 rfl) (H3.av 1 rfl) (jH _ _),aB (My g x2 _ _ _ hg.bytes (k2.aE qS)) ?_⟩
  rintro _ fP ⟨rfl,hw⟩
  subst hw
  refine bk ?_
  by_cases he:qC (pS set l)=pH set l
  ·rw [if_pos he] at hC
   rw [hC]
   exact ite_false (by rw [decide_eq_true he]; rfl) ⟨qw _ _,H3.mod⟩
  ·rw [if_neg he] at hC
   exact ite_true (by rw [decide_eq_false he]; rfl) (no 4 H3.mod (by decide) hC)
@[irreducible] def vT (b m:List B8):List B8:=eZ 72 6 (m ++ qC b) 64
theorem al0 (b m:List B8):eZ 72 6 (m ++ qC b) 64=vT b m:=by unfold vT; rfl
theorem Yw (b m:List B8):(vT b m).length=64:=by unfold vT; exact sV 72 6 _ 64 (by omega)
def oQ (set:Int) (b m:List B8):Int:=if iB set b=0 then (if m.length=32 then 0 else 3) else iB set b
@[irreducible] def Ax (set:Int) (b m:List B8):List B8:=if oQ set b m=0 then tY set b m ((vT b m).drop 32) else []
@[irreducible] def xS (set:Int) (b m:List B8):List B8:=if oQ set b m=0 then (vT b m).take 32 else []
theorem Xz {set:Int} {b m r:List B8} (h:iB set b=0) (hm:m.length=32) (hr:r.length=32):Au set b m r=0:=by
 unfold Au; rw [if_pos h,if_pos ⟨hm,hr⟩]
theorem ahy (set:Int) (x xm:ah) (b m:List B8) (w:World) (hx:Bytes w x b) (hm:Bytes w xm m) :
  Ok Pr PC [.int .i64 set,.slice x.a x.n x.c,.slice xm.a xm.n xm.c] w fun v w'=>∃ (y z:ah) (er:Value),v=.tuple ⟨[.slice y.a y.n y.c,.slice z.a z.n z.c,er]⟩∧
   ak w [] w' [.row bh 1 y (bp (Ax set b m)),.cut z (xS set b m),aD.err er (oQ set b m)]:=by
 refine agb ?_
 unfold P2
 have bT:=hx.len
 have Tp:=hm.len
 have hC:oQ set b m=if iB set b=0 then (if m.length=32 then 0 else 3) else iB set b:=rfl
 have hV:Ax set b m=if oQ set b m=0 then tY set b m ((vT b m).drop 32) else []:=by unfold Ax; rfl
 have hS:xS set b m=if oQ set b m=0 then (vT b m).take 32 else []:=by unfold xS; rfl
 generalize oQ set b m=C at *
 generalize Ax set b m=V at *
 generalize xS set b m=K at *
 refine aB (UZ set x b w hx) ?_
 rintro e w1 ⟨he,m1⟩
 have no:∀ {w3:World} (e:Value) (c:Int),c≠0→C=c→cO w w3 e c→Mod [] w w3→∃ (y z:ah) (er:Value),Value.tuple ⟨[.slice none 0 0,.slice none 0 0,e]⟩=.tuple ⟨[.slice y.a y.n y.c,.slice z.a z.n z.c,er]⟩∧
   ak w [] w3 [.row bh 1 y (bp V),.cut z K,aD.err er C]:=by
  intro w3 e c hc gY h m
  rw [gY] at hV hS
  rw [if_neg hc] at hV hS
  subst hV hS
  rw [gY]
  have H1:=((ak.start w).iZ bh 1).push (r:=.cut ⟨none,0,0⟩ []) (Mod.refl [] w) (.inl ⟨rfl,rfl⟩) (fun b hb=>by simp [aD.cut,ah.row] at hb)
  exact ⟨⟨none,0,0⟩,⟨none,0,0⟩,e,rfl,H1.gG m h⟩
 by_cases h0:iB set b=0
 case neg=>
  rw [if_neg h0] at hC
  exact he.1.isNil (ite_true (by rw [decide_eq_false h0]; rfl) (no e _ h0 hC he m1))
 rw [if_pos h0] at hC
 obtain ⟨cG,jK,dU⟩:=Xx h0
 have hk:=(nk cG).k
 refine he.1.isNil (ite_false (by rw [decide_eq_true h0]; rfl) ?_)
 by_cases kG:m.length=32
 case neg=>
  rw [if_neg kG] at hC
  refine ite_true (by rw [decide_eq_false (show ¬ ((xm.n:Nat):Int)=32 by omega)]; rfl) (aB (Dq 3 (by decide) w1) ?_)
  rintro e3 w3 ⟨h,m3⟩
  exact no e3 3 (by decide) hC (BA h m1) (m1.trans m3)
 rw [if_pos kG] at hC
 clear no
 subst hC
 rw [if_pos rfl] at hV hS
 subst hV hS
 have H:=(ak.start w).frame m1
 refine ite_false (by rw [decide_eq_true (show ((xm.n:Nat):Int)=32 by omega)]; rfl) (H.nw fun p w3 H _=>?_)
 refine aB (LC ⟨some ⟨p,0,none⟩,1,1⟩ [b] _ (eY.JF (H.av 0 rfl) (by simp) (hx.aE H.mod) (jX _)) (RH rfl (by omega))) ?_
 rintro _ w4 ⟨g,rfl,hg,m4⟩
 rw [show [b].flatten=b by simp] at hg
 rw [Xy] at hg
 have hgl:=ai1 b
 have H:=H.cF m4 hg
 refine bV (H.nw fun p1 w5 H _=>?_)
 refine aB (LD ⟨some ⟨p1,0,none⟩,2,2⟩ [m,qC b] _ (eY.zG (H.av 2 rfl) (by simp) (hm.aE H.mod) (jX _) (H.bytes 1 rfl) (jX _)) (y7 rfl (by omega) (by omega))) ?_
 rintro _ w6 ⟨u,rfl,hu,m6⟩
 rw [show [m,qC b].flatten=m ++ qC b by simp] at hu
 rw [al0] at hu
 have mD:=Yw b m
 generalize vT b m=G at *
 have H:=H.cF m6 hu
 have FL:=(H.bytes 3 rfl).len
 have huc:=(H.bytes 3 rfl).cap
 refine bV (y8 32 rfl (by omega) fun zr nr kr=>?_)
 have zN:(G.drop 32).length=32:=by rw [List.length_drop]; omega
 refine aB (VQ set x xm zr b m (G.drop 32) _ (hx.aE H.mod) (hm.aE H.mod) (kr _ G (H.bytes 3 rfl) (by omega))) ?_
 rw [Xz h0 kG zN]
 rintro _ w7 ⟨y,er,rfl,hy,F1,hn7,m7⟩
 have H:=H.cF m7 hy
 refine ⟨_,rfl,y,rfl,rfl,F1.1.isNil (ite_false rfl ⟨⟨by decide,by decide,by omega⟩,?_⟩)⟩
 refine ⟨y,⟨u.a,32,32⟩,.nilIface,rfl,?_⟩
 exact ((H.Zq 3 rfl 32 (by omega) (by omega)).two 4 3 rfl rfl (by omega)).gG (Mod.drew _ _) (qw _ _)
def xU (set:Int) (l c:List B8):Int:=if uh set l=0 then (if c.length=nU set then (if iB set (pS set l)=0 then vQ set (pO set l) c else iB set (pS set l)) else 3) else uh set l
def xV (set:Int) (l c:List B8):List B8:=Av set (pO set l) c
@[irreducible] def p9 (set:Int) (l c:List B8):List B8:=eZ 72 6 (xV set l c ++ pH set l) 64
@[irreducible] def uk (set:Int) (l c:List B8):List B8:=if xU set l c=0 then (if tY set (pS set l) (xV set l c) ((p9 set l c).drop 32)=c then (p9 set l c).take 32 else eZ 136 31 (pR set l ++ c) 32) else []
theorem aj0 {set:Int} {b c:List B8} (h:vQ set b c=0):(Av set b c).length=32:=by
 unfold Av; rw [if_pos h,aiZ]
theorem ahz (set:Int) (x xc:ah) (l c:List B8) (w:World) (hx:Bytes w x l) (hc:Bytes w xc c) :
  Ok Pr PB [.int .i64 set,.slice x.a x.n x.c,.slice xc.a xc.n xc.c] w fun v w'=>∃ (y:ah) (er:Value),v=.tuple ⟨[.slice y.a y.n y.c,er]⟩∧
   ak w [] w' [.cut y (uk set l c),aD.err er (xU set l c)]:=by
 refine aga ?_
 unfold P1
 rw [Yv]
 have bT:=hx.len
 have tQ:=hx.cap
 have JZ:=hc.len
 have hC:xU set l c=if uh set l=0 then (if c.length=nU set then (if iB set (pS set l)=0 then vQ set (pO set l) c else iB set (pS set l)) else 3) else uh set l:=rfl
 have hV:uk set l c=if xU set l c=0 then (if tY set (pS set l) (xV set l c) ((p9 set l c).drop 32)=c then (p9 set l c).take 32 else eZ 136 31 (pR set l ++ c) 32) else []:=by unfold uk; rfl
 generalize xU set l c=C at *
 generalize uk set l c=V at *
 have no:∀ {w3:World} (e:Value) (d:Int),d≠0→C=d→cO w w3 e d→Mod [] w w3→∃ (y:ah) (er:Value),Value.tuple ⟨[.slice none 0 0,e]⟩=.tuple ⟨[.slice y.a y.n y.c,er]⟩∧
   ak w [] w3 [.cut y V,aD.err er C]:=by
  intro w3 e d hd hCd h m
  rw [hCd] at hV
  rw [if_neg hd] at hV
  subst hV
  rw [hCd]
  have H1:=(ak.start w).push (r:=.cut ⟨none,0,0⟩ []) (Mod.refl [] w) (.inl ⟨rfl,rfl⟩) (fun b hb=>by simp [aD.cut,ah.row] at hb)
  exact ⟨⟨none,0,0⟩,e,rfl,H1.gG m h⟩
 refine aB (afi set x l w hx) ?_
 rintro e w1 ⟨he,m1⟩
 by_cases h0:uh set l=0
 case neg=>
  rw [if_neg h0] at hC
  exact he.1.isNil (ite_true (by rw [decide_eq_false h0]; rfl) (no e _ h0 hC he m1))
 rw [if_pos h0] at hC
 obtain ⟨cG,hn⟩:=ajZ h0
 obtain ⟨h1,h2,h3,h4⟩:=Aw cG
 have hk:=(nk cG).k
 have hdu:=(nk cG).du
 have hdv:=(nk cG).dv
 have hdk:(dD set).du * (dD set).k≤11 * 4:=Nat.mul_le_mul (by omega) hk.2
 obtain ⟨lS,lO,lH,lR⟩:=Zr cG hn
 refine he.1.isNil (ite_false (by rw [decide_eq_true h0]; rfl) (aB (Vz set w1) ?_))
 rintro _ w2 ⟨rfl,m2⟩
 have m2:=m1.trans m2
 refine ⟨_,rfl,_,rfl,_,rfl,_,rfl,rfl,?_⟩
 by_cases J6:c.length=nU set
 case neg=>
  rw [if_neg J6] at hC
  refine ite_true (by rw [decide_eq_false (show ¬ ((xc.n:Nat):Int)=((nU set:Nat):Int) by omega)]; rfl) (aB (Dq 3 (by decide) w2) ?_)
  rintro e3 w3 ⟨h,m3⟩
  exact no e3 3 (by decide) hC (BA h m2) (m2.trans m3)
 rw [if_pos J6] at hC
 refine ite_false (by rw [decide_eq_true (show ((xc.n:Nat):Int)=((nU set:Nat):Int) by omega)]; rfl) (aB (VA set cG x (by omega) tQ _) ?_)
 rintro _ w4 ⟨x0,x1,x2,x3,rfl,m4,kp⟩
 have H:=(ak.start w).frame (m2.trans m4)
 refine Vn (H.nw fun p w5 H _=>H.wE 0 rfl rfl fun w6 H=>?_)
 have H:ak w [] w6 [.av p (yJ x0 x1 x2 x3) q9]:=H
 obtain ⟨k0,k1,k2,k3⟩:=kp _ l (hx.aE H.mod)
 have aom:=H.mod.size
 refine H.ax 0 rfl (au p 1) rfl (aB (UZ set x1 _ w6 k1) ?_)
 rintro e7 w7 ⟨F1,m7⟩
 have H:=H.frame m7
 have aon:=H.mod.size
 by_cases hp:iB set (pS set l)=0
 case neg=>
  rw [if_neg hp] at hC
  refine F1.1.isNil (ite_true (by rw [decide_eq_false hp]; rfl) (no e7 _ hp hC (F1.from aom) H.mod))
 rw [if_pos hp] at hC
 refine F1.1.isNil (ite_false (by rw [decide_eq_true hp]; rfl) (H.ax 0 rfl (au p 0) rfl (aB (ahw set x0 xc _ c _ (k0.aE m7) (hc.aE H.mod)) ?_)))
 rintro _ w8 ⟨y,er,rfl,hy,CO,hn8,m8⟩
 have H:=H.cF m8 hy
 by_cases h8:vQ set (pO set l) c=0
 case neg=>
  refine ⟨_,rfl,y,rfl,rfl,CO.1.isNil (ite_true (by rw [decide_eq_false h8]; rfl) (no er _ h8 hC (CO.from aon) H.mod))⟩
 rw [h8] at hC
 rw [hC,if_pos rfl] at hV
 have lM:=aj0 h8
 have CO:=CO.1
 rw [h8] at CO
 refine ⟨_,rfl,y,rfl,rfl,CO.isNil (ite_false rfl (H.ax 0 rfl (au p 2) rfl (H.nw fun p1 w9 H _=>?_)))⟩
 change V=(if tY set (pS set l) (xV set l c) ((p9 set l c).drop 32)=c then (p9 set l c).take 32 else eZ 136 31 (pR set l ++ c) 32) at hV
 have eG:p9 set l c=eZ 72 6 (xV set l c ++ pH set l) 64:=by unfold p9; rfl
 have lG:(p9 set l c).length=64:=by unfold p9; exact sV 72 6 _ 64 (by omega)
 have H:ak w [] w9 [.av p (yJ x0 x1 x2 x3) q9,.row bh 1 y (bp (xV set l c)),.av p1 [.slice y.a y.n y.c,.slice x2.a x2.n x2.c] bJ]:=H
 change (xV set l c).length=32 at lM
 generalize p9 set l c=G at *
 generalize xV set l c=M at *
 obtain ⟨k0,k1,k2,k3⟩:=kp _ l (hx.aE H.mod)
 refine aB (LD ⟨some ⟨p1,0,none⟩,2,2⟩ [M,pH set l] _ (eY.zG (H.av 2 rfl) (by simp) (H.bytes 1 rfl) (jX _) k2 (jX _)) (y7 rfl (by omega) (by omega))) ?_
 rintro _ cJ ⟨u,rfl,hu,FZ⟩
 rw [show [M,pH set l].flatten=M ++ pH set l by simp,← eG] at hu
 have H:=(H.cF FZ hu).drew
 have FL:=(H.bytes 3 rfl).len
 have huc:=(H.bytes 3 rfl).cap
 refine bV (H.ax 0 rfl (au p 1) rfl (y8 32 rfl (by omega) fun zr nr kr=>?_))
 have zN:(G.drop 32).length=32:=by rw [List.length_drop]; omega
 obtain ⟨k0,k1,k2,k3⟩:=kp _ l (hx.aE H.mod)
 refine aB (VQ set x1 y zr (pS set l) M (G.drop 32) _ k1 (H.bytes 1 rfl) (kr _ G (H.bytes 3 rfl) (by omega))) ?_
 rw [Xz hp lM zN]
 rintro _ cY ⟨z,TQ,rfl,hz,aoo,ary,qS⟩
 have H:=H.cF qS hz
 refine ⟨_,rfl,z,rfl,rfl,aoo.1.isNil (ite_false rfl (aB (My z xc _ _ _ hz.bytes (hc.aE H.mod)) ?_))⟩
 rintro _ fP ⟨rfl,hw⟩
 subst hw
 rw [hC]
 refine bk ?_
 by_cases hq:tY set (pS set l) M (G.drop 32)=c
 ·rw [if_pos hq] at hV
  subst hV
  refine ite_false (by rw [decide_eq_true hq]; rfl) ⟨⟨by decide,by decide,by omega⟩,⟨u.a,32,32⟩,.nilIface,rfl,?_⟩
  exact ((H.Zq 3 rfl 32 (by omega) (by omega)).only 3 rfl).gG (Mod.refl _ _) (qw _ _)
 ·rw [if_neg hq] at hV
  obtain ⟨Z,hZ⟩:∃ Z,Z=eZ 136 31 (pR set l ++ c) 32:=⟨_,rfl⟩
  rw [← hZ] at hV
  subst hV
  refine ite_true (by rw [decide_eq_false hq]; rfl) (H.ax 0 rfl (au p 3) rfl (H.nw fun p2 fE H _=>?_))
  obtain ⟨k0,k1,k2,k3⟩:=kp _ l (hx.aE H.mod)
  refine aB (KY 32 ⟨some ⟨p2,0,none⟩,2,2⟩ [pR set l,c] _ (eY.zG (H.av 5 rfl) (by simp) k3 (jX _) (hc.aE H.mod) (jX _)) (y7 rfl (by omega) (by omega))) ?_
  rintro _ fQ ⟨v,rfl,hv,p8⟩
  rw [show [pR set l,c].flatten=pR set l ++ c by simp,← hZ] at hv
  have H:=H.cF p8 hv
  exact bV ⟨v,.nilIface,rfl,((H.Em 6 rfl).only 6 rfl).gG (Mod.refl _ _) (qw _ _)⟩
end Go.Proofs.YtgjoehgomjgckaaGreatDoor
end
section
set_option linter.unusedVariables false
set_option linter.unusedSimpArgs false
namespace Go.Proofs.YtgjoehgomjgckaaGreatDoor
open Go Go.Ev
set_option maxRecDepth 100000
set_option linter.unusedVariables false
def Pb (l:ah) (w:World) (R:Value→World→Prop):Prop:=
 cZ (fun (a:Int)=>[(3,some (.int .i64 a))])
 (fun b a c=>aA ((decide (a<(l.n:Int))) && (decide ((l.n:Int)≤8)))
 (aQ l.a a l.n
 (an .i64 (Addr.add (Addr.add (base l.a) (Int.toNat a * 6)) 0) c fun d=>
 (aF (a+1)∧
 aA (!decide (d=a+1))
 (R (.bool false) c)
 (aQ l.a a l.n
 (iF (Addr.add (base l.a) (Int.toNat a * 6)) c fun e f g i j k=>
 ay Pr OF [.agg ⟨[.int .i64 e,.int .i64 f,.int .i64 g,.int .i64 i,.int .i64 j,.bool k]⟩] c fun m n=>
 aU m fun o=>
 aA (!o)
 (R (.bool false) n)
 ((aF (a+1)∧
 b (a+1) n)))))))
 (R (.bool (decide ((l.n:Int)≤8))) c))
 0 w
theorem afj {l:ah} {w:World} {R:Value→World→Prop} (h:Pb l w R):Ok Pr OC [.slice l.a l.n l.c] w R:=
 aL (m:=⟨true,true⟩) (J:=[]) (L:=[(2,[(3,.int .i64)])]) aJ Tryz.func49 (by kernel_rfl) ((by kernel_rfl:aK Pr _ _ _ Tryz.f49 _ w R=Pb l w R).mpr h)
def N6 (l:ah) (w:World) (R:Value→World→Prop):Prop:=
 cZ (fun (a:Int)=>[(7,some (.int .i64 a))])
 (fun b a c=>aA (decide (a<(l.n:Int)))
 (aQ l.a a l.n
 (iF (Addr.add (base l.a) (Int.toNat a * 6)) c fun d e f g i j=>
 nw cR (zc Pr cR) c fun k m=>
 om k d e f g i j m fun n=>
 an .i64 (Addr.add k 0) n fun o=>
 (aF (a+1)∧
 iF k n fun p q s t u v=>
 aA (!decide (o=a+1))
 (R (.bool false) n)
 (ay Pr GY [.agg ⟨[.int .i64 p,.int .i64 q,.int .i64 s,.int .i64 t,.int .i64 u,.bool v]⟩] n fun x y=>
 aU x fun z=>
 aA (!z)
 (R (.bool false) y)
 ((aF (a+1)∧
 b (a+1) y))))))
 (R (.bool (decide ((l.n:Int)≤8))) c))
 0 w
theorem aez {l:ah} {w:World} {R:Value→World→Prop} (h:N6 l w R):Ok Pr AQ [.slice l.a l.n l.c] w R:=
 aL (m:=⟨true,true⟩) (J:=[]) (L:=[(2,[(7,.int .i64)])]) aJ Tryz.func69 (by kernel_rfl) ((by kernel_rfl:aK Pr _ _ _ Tryz.f69 _ w R=N6 l w R).mpr h)
def Kl (s:ah) (f:Value) (w:World) (R:Value→World→Prop):Prop:=
 ay Pr CU [.slice s.a s.n s.c,f] w fun a b=>
 aY .i64 a fun c=>
 R (.bool (decide (0≤c))) b
theorem abJ {s:ah} {f:Value} {w:World} {R:Value→World→Prop} (h:Kl s f w R):Ok Pr Kk [.slice s.a s.n s.c,f] w R:=
 aL (m:=⟨true,true⟩) (J:=[]) (L:=[]) aJ Tryz.func73 (by kernel_rfl) ((by kernel_rfl:aK Pr _ _ _ Tryz.f73 _ w R=Kl s f w R).mpr h)
def Kv (s:ah) (w:World) (R:Value→World→Prop):Prop:=
 aA (Option.isNone (α:=Addr) s.a)
 (R (.slice none 0 0) w)
 (nw cR [] w fun a b=>
 cH Pr [mo,mo] mo [.slice (some a) 0 0,.slice s.a s.n s.c] b fun c d=>
 R (.slice c.a c.n c.c) d)
theorem abO {s:ah} {w:World} {R:Value→World→Prop} (h:Kv s w R):Ok Pr AG [.slice s.a s.n s.c] w R:=
 aL (m:=⟨true,true⟩) (J:=[]) (L:=[]) aJ Tryz.func79 (by kernel_rfl) ((by kernel_rfl:aK Pr _ _ _ Tryz.f79 _ w R=Kv s w R).mpr h)
def Pc (eE:Int) (eH:Int) (eI:Int) (eJ:Int) (eR:Int) (eX:Bool) (w:World) (R:Value→World→Prop):Prop:=
 nw cR [.int .i64 eE,.int .i64 eH,.int .i64 eI,.int .i64 eJ,.int .i64 eR,.bool eX] w fun a b=>
 an .i64 (Addr.add a 1) b fun c=>
 an .i64 (Addr.add a 1) b fun d=>
 an .i64 (Addr.add a 2) b fun e=>
 an .i64 (Addr.add a 2) b fun f=>
 an .i64 (Addr.add a 4) b fun g=>
 an .i64 (Addr.add a 4) b fun i=>
 an .i64 (Addr.add a 3) b fun j=>
 an .i64 (Addr.add a 3) b fun k=>
 R (.bool ((((((((decide (1≤c)) && (decide (d≤6))) && (decide (1≤e))) && (decide (f≤6))) && (decide (1≤g))) && (decide (i≤1099511627776))) && (decide (0<j))) && (decide (uS .i64 k 3584=0)))) b
theorem afk {eE:Int} {eH:Int} {eI:Int} {eJ:Int} {eR:Int} {eX:Bool} {w:World} {R:Value→World→Prop} (h:Pc eE eH eI eJ eR eX w R):Ok Pr OF [.agg ⟨[.int .i64 eE,.int .i64 eH,.int .i64 eI,.int .i64 eJ,.int .i64 eR,.bool eX]⟩] w R:=
 aL (m:=⟨true,true⟩) (J:=[]) (L:=[]) aJ Tryz.func101 (by kernel_rfl) ((by kernel_rfl:aK Pr _ _ _ Tryz.f101 _ w R=Pc eE eH eI eJ eR eX w R).mpr h)
def Mz (l:ah) (bS:ah) (token:ah) (w:World) (R:Value→World→Prop):Prop:=
 nw bJ [.slice bS.a bS.n bS.c] w fun a b=>
 nw bJ [.slice token.a token.n token.c] b fun c d=>
 nw cR (zc Pr cR) d fun e f=>
 ay Pr AQ [.slice l.a l.n l.c] f fun g i=>
 aU g fun j=>
 aA (!j)
 (ay Pr qm [.int .i64 2] i fun k m=>
 om e 0 0 0 0 0 false m fun n=>
 iF e n fun o p q s t u=>
 R (.tuple ⟨[.agg ⟨[.int .i64 o,.int .i64 p,.int .i64 q,.int .i64 s,.int .i64 t,.bool u]⟩,k]⟩) n)
 (ay Pr CU [.slice l.a l.n l.c,.func (.func wj) ⟨[]⟩ ⟨[.pointer (some a),.pointer (some c)]⟩] i fun v x=>
 aY .i64 v fun y=>
 aA (decide (y<0))
 (ay Pr qm [.int .i64 15] x fun z A=>
 om e 0 0 0 0 0 false A fun B=>
 iF e B fun C D E F G I=>
 R (.tuple ⟨[.agg ⟨[.int .i64 C,.int .i64 D,.int .i64 E,.int .i64 F,.int .i64 G,.bool I]⟩,z]⟩) B)
 (aQ l.a y l.n
 (iF (Addr.add (base l.a) (Int.toNat y * 6)) x fun J L M N O Q=>
 om e J L M N O Q x fun S=>
 iF e S fun T U V X Y Z=>
 R (.tuple ⟨[.agg ⟨[.int .i64 T,.int .i64 U,.int .i64 V,.int .i64 X,.int .i64 Y,.bool Z]⟩,.nilIface]⟩) S)))
theorem adq {l:ah} {bS:ah} {token:ah} {w:World} {R:Value→World→Prop} (h:Mz l bS token w R):Ok Pr GN [.slice l.a l.n l.c,.slice bS.a bS.n bS.c,.slice token.a token.n token.c] w R:=
 aL (m:=⟨true,true⟩) (J:=[]) (L:=[]) aJ Tryz.func109 (by kernel_rfl) ((by kernel_rfl:aK Pr _ _ _ Tryz.f109 _ w R=Mz l bS token w R).mpr h)
def L0 (eE:Int) (eH:Int) (eI:Int) (eJ:Int) (eR:Int) (eX:Bool) (key:Int) (dI:Int) (op:Int) (clock:Int) (w:World) (R:Value→World→Prop):Prop:=
 nw cR [.int .i64 eE,.int .i64 eH,.int .i64 eI,.int .i64 eJ,.int .i64 eR,.bool eX] w fun a b=>
 jh (fun (c:Bool)=>[(43,some (.bool c))])
 (fun c d=>aA c
 (ay Pr qm [.int .i64 10] d fun e f=>
 R e f)
 (R (.nilIface) d))
 (fun g=>
 l5 (Addr.add a 5) b fun i=>
 an .i64 (Addr.add a 1) b fun j=>
 an .i64 (Addr.add a 2) b fun k=>
 aA ((i || (!decide (j=key))) || (!decide (k=dI)))
 (an .i64 (Addr.add a 3) b fun l=>
 an .i64 (Addr.add a 4) b fun m=>
 g true b)
 (ay Pr yA [.int .i64 op,.int .i64 1,.int .i64 13] b fun n o=>
 aU n fun p=>
 an .i64 (Addr.add a 3) o fun q=>
 aA (!p)
 (an .i64 (Addr.add a 4) o fun s=>
 g true o)
 (gT op (an .i64 (Addr.add a 4) o fun t=>
 g ((decide (iu .i64 (shr .i64 q op) 1=0)) || (decide (t<clock))) o))))
theorem acW {eE:Int} {eH:Int} {eI:Int} {eJ:Int} {eR:Int} {eX:Bool} {key:Int} {dI:Int} {op:Int} {clock:Int} {w:World} {R:Value→World→Prop} (h:L0 eE eH eI eJ eR eX key dI op clock w R):Ok Pr LN [.agg ⟨[.int .i64 eE,.int .i64 eH,.int .i64 eI,.int .i64 eJ,.int .i64 eR,.bool eX]⟩,.int .i64 key,.int .i64 dI,.int .i64 op,.int .i64 clock] w R:=
 aL (m:=⟨true,true⟩) (J:=[(2,[(43,.bool)])]) (L:=[]) aJ Tryz.func110 (by kernel_rfl) ((by kernel_rfl:aK Pr _ _ _ Tryz.f110 _ w R=L0 eE eH eI eJ eR eX key dI op clock w R).mpr h)
def L3 (l:ah) (fy:Int) (w:World) (R:Value→World→Prop):Prop:=
 ay Pr AQ [.slice l.a l.n l.c] w fun a b=>
 aU a fun c=>
 aA (!c)
 (ay Pr qm [.int .i64 2] b fun d e=>
 R (.tuple ⟨[.slice none 0 0,d]⟩) e)
 (ay Pr yA [.int .i64 fy,.int .i64 1,.int .i64 (l.n:Int)] b fun f g=>
 aU f fun i=>
 aA (!i)
 (ay Pr qm [.int .i64 9] g fun j k=>
 R (.tuple ⟨[.slice none 0 0,j]⟩) k)
 ((aF (fy - 1)∧
 aQ l.a (fy - 1) l.n
 (l5 (Addr.add (Addr.add (base l.a) (Int.toNat (fy - 1) * 6)) 5) g fun m=>
 aA m
 (ay Pr qm [.int .i64 11] g fun n o=>
 R (.tuple ⟨[.slice none 0 0,n]⟩) o)
 (ay Pr AG [.slice l.a l.n l.c] g fun p q=>
 aT p fun s=>
 (aF (fy - 1)∧
 aQ s.a (fy - 1) s.n
 (st (Addr.add (Addr.add (base s.a) (Int.toNat (fy - 1) * 6)) 5) (.bool true) q fun t=>
 R (.tuple ⟨[.slice s.a s.n s.c,.nilIface]⟩) t)))))))
theorem acX {l:ah} {fy:Int} {w:World} {R:Value→World→Prop} (h:L3 l fy w R):Ok Pr LO [.slice l.a l.n l.c,.int .i64 fy] w R:=
 aL (m:=⟨true,true⟩) (J:=[]) (L:=[]) aJ Tryz.func116 (by kernel_rfl) ((by kernel_rfl:aK Pr _ _ _ Tryz.f116 _ w R=L3 l fy w R).mpr h)
def N7 (l:ah) (eE:Int) (eH:Int) (eI:Int) (eJ:Int) (eR:Int) (eX:Bool) (w:World) (R:Value→World→Prop):Prop:=
 nw cR [.int .i64 eE,.int .i64 eH,.int .i64 eI,.int .i64 eJ,.int .i64 eR,.bool eX] w fun a b=>
 jZ []
 (fun c=>(aF ((l.n:Int)+1)∧
 st (Addr.add a 0) (.int .i64 ((l.n:Int)+1)) c fun d=>
 st (Addr.add a 5) (.bool false) d fun e=>
 iF a (World.drew e) fun f g i j k m=>
 an .i64 (Addr.add a 0) (World.drew e) fun n=>
 ((ay Pr AG [.slice l.a l.n l.c] (World.drew e) fun o p=>
 aT o fun q=>
 (kept (Addr.add a 0) 1 (World.drew e) p∧
 (kept a 6 (World.drew e) p∧
 nw cR [.int .i64 f,.int .i64 g,.int .i64 i,.int .i64 j,.int .i64 k,.bool m] p fun s t=>
 (kept (Addr.add a 0) 1 p t∧
 cH Pr [mo,mo] mo [.slice q.a q.n q.c,.slice (some s) 1 1] t fun u v=>
 (kept (Addr.add a 0) 1 t v∧
 R (.tuple ⟨[.slice u.a u.n u.c,.int .i64 n,.nilIface]⟩) v)))))∧
 (nw cR [.int .i64 f,.int .i64 g,.int .i64 i,.int .i64 j,.int .i64 k,.bool m] (World.drew e) fun x y=>
 (kept (Addr.add a 0) 1 (World.drew e) y∧
 ay Pr AG [.slice l.a l.n l.c] y fun z A=>
 aT z fun B=>
 (kept (Addr.add a 0) 1 y A∧
 (kept a 6 y A∧
 cH Pr [mo,mo] mo [.slice B.a B.n B.c,.slice (some x) 1 1] A fun C D=>
 (kept (Addr.add a 0) 1 A D∧
 R (.tuple ⟨[.slice C.a C.n C.c,.int .i64 n,.nilIface]⟩) D))))))))
 (fun E=>
 jh (fun (F:Bool)=>[(7,some (.bool F))])
 (fun F G=>aA F
 (ay Pr qm [.int .i64 2] G fun I J=>
 R (.tuple ⟨[.slice none 0 0,.int .i64 0,I]⟩) J)
 (aA (decide ((l.n:Int)=8))
 (ay Pr qm [.int .i64 12] G fun L M=>
 R (.tuple ⟨[.slice none 0 0,.int .i64 0,L]⟩) M)
 (E G)))
 (fun N=>
 ay Pr AQ [.slice l.a l.n l.c] b fun O Q=>
 aU O fun S=>
 aA (!S)
 (N (!S) Q)
 (iF a Q fun T U V X Y Z=>
 ay Pr GY [.agg ⟨[.int .i64 T,.int .i64 U,.int .i64 V,.int .i64 X,.int .i64 Y,.bool Z]⟩] Q fun aa ba=>
 aU aa fun ca=>
 N (!ca) ba)))
theorem aeA {l:ah} {eE:Int} {eH:Int} {eI:Int} {eJ:Int} {eR:Int} {eX:Bool} {w:World} {R:Value→World→Prop} (h:N7 l eE eH eI eJ eR eX w R):Ok Pr NF [.slice l.a l.n l.c,.agg ⟨[.int .i64 eE,.int .i64 eH,.int .i64 eI,.int .i64 eJ,.int .i64 eR,.bool eX]⟩] w R:=
 aL (m:=⟨true,true⟩) (J:=[(6,[]),(3,[(7,.bool)])]) (L:=[]) aJ Tryz.func117 (by kernel_rfl) ((by kernel_rfl:aK Pr _ _ _ Tryz.f117 _ w R=N7 l eE eH eI eJ eR eX w R).mpr h)
def MA (bS:ah) (eE:Int) (eH:Int) (eI:Int) (eJ:Int) (eR:Int) (eX:Bool) (w:World) (R:Value→World→Prop):Prop:=
 nw cR [.int .i64 eE,.int .i64 eH,.int .i64 eI,.int .i64 eJ,.int .i64 eR,.bool eX] w fun a b=>
 an .i64 (Addr.add a 0) b fun c=>
 an .i64 (Addr.add a 1) b fun d=>
 an .i64 (Addr.add a 2) b fun e=>
 an .i64 (Addr.add a 3) b fun f=>
 an .i64 (Addr.add a 4) b fun g=>
 nw bG [.int .i64 c,.int .i64 d,.int .i64 e,.int .i64 f,.int .i64 g] b fun i j=>
 ay Pr GZ [.slice none 0 0,.slice (some i) 5 5] j fun k l=>
 aT k fun m=>
 an .i64 (Addr.add a 0) (World.drew l) fun n=>
 ((nw bh [.int .u8 (IntKind.wrap .u8 (n))] (World.drew l) fun o p=>
 nw bJ [.slice bS.a bS.n bS.c] p fun q s=>
 (kept (Addr.add a 0) 1 p s∧
 ay Pr AR [.slice none 0 0,.slice (some q) 1 1] s fun t u=>
 aT t fun v=>
 (kept (Addr.add a 0) 1 s u∧
 nw bJ [.slice v.a v.n v.c,.slice m.a m.n m.c] u fun x y=>
 (kept (Addr.add a 0) 1 u y∧
 ay Pr sN [.int .i64 32,.slice (some x) 2 2] y fun z A=>
 aT z fun B=>
 (kept (Addr.add a 0) 1 y A∧
 cH Pr [bJ,bJ] bJ [.slice (some o) 1 1,.slice B.a B.n B.c] A fun C D=>
 R (.slice C.a C.n C.c) D)))))∧
 (nw bJ [.slice bS.a bS.n bS.c] (World.drew l) fun E F=>
 (kept (Addr.add a 0) 1 (World.drew l) F∧
 ((nw bh [.int .u8 (IntKind.wrap .u8 (n))] F fun G I=>
 ay Pr AR [.slice none 0 0,.slice (some E) 1 1] I fun J L=>
 aT J fun M=>
 (kept (Addr.add a 0) 1 I L∧
 nw bJ [.slice M.a M.n M.c,.slice m.a m.n m.c] L fun N O=>
 (kept (Addr.add a 0) 1 L O∧
 ay Pr sN [.int .i64 32,.slice (some N) 2 2] O fun Q S=>
 aT Q fun T=>
 (kept (Addr.add a 0) 1 O S∧
 cH Pr [bJ,bJ] bJ [.slice (some G) 1 1,.slice T.a T.n T.c] S fun U V=>
 R (.slice U.a U.n U.c) V))))∧
 (ay Pr AR [.slice none 0 0,.slice (some E) 1 1] F fun X Y=>
 aT X fun Z=>
 (kept (Addr.add a 0) 1 F Y∧
 ((nw bh [.int .u8 (IntKind.wrap .u8 (n))] Y fun aa ba=>
 nw bJ [.slice Z.a Z.n Z.c,.slice m.a m.n m.c] ba fun ca da=>
 (kept (Addr.add a 0) 1 ba da∧
 ay Pr sN [.int .i64 32,.slice (some ca) 2 2] da fun ea fa=>
 aT ea fun ga=>
 (kept (Addr.add a 0) 1 da fa∧
 cH Pr [bJ,bJ] bJ [.slice (some aa) 1 1,.slice ga.a ga.n ga.c] fa fun ia ja=>
 R (.slice ia.a ia.n ia.c) ja)))∧
 (nw bJ [.slice Z.a Z.n Z.c,.slice m.a m.n m.c] Y fun ka la=>
 (kept (Addr.add a 0) 1 Y la∧
 ((nw bh [.int .u8 (IntKind.wrap .u8 (n))] la fun ma na=>
 ay Pr sN [.int .i64 32,.slice (some ka) 2 2] na fun oa pa=>
 aT oa fun qa=>
 (kept (Addr.add a 0) 1 na pa∧
 cH Pr [bJ,bJ] bJ [.slice (some ma) 1 1,.slice qa.a qa.n qa.c] pa fun sa ta=>
 R (.slice sa.a sa.n sa.c) ta))∧
 (ay Pr sN [.int .i64 32,.slice (some ka) 2 2] la fun ua va=>
 aT ua fun xa=>
 (kept (Addr.add a 0) 1 la va∧
 nw bh [.int .u8 (IntKind.wrap .u8 (n))] va fun ya za=>
 cH Pr [bJ,bJ] bJ [.slice (some ya) 1 1,.slice xa.a xa.n xa.c] za fun Aa Ba=>
 R (.slice Aa.a Aa.n Aa.c) Ba))))))))))))
theorem ads {bS:ah} {eE:Int} {eH:Int} {eI:Int} {eJ:Int} {eR:Int} {eX:Bool} {w:World} {R:Value→World→Prop} (h:MA bS eE eH eI eJ eR eX w R):Ok Pr GO [.slice bS.a bS.n bS.c,.agg ⟨[.int .i64 eE,.int .i64 eH,.int .i64 eI,.int .i64 eJ,.int .i64 eR,.bool eX]⟩] w R:=
 aL (m:=⟨true,true⟩) (J:=[]) (L:=[]) aJ Tryz.func118 (by kernel_rfl) ((by kernel_rfl:aK Pr _ _ _ Tryz.f118 _ w R=MA bS eE eH eI eJ eR eX w R).mpr h)
def M9 (eE:Int) (eH:Int) (eI:Int) (eJ:Int) (eR:Int) (eX:Bool) (w:World) (R:Value→World→Prop):Prop:=
 nw cR [.int .i64 eE,.int .i64 eH,.int .i64 eI,.int .i64 eJ,.int .i64 eR,.bool eX] w fun a b=>
 an .i64 (Addr.add a 1) b fun c=>
 ay Pr yA [.int .i64 c,.int .i64 1,.int .i64 6] b fun d e=>
 aU d fun f=>
 an .i64 (Addr.add a 2) e fun g=>
 aA f
 (ay Pr yA [.int .i64 g,.int .i64 1,.int .i64 6] e fun i j=>
 aU i fun k=>
 an .i64 (Addr.add a 4) j fun l=>
 aA k
 (ay Pr yA [.int .i64 l,.int .i64 1,.int .i64 1099511627776] j fun m n=>
 aU m fun o=>
 an .i64 (Addr.add a 3) n fun p=>
 an .i64 (Addr.add a 3) n fun q=>
 R (.bool ((o && (!decide (p=0))) && (decide (uS .i64 q 3584=0)))) n)
 (an .i64 (Addr.add a 3) j fun s=>
 an .i64 (Addr.add a 3) j fun t=>
 R (.bool false) j))
 (an .i64 (Addr.add a 4) e fun u=>
 an .i64 (Addr.add a 3) e fun v=>
 an .i64 (Addr.add a 3) e fun x=>
 R (.bool false) e)
theorem adT {eE:Int} {eH:Int} {eI:Int} {eJ:Int} {eR:Int} {eX:Bool} {w:World} {R:Value→World→Prop} (h:M9 eE eH eI eJ eR eX w R):Ok Pr GY [.agg ⟨[.int .i64 eE,.int .i64 eH,.int .i64 eI,.int .i64 eJ,.int .i64 eR,.bool eX]⟩] w R:=
 aL (m:=⟨true,true⟩) (J:=[]) (L:=[]) aJ Tryz.func125 (by kernel_rfl) ((by kernel_rfl:aK Pr _ _ _ Tryz.f125 _ w R=M9 eE eH eI eJ eR eX w R).mpr h)
def Gw (s:ah) (f:Value) (w:World) (R:Value→World→Prop):Prop:=
 cZ (fun (a:Int)=>[(8,some (.int .i64 a))])
 (fun b a c=>aA (decide (a<(s.n:Int)))
 (aQ s.a a s.n
 (iF (Addr.add (base s.a) (Int.toNat a * 6)) c fun d e g i j k=>
 lJ Pr f [.agg ⟨[.int .i64 d,.int .i64 e,.int .i64 g,.int .i64 i,.int .i64 j,.bool k]⟩] c fun l m=>
 aU l fun n=>
 aA n
 (R (.int .i64 a) m)
 ((aF (a+1)∧
 b (a+1) m))))
 (R (.int .i64 (-1:Int)) c))
 0 w
theorem Un {s:ah} {f:Value} {w:World} {R:Value→World→Prop} (h:Gw s f w R):Ok Pr CU [.slice s.a s.n s.c,f] w R:=
 aL (m:=⟨true,true⟩) (J:=[]) (L:=[(2,[(8,.int .i64)])]) aJ Tryz.func129 (by kernel_rfl) ((by kernel_rfl:aK Pr _ _ _ Tryz.f129 _ w R=Gw s f w R).mpr h)
def MB (code:Int) (w:World) (R:Value→World→Prop):Prop:=
 nw oW [.int .i64 code,.string ajv] w fun a b=>
 R (.iface ju (.pointer (some a))) b
theorem adt {code:Int} {w:World} {R:Value→World→Prop} (h:MB code w R):Ok Pr qm [.int .i64 code] w R:=
 aL (m:=⟨true,true⟩) (J:=[]) (L:=[]) aJ Tryz.func151 (by kernel_rfl) ((by kernel_rfl:aK Pr _ _ _ Tryz.f151 _ w R=MB code w R).mpr h)
def LH (eE:Int) (eH:Int) (eI:Int) (eJ:Int) (eR:Int) (eX:Bool) (free:Addr) (kA:Addr) (w:World) (R:Value→World→Prop):Prop:=
 nw cR [.int .i64 eE,.int .i64 eH,.int .i64 eI,.int .i64 eJ,.int .i64 eR,.bool eX] w fun a b=>
 ax free (World.drew b) fun c=>
 iF a (World.drew b) fun d e f g i j=>
 ax kA (World.drew b) fun k=>
 ay Pr GO [.slice c.a c.n c.c,.agg ⟨[.int .i64 d,.int .i64 e,.int .i64 f,.int .i64 g,.int .i64 i,.bool j]⟩] (World.drew b) fun l m=>
 aT l fun n=>
 (kept kA 1 (World.drew b) m∧
 ay Pr C9 [.slice n.a n.n n.c,.slice k.a k.n k.c] m fun o p=>
 aU o fun q=>
 R (.bool q) p)
theorem acH {eE:Int} {eH:Int} {eI:Int} {eJ:Int} {eR:Int} {eX:Bool} {free:Addr} {kA:Addr} {w:World} {R:Value→World→Prop} (h:LH eE eH eI eJ eR eX free kA w R):Ok Pr wj [.agg ⟨[.int .i64 eE,.int .i64 eH,.int .i64 eI,.int .i64 eJ,.int .i64 eR,.bool eX]⟩,.pointer (some free),.pointer (some kA)] w R:=
 aL (m:=⟨true,true⟩) (J:=[]) (L:=[]) aJ Tryz.func152 (by kernel_rfl) ((by kernel_rfl:aK Pr _ _ _ Tryz.f152 _ w R=LH eE eH eI eJ eR eX free kA w R).mpr h)
def Pd (n:Int) (lo:Int) (hi:Int) (w:World) (R:Value→World→Prop):Prop:=
 R (.bool ((decide (lo≤n)) && (decide (n≤hi)))) w
theorem afl {n:Int} {lo:Int} {hi:Int} {w:World} {R:Value→World→Prop} (h:Pd n lo hi w R):Ok Pr yA [.int .i64 n,.int .i64 lo,.int .i64 hi] w R:=
 aL (m:=⟨true,true⟩) (J:=[]) (L:=[]) aJ Tryz.func154 (by kernel_rfl) ((by kernel_rfl:aK Pr _ _ _ Tryz.f154 _ w R=Pd n lo hi w R).mpr h)
end Go.Proofs.YtgjoehgomjgckaaGreatDoor
end
section
set_option linter.unusedVariables false
set_option linter.unusedSimpArgs false
namespace Go.Proofs.YtgjoehgomjgckaaGreatDoor
open Go Go.Ev
set_option maxRecDepth 20000
set_option linter.unusedVariables false
structure bO where
 (n0 n1 n2 n3 n4:Int)
 rev:Bool
@[reducible] def bO.cells (g:bO):List Value:=qY g.n0 g.n1 g.n2 g.n3 g.n4 g.rev
def gz:bO:=⟨0,0,0,0,0,false⟩
def e8 (l:List bO):List Value:=(l.map bO.cells).flatten
theorem ah9 (a b:List bO):e8 (a ++ b)=e8 a ++ e8 b:=by simp [e8]
theorem Qk (l:List bO):(e8 l).length=6 * l.length:=by
 induction l with
 | nil=>rfl
 | cons a r ih=>
  show (a.cells ++ e8 r).length=_
  rw [List.length_append,ih]
  show 6+6 * r.length=6 * (r.length+1)
  omega
theorem Yx:∀ (l:List bO) (i j:Nat) (v:Value),i<l.length→(l.getD i gz).cells[j]? = some v→(e8 l)[i * 6+j]? = some v
 | [],i,j,v,h,_=>by simp at h
 | a :: r,0,j,v,_,h=>by
  show (a.cells ++ e8 r)[0 * 6+j]? = _
  have h:a.cells[j]? = some v:=h
  rw [Nat.zero_mul,Nat.zero_add,List.getElem?_append_left (List.getElem?_eq_some_iff.1 h).1]
  exact h
 | a :: r,i+1,j,v,hi,h=>by
  show (a.cells ++ e8 r)[(i+1) * 6+j]? = _
  have hl:a.cells.length=6:=rfl
  rw [List.getElem?_append_right (by omega),hl,show (i+1) * 6+j - 6=i * 6+j by omega]
  exact Yx r i j v (by simpa using hi) (by simpa using h)
theorem Rb (l:List bO):∀ v∈e8 l,ek v=true:=by
 intro v hv
 obtain ⟨c,hc,hv⟩:=List.mem_flatten.1 hv
 obtain ⟨g,-,rfl⟩:=List.mem_map.1 hc
 simp only [List.mem_cons,List.not_mem_nil,or_false] at hv
 rcases hv with rfl | rfl | rfl | rfl | rfl | rfl <;> rfl
def gR (w:World) (s:ah) (l:List bO):Prop:=Sl w s 6 (e8 l)
theorem gR.len {w:World} {s:ah} {l:List bO} (h:gR w s l):l.length=s.n:=by
 have:=Sl.len h
 rw [Qk] at this
 omega
theorem gR.aE {w w':World} {s:ah} {l:List bO} (h:gR w s l) (m:Mod [] w w'):gR w' s l:=Sl.aE h m
theorem gR.nil (w:World):gR w ⟨none,0,0⟩ []:=Sl.nil w 6
theorem gR.cell {w:World} {s:ah} {l:List bO} (h:gR w s l) {i j:Nat} {v:Value} (hi:i<l.length) (hv:(l.getD i gz).cells[j]? = some v):w.cell? (Addr.add (Addr.add (base s.a) (i * 6)) j)=some v:=by
 rw [add_add]
 exact Sl.cell h _ _ (Yx l i j v hi hv)
theorem gR.ld {w:World} {s:ah} {l:List bO} (h:gR w s l) {i:Nat} (hi:i<l.length) {x:Int} (hx:x=(i:Int)) {K:Int→Int→Int→Int→Int→Bool→Prop} (hk:K (l.getD i gz).n0 (l.getD i gz).n1 (l.getD i gz).n2 (l.getD i gz).n3 (l.getD i gz).n4 (l.getD i gz).rev) :
  aQ s.a x s.n (iF (Addr.add (base s.a) (Int.toNat x * 6)) w K):=by
 subst hx
 have hl:=h.len
 refine ⟨⟨Sl.pre h (by omega),by omega,by omega⟩,?_⟩
 rw [Int.toNat_natCast]
 exact LY (fun j v hv=>h.cell hi hv) hk
theorem RP:e6 Pr mo cR 6 48:=e6.of (by kernel_rfl)
theorem C5 (c:Int) (hc:c≠0) (w:World):Ok Pr qm [.int .i64 c] w fun v w'=>cO w w' v c∧Mod [] w w':=by
 refine adt ?_
 unfold MB
 exact qv fun b w' hb h1 h2 _=>⟨cO.mk h1 (by omega) hc,h2⟩
theorem Dr (n lo hi:Int) (w:World):Ok Pr yA [.int .i64 n,.int .i64 lo,.int .i64 hi] w fun v w'=>v=.bool (aP lo hi n)∧w'=w:=by
 refine afl ?_
 unfold Pd
 exact ⟨rfl,rfl⟩
def kY (g:bO):Bool:=aP 1 6 g.n1 && (aP 1 6 g.n2 && (aP 1 1099511627776 g.n4 && ((!decide (g.n3=0)) && decide (uS .i64 g.n3 3584=0))))
theorem U1 (g:bO) (w:World):Ok Pr GY [.agg ⟨g.cells⟩] w fun v w'=>v=.bool (kY g)∧Mod [] w w':=by
 refine adT ?_
 unfold M9
 refine (ak.start w).nw fun p w1 H _=>?_
 unfold kY
 refine H.an 0 rfl (au p 1) rfl (aB (Dr _ _ _ _) ?_)
 rintro _ w2 ⟨rfl,hw⟩
 subst hw
 refine bk (H.an 0 rfl (au p 2) rfl (bU (fun h1=>?_) (fun h1=>?_)))
 ·rw [h1,Bool.true_and]
  refine aB (Dr _ _ _ _) ?_
  rintro _ w3 ⟨rfl,hw⟩
  subst hw
  refine bk (H.an 0 rfl (au p 4) rfl (bU (fun h2=>?_) (fun h2=>?_)))
  ·rw [h2,Bool.true_and]
   refine aB (Dr _ _ _ _) ?_
   rintro _ w4 ⟨rfl,hw⟩
   subst hw
   refine bk (H.an 0 rfl (au p 3) rfl (H.an 0 rfl (au p 3) rfl ⟨?_,H.mod⟩))
   rw [Bool.and_assoc]
  ·rw [h2]
   exact H.an 0 rfl (au p 3) rfl (H.an 0 rfl (au p 3) rfl ⟨rfl,H.mod⟩)
 ·rw [h1]
  exact H.an 0 rfl (au p 4) rfl (H.an 0 rfl (au p 3) rfl (H.an 0 rfl (au p 3) rfl ⟨rfl,H.mod⟩))
theorem ak9 {x:Int} (h:x<0) (h2:-9223372036854775808≤x):¬ uS .i64 x 3584=0:=by
 intro he
 unfold uS at he
 have hm:(BitVec.ofInt 64 x).msb=true:=by
  rw [BitVec.msb_eq_decide,BitVec.toNat_ofInt]
  refine decide_eq_true ?_
  omega
 have hv:(BitVec.ofInt 64 x &&& ~~~ BitVec.ofInt 64 3584).msb=true:=by
  rw [BitVec.msb_and,hm]
  decide
 have hn:=BitVec.msb_eq_decide (BitVec.ofInt 64 x &&& ~~~ BitVec.ofInt 64 3584)
 rw [hv] at hn
 have hn:=of_decide_eq_true hn.symm
 have bX:=(BitVec.ofInt 64 x &&& ~~~ BitVec.ofInt 64 3584).isLt
 have he:IntKind.wrap .i64 (((BitVec.ofInt 64 x &&& ~~~ BitVec.ofInt 64 3584).toNat:Nat):Int)=0:=he
 generalize (BitVec.ofInt 64 x &&& ~~~ BitVec.ofInt 64 3584).toNat=n at *
 have e:IntKind.wrap .i64 (n:Int)=(n:Int) - 18446744073709551616:=by
  have e:IntKind.wrap .i64 (n:Int)=if (n:Int) % 18446744073709551616 ≥ 9223372036854775808 then (n:Int) % 18446744073709551616 - 18446744073709551616 else (n:Int) % 18446744073709551616:=by
   simp [IntKind.wrap,IntKind.signed,IntKind.bits]
  rw [e,if_pos (by omega)]
  omega
 omega
def bO.fit (g:bO):Prop:=-9223372036854775808≤g.n3
theorem agV (g:bO) (hf:g.fit) (w:World):Ok Pr OF [.agg ⟨g.cells⟩] w fun v w'=>v=.bool (kY g)∧Mod [] w w':=by
 refine afk ?_
 unfold Pc
 refine (ak.start w).nw fun p w1 H _=>?_
 refine H.an 0 rfl (au p 1) rfl (H.an 0 rfl (au p 1) rfl (H.an 0 rfl (au p 2) rfl (H.an 0 rfl (au p 2) rfl (H.an 0 rfl (au p 4) rfl (H.an 0 rfl (au p 4) rfl (H.an 0 rfl (au p 3) rfl (H.an 0 rfl (au p 3) rfl ⟨?_,H.mod⟩)))))))
 congr 1
 unfold kY aP
 have e:(decide ((0:Int)<g.n3) && decide (uS .i64 g.n3 3584=0))=((!decide (g.n3=0)) && decide (uS .i64 g.n3 3584=0)):=by
  rcases Int.lt_trichotomy g.n3 0 with h | h | h
  ·rw [decide_eq_false (ak9 h hf),Bool.and_false,Bool.and_false]
  ·rw [h]; rfl
  ·rw [decide_eq_true h,decide_eq_false (show ¬ g.n3=0 by omega)]; rfl
 rw [← e]
 simp only [Bool.and_assoc]
def pJ (l:List bO):Nat→Bool
 | 0=>true
 | i+1=>pJ l i && (decide ((l.getD i gz).n0=(i:Int)+1) && kY (l.getD i gz))
def gp (l:List bO):Bool:=pJ l l.length && decide (l.length≤8)
theorem Yy {l:List bO} {i:Nat} (hi:i<l.length) (h:(decide ((l.getD i gz).n0=(i:Int)+1) && kY (l.getD i gz))=false):pJ l l.length=false:=by
 have:∀ k,i<k→pJ l k=false:=by
  intro k hk
  induction k with
  | zero=>omega
  | succ k ih=>
   unfold pJ
   rcases Nat.lt_or_ge i k with h1 | h1
   ·rw [ih h1]; rfl
   ·have:k=i:=by omega
    subst this
    rw [h,Bool.and_false]
 exact this _ hi
theorem G5 (x:ah) (l:List bO) (hl:l.length≤1000000) (w:World) (hx:gR w x l):Ok Pr AQ [.slice x.a x.n x.c] w fun v w'=>v=.bool (gp l)∧Mod [] w w':=by
 refine aez ?_
 unfold N6
 have bT:=hx.len
 have pQ:zc Pr cR=gz.cells:=by kernel_rfl
 rw [pQ]
 unfold gp
 refine dw 0 l.length (fun i w'=>ak w [] w' []∧pJ l i=true) rfl (by omega) ⟨ak.start w,rfl⟩ ?_ ?_
 ·rintro again i w1 _ hi ⟨H,ho⟩ aM
  refine ite_true (decide_eq_true (by omega)) ((hx.aE H.mod).ld hi rfl (H.nw fun p w2 H _=>H.om 0 rfl rfl fun w3 H=>?_))
  have dA:=Yy (l:=l) hi
  have nO:pJ l (i+1)=(pJ l i && (decide ((l.getD i gz).n0=(i:Int)+1) && kY (l.getD i gz))):=rfl
  generalize l.getD i gz=g at *
  refine H.an 0 rfl (au p 0) rfl ⟨⟨by omega,by omega⟩,H.iF 0 rfl (bU (fun h=>?_) (fun h=>?_))⟩
  ·have h:decide (g.n0=(i:Int)+1)=false:=by simpa using h
   rw [dA (by rw [h]; rfl)]
   exact ⟨rfl,H.mod⟩
  ·have h:decide (g.n0=(i:Int)+1)=true:=by simpa using h
   refine aB (U1 g _) ?_
   rintro _ w4 ⟨rfl,m4⟩
   have H:=H.frame m4
   refine bk (bU (fun h2=>?_) (fun h2=>?_))
   ·have h2:kY g=false:=by simpa using h2
    rw [dA (by rw [h2,Bool.and_false])]
    exact ⟨rfl,H.mod⟩
   ·have h2:kY g=true:=by simpa using h2
    refine ⟨⟨by omega,by omega⟩,aM w4 ⟨H.take 0,?_⟩⟩
    rw [nO,ho,h,h2]; rfl
 ·rintro again w1 ⟨H,ho⟩
  refine ite_false (decide_eq_false (by omega)) ⟨?_,H.mod⟩
  rw [ho,Bool.true_and]
  congr 1
  exact decide_eq_decide.2 (by omega)
theorem agW (x:ah) (l:List bO) (hf:∀ g∈l,g.fit) (hl:l.length≤1000000) (w:World) (hx:gR w x l):Ok Pr OC [.slice x.a x.n x.c] w fun v w'=>v=.bool (gp l)∧Mod [] w w':=by
 refine afj ?_
 unfold Pb
 have bT:=hx.len
 unfold gp
 refine dw 0 l.length (fun i w'=>ak w [] w' []∧pJ l i=true) rfl (by omega) ⟨ak.start w,rfl⟩ ?_ ?_
 ·rintro again i w1 _ hi ⟨H,ho⟩ aM
  refine bU (fun hc=>?_) (fun hc=>?_)
  ·have J1:=hx.aE H.mod
   have nt:=J1.cell (i:=i) (j:=0) hi rfl
   refine ⟨⟨Sl.pre hx (by omega),by omega,by omega⟩,(l.getD i gz).n0,by rw [Int.toNat_natCast]; exact nt,⟨by omega,by omega⟩,?_⟩
   have dA:=Yy (l:=l) hi
   have nO:pJ l (i+1)=(pJ l i && (decide ((l.getD i gz).n0=(i:Int)+1) && kY (l.getD i gz))):=rfl
   have Js:=hf (l.getD i gz) (by simp [hi])
   refine bU (fun h=>?_) (fun h=>J1.ld hi rfl ?_)
   ·have h:decide ((l.getD i gz).n0=(i:Int)+1)=false:=by simpa using h
    rw [dA (by rw [h]; rfl)]
    exact ⟨rfl,H.mod⟩
   ·have h:decide ((l.getD i gz).n0=(i:Int)+1)=true:=by simpa using h
    refine aB (agV (l.getD i gz) Js _) ?_
    rintro _ w4 ⟨rfl,m4⟩
    have H:=H.frame m4
    refine bk (bU (fun h2=>?_) (fun h2=>?_))
    ·have h2:kY (l.getD i gz)=false:=by simpa using h2
     rw [dA (by rw [h2,Bool.and_false])]
     exact ⟨rfl,H.mod⟩
    ·have h2:kY (l.getD i gz)=true:=by simpa using h2
     refine ⟨⟨by omega,by omega⟩,aM w4 ⟨H,?_⟩⟩
     rw [nO,ho,h,h2]; rfl
  ·have h8:¬ l.length≤8:=by
    intro h8
    simp only [Bool.and_eq_false_iff,decide_eq_false_iff_not] at hc
    omega
   refine ⟨?_,H.mod⟩
   rw [decide_eq_false h8,Bool.and_false]
   congr 1
   exact decide_eq_false (by omega)
 ·rintro again w1 ⟨H,ho⟩
  refine ite_false (by rw [decide_eq_false (show ¬ ((l.length:Nat):Int)<((x.n:Nat):Int) by omega)]; rfl) ⟨?_,H.mod⟩
  rw [ho,Bool.true_and]
  congr 1
  exact decide_eq_decide.2 (by omega)
theorem GI (x:ah) (l:List bO) (hl:l.length≤1000000) (w:World) (hx:gR w x l):Ok Pr AG [.slice x.a x.n x.c] w fun v w'=>∃ y:ah,v=.slice y.a y.n y.c∧Own w' w.heap.size cR 6 y (e8 l)∧y.n=x.n∧Mod [] w w':=by
 refine abO ?_
 unfold Kv
 have bT:=hx.len
 refine bU (fun h=>?_) (fun h=>?_)
 ·have h0:x.n=0:=by
   rcases Nat.eq_zero_or_pos x.n with e | e
   ·exact e
   ·have:=Sl.pre hx e
    cases ha:x.a with
    | none=>rw [ha] at this; cases this
    | some a=>rw [ha] at h; cases h
  obtain rfl:l=[]:=List.eq_nil_of_length_eq_zero (by omega)
  exact ⟨⟨none,0,0⟩,rfl,Own.nil _ _ _ _,h0.symm,Mod.refl _ _⟩
 ·refine (ak.start w).nw fun p w1 H _=>?_
  have H:=H.rz 0 6 0 0 rfl rfl (Nat.le_refl _) (by simp only [maxLen]; omega)
  refine H.app (s:=⟨some ⟨p,0,none⟩,0,0⟩) (vs:=[]) 0 RP rfl (hx.aE H.mod) (Rb l) (by show (0+x.n) * 48≤_; omega) (by show 0+x.n≤_; omega) fun y w2 H hy=>?_
  exact ⟨y,rfl,H.fN 0 rfl,by rw [hy]; exact Nat.zero_add _,H.mod⟩
end Go.Proofs.YtgjoehgomjgckaaGreatDoor
end
section
set_option linter.unusedVariables false
set_option linter.unusedSimpArgs false
namespace Go.Proofs.YtgjoehgomjgckaaGreatDoor
open Go Go.Ev
set_option maxRecDepth 100000
set_option linter.unusedVariables false
def N8 (cQ:Int) (bK:ah) (bL:ah) (bP:ah) (bQ:ah) (bR:ah) (w:World) (R:Value→World→Prop):Prop:=
 nw aN [.int .i64 cQ,.slice bK.a bK.n bK.c,.slice bL.a bL.n bL.c,.slice bP.a bP.n bP.c,.slice bQ.a bQ.n bQ.c,.slice bR.a bR.n bR.c] w fun a b=>
 nw aN (zc Pr aN) b fun c d=>
 ax (Addr.add a 1) d fun e=>
 cH Pr [bJ,bJ] bJ [.slice none 0 0,.slice e.a e.n e.c] d fun f g=>
 st (Addr.add a 1) (.slice f.a f.n f.c) g fun i=>
 ax (Addr.add a 2) i fun j=>
 cH Pr [sP,sP] sP [.slice none 0 0,.slice j.a j.n j.c] i fun k l=>
 st (Addr.add a 2) (.slice k.a k.n k.c) l fun m=>
 ax (Addr.add a 3) m fun n=>
 cH Pr [sQ,sQ] sQ [.slice none 0 0,.slice n.a n.n n.c] m fun o p=>
 st (Addr.add a 3) (.slice o.a o.n o.c) p fun q=>
 cZ (fun (s:Int)=>[(3,some (.int .i64 s))])
 (fun t s u=>ax (Addr.add a 3) u fun v=>
 aA (decide (s<(v.n:Int)))
 (ax (Addr.add a 3) (World.drew u) fun x=>
 ax (Addr.add a 3) (World.drew u) fun y=>
 aQ y.a s y.n
 (ax (Addr.add (Addr.add (base y.a) (Int.toNat s * 5)) 2) (World.drew u) fun z=>
 cH Pr [bJ,bJ] bJ [.slice none 0 0,.slice z.a z.n z.c] (World.drew u) fun A B=>
 (kept (Addr.add a 3) 1 (World.drew u) B∧
 aQ x.a s x.n
 (st (Addr.add (Addr.add (base x.a) (Int.toNat s * 5)) 2) (.slice A.a A.n A.c) B fun C=>
 (aF (s+1)∧
 t (s+1) C)))))
 (ax (Addr.add a 4) u fun D=>
 cH Pr [sS,sS] sS [.slice none 0 0,.slice D.a D.n D.c] u fun E F=>
 st (Addr.add a 4) (.slice E.a E.n E.c) F fun G=>
 cZ (fun (I:Int)=>[(4,some (.int .i64 I))])
 (fun J I L=>ax (Addr.add a 4) L fun M=>
 aA (decide (I<(M.n:Int)))
 (ax (Addr.add a 4) (World.drew L) fun N=>
 ax (Addr.add a 4) (World.drew L) fun O=>
 aQ O.a I O.n
 (bu (Addr.add (base O.a) (Int.toNat I * 4)) (World.drew L) fun Q S T U=>
 ay Pr NB [.agg ⟨[.int .i64 Q,.int .i64 S,.int .i64 T,.slice U.a U.n U.c]⟩] (World.drew L) fun V X=>
 qZ V fun Y Z aa ba=>
 (kept (Addr.add a 4) 1 (World.drew L) X∧
 aQ N.a I N.n
 (cD (Addr.add (base N.a) (Int.toNat I * 4)) Y Z aa ba X fun ca=>
 (aF (I+1)∧
 J (I+1) ca)))))
 (ax (Addr.add a 5) L fun da=>
 cH Pr [mo,mo] mo [.slice none 0 0,.slice da.a da.n da.c] L fun ea fa=>
 st (Addr.add a 5) (.slice ea.a ea.n ea.c) fa fun ga=>
 bN a ga fun ia ja ka la ma na=>
 bI c ia ja ka la ma na ga fun oa=>
 bN c oa fun pa qa sa ta ua va=>
 R (.agg ⟨[.int .i64 pa,.slice qa.a qa.n qa.c,.slice sa.a sa.n sa.c,.slice ta.a ta.n ta.c,.slice ua.a ua.n ua.c,.slice va.a va.n va.c]⟩) oa))
 0 G))
 0 q
theorem aeB {cQ:Int} {bK:ah} {bL:ah} {bP:ah} {bQ:ah} {bR:ah} {w:World} {R:Value→World→Prop} (h:N8 cQ bK bL bP bQ bR w R):Ok Pr Nz [.agg ⟨[.int .i64 cQ,.slice bK.a bK.n bK.c,.slice bL.a bL.n bL.c,.slice bP.a bP.n bP.c,.slice bQ.a bQ.n bQ.c,.slice bR.a bR.n bR.c]⟩] w R:=
 aL (m:=⟨true,true⟩) (J:=[]) (L:=[(5,[(3,.int .i64)]),(10,[(4,.int .i64)])]) aJ Tryz.func22 (by kernel_rfl) ((by kernel_rfl:aK Pr _ _ _ Tryz.f22 _ w R=N8 cQ bK bL bP bQ bR w R).mpr h)
def Pe (cQ:Int) (bK:ah) (bL:ah) (bP:ah) (bQ:ah) (bR:ah) (w:World) (R:Value→World→Prop):Prop:=
 nw aN [.int .i64 cQ,.slice bK.a bK.n bK.c,.slice bL.a bL.n bL.c,.slice bP.a bP.n bP.c,.slice bQ.a bQ.n bQ.c,.slice bR.a bR.n bR.c] w fun a b=>
 jZ []
 (fun c=>cZ (fun (d:Int)=>[(3,some (.int .i64 d))])
 (fun e d f=>ax (Addr.add a 5) f fun g=>
 aA (decide (d<(g.n:Int)))
 (ax (Addr.add a 5) (World.drew f) fun i=>
 aQ i.a d i.n
 (an .i64 (Addr.add (Addr.add (base i.a) (Int.toNat d * 6)) 1) (World.drew f) fun j=>
 ax (Addr.add a 4) (World.drew f) fun k=>
 ax (Addr.add a 5) (World.drew f) fun l=>
 aA (decide ((k.n:Int)<j))
 (R (.bool false) (World.drew f))
 (aQ l.a d l.n
 (an .i64 (Addr.add (Addr.add (base l.a) (Int.toNat d * 6)) 2) (World.drew f) fun m=>
 ax (Addr.add a 3) (World.drew f) fun n=>
 aA (decide ((n.n:Int)<m))
 (R (.bool false) (World.drew f))
 ((aF (d+1)∧
 e (d+1) (World.drew f)))))))
 (R (.bool true) f))
 0 c)
 (fun o=>
 an .i64 (Addr.add a 0) b fun p=>
 an .i64 (Addr.add a 0) b fun q=>
 ax (Addr.add a 1) b fun s=>
 ax (Addr.add a 2) b fun t=>
 ax (Addr.add a 2) b fun u=>
 aA ((((decide (p<0)) || (decide (1099511627776<q))) || (!decide ((s.n:Int)=32))) || (decide ((t.n:Int)<1)))
 (bN a b fun v x y z A B=>
 bN a b fun C D E F G I=>
 ax (Addr.add a 5) b fun J=>
 R (.bool false) b)
 (ay Pr OB [.slice u.a u.n u.c] b fun L M=>
 aU L fun N=>
 bN a M fun O Q S T U V=>
 aA (!N)
 (bN a M fun X Y Z aa ba ca=>
 ax (Addr.add a 5) M fun da=>
 R (.bool false) M)
 (ay Pr Mn [.agg ⟨[.int .i64 O,.slice Q.a Q.n Q.c,.slice S.a S.n S.c,.slice T.a T.n T.c,.slice U.a U.n U.c,.slice V.a V.n V.c]⟩] M fun ea fa=>
 aU ea fun ga=>
 bN a fa fun ia ja ka la ma na=>
 aA (!ga)
 (ax (Addr.add a 5) fa fun oa=>
 R (.bool false) fa)
 (ay Pr NC [.agg ⟨[.int .i64 ia,.slice ja.a ja.n ja.c,.slice ka.a ka.n ka.c,.slice la.a la.n la.c,.slice ma.a ma.n ma.c,.slice na.a na.n na.c]⟩] fa fun pa qa=>
 aU pa fun sa=>
 ax (Addr.add a 5) qa fun ta=>
 aA (!sa)
 (R (.bool false) qa)
 (ay Pr OC [.slice ta.a ta.n ta.c] qa fun ua va=>
 aU ua fun xa=>
 aA (!xa)
 (R (.bool false) va)
 (o va))))))
theorem afm {cQ:Int} {bK:ah} {bL:ah} {bP:ah} {bQ:ah} {bR:ah} {w:World} {R:Value→World→Prop} (h:Pe cQ bK bL bP bQ bR w R):Ok Pr OA [.agg ⟨[.int .i64 cQ,.slice bK.a bK.n bK.c,.slice bL.a bL.n bL.c,.slice bP.a bP.n bP.c,.slice bQ.a bQ.n bQ.c,.slice bR.a bR.n bR.c]⟩] w R:=
 aL (m:=⟨true,true⟩) (J:=[(3,[])]) (L:=[(4,[(3,.int .i64)])]) aJ Tryz.func24 (by kernel_rfl) ((by kernel_rfl:aK Pr _ _ _ Tryz.f24 _ w R=Pe cQ bK bL bP bQ bR w R).mpr h)
def Nd (name:ByteArray) (verify:ah) (bS:ah) (w:World) (R:Value→World→Prop):Prop:=
 nw aN (zc Pr aN) w fun a b=>
 nw dV [.int .i64 1,.int .i64 0,.string name] b fun c d=>
 nw fR [.int .i64 1,.int .i64 1,.slice verify.a verify.n verify.c,.int .i64 0,.int .u64 0] d fun e f=>
 ay Pr Nz [.agg ⟨[.int .i64 0,.slice bS.a bS.n bS.c,.slice (some c) 1 1,.slice (some e) 1 1,.slice none 0 0,.slice none 0 0]⟩] f fun g i=>
 dJ g fun j k l m n o=>
 nw aN (zc Pr aN) i fun p q=>
 bI p j k l m n o q fun s=>
 bN p s fun t u v x y z=>
 ay Pr OA [.agg ⟨[.int .i64 t,.slice u.a u.n u.c,.slice v.a v.n v.c,.slice x.a x.n x.c,.slice y.a y.n y.c,.slice z.a z.n z.c]⟩] s fun A B=>
 aU A fun C=>
 aA (!C)
 (bI a 0 ⟨none,0,0⟩ ⟨none,0,0⟩ ⟨none,0,0⟩ ⟨none,0,0⟩ ⟨none,0,0⟩ B fun D=>
 bN a D fun E F G I J L=>
 R (.tuple ⟨[.agg ⟨[.int .i64 E,.slice F.a F.n F.c,.slice G.a G.n G.c,.slice I.a I.n I.c,.slice J.a J.n J.c,.slice L.a L.n L.c]⟩,.int .i64 2]⟩) D)
 (bN p B fun M N O Q S T=>
 bI a M N O Q S T B fun U=>
 bN a U fun V X Y Z aa ba=>
 R (.tuple ⟨[.agg ⟨[.int .i64 V,.slice X.a X.n X.c,.slice Y.a Y.n Y.c,.slice Z.a Z.n Z.c,.slice aa.a aa.n aa.c,.slice ba.a ba.n ba.c]⟩,.int .i64 0]⟩) U)
theorem adU {name:ByteArray} {verify:ah} {bS:ah} {w:World} {R:Value→World→Prop} (h:Nd name verify bS w R):Ok Pr oT [.string name,.slice verify.a verify.n verify.c,.slice bS.a bS.n bS.c] w R:=
 aL (m:=⟨true,true⟩) (J:=[]) (L:=[]) aJ Tryz.func26 (by kernel_rfl) ((by kernel_rfl:aK Pr _ _ _ Tryz.f26 _ w R=Nd name verify bS w R).mpr h)
def Pf (cQ:Int) (bK:ah) (bL:ah) (bP:ah) (bQ:ah) (bR:ah) (w:World) (R:Value→World→Prop):Prop:=
 nw aN [.int .i64 cQ,.slice bK.a bK.n bK.c,.slice bL.a bL.n bL.c,.slice bP.a bP.n bP.c,.slice bQ.a bQ.n bQ.c,.slice bR.a bR.n bR.c] w fun a b=>
 jZ []
 (fun c=>ay Pr G7 [.int .i64 1] c fun d e=>
 br.bC d fun f=>
 aC f fun g i=>
 aY .i64 g fun j=>
 aC i fun k l=>
 aY .i64 k fun m=>
 aC l fun n o=>
 aY .i64 n fun p=>
 (o=[]∧
 ax (Addr.add a 3) e fun q=>
 cZ (fun (s:Int)=>[(59,some (.int .i64 s))])
 (fun t s u=>aA (decide (s<(q.n:Int)))
 (aQ q.a s q.n
 (MU (Addr.add (base q.a) (Int.toNat s * 5)) u fun v x y z A=>
 nw fR (zc Pr fR) u fun B C=>
 AK B v x y z A C fun D=>
 an .i64 (Addr.add B 0) D fun E=>
 (aF (s+1)∧
 an .i64 (Addr.add B 1) D fun F=>
 ax (Addr.add a 2) D fun G=>
 aA (!decide (E=s+1))
 (ax (Addr.add B 2) D fun I=>
 an .i64 (Addr.add B 3) D fun J=>
 an .u64 (Addr.add B 4) D fun L=>
 R (.bool false) D)
 (ay Pr A7 [.int .i64 F,.int .i64 1,.int .i64 (G.n:Int)] D fun M N=>
 aU M fun O=>
 ax (Addr.add B 2) N fun Q=>
 an .i64 (Addr.add B 3) N fun S=>
 an .u64 (Addr.add B 4) N fun T=>
 aA ((!O) || (!decide ((Q.n:Int)=j)))
 (R (.bool false) N)
 (ay Pr Dm [.int .i64 S,.int .u64 T] N fun U V=>
 aU U fun X=>
 aA (!X)
 (R (.bool false) V)
 ((aF (s+1)∧
 t (s+1) V)))))))
 (ax (Addr.add a 4) u fun Y=>
 cZ (fun (Z:Int)=>[(97,some (.int .i64 Z))])
 (fun aa Z ba=>aA (decide (Z<(Y.n:Int)))
 (aQ Y.a Z Y.n
 (bu (Addr.add (base Y.a) (Int.toNat Z * 4)) ba fun ca da ea fa=>
 nw aZ (zc Pr aZ) ba fun ga ia=>
 cD ga ca da ea fa ia fun ja=>
 an .i64 (Addr.add ga 0) ja fun ka=>
 (aF (Z+1)∧
 an .i64 (Addr.add ga 1) ja fun la=>
 ax (Addr.add a 2) ja fun ma=>
 aA (!decide (ka=Z+1))
 (bu ga ja fun na oa pa qa=>
 R (.bool false) ja)
 (ay Pr A7 [.int .i64 la,.int .i64 1,.int .i64 (ma.n:Int)] ja fun sa ta=>
 aU sa fun ua=>
 bu ga ta fun va xa ya za=>
 aA (!ua)
 (R (.bool false) ta)
 (ay Pr sU [.agg ⟨[.int .i64 va,.int .i64 xa,.int .i64 ya,.slice za.a za.n za.c]⟩] ta fun Aa Ba=>
 aU Aa fun Ca=>
 aA (!Ca)
 (R (.bool false) Ba)
 ((aF (Z+1)∧
 aa (Z+1) Ba)))))))
 (ax (Addr.add a 5) ba fun Da=>
 ay Pr Kk [.slice Da.a Da.n Da.c,.func (.func MK) ⟨[]⟩ ⟨[.pointer (some a)]⟩] ba fun Ea Fa=>
 aU Ea fun Ga=>
 R (.bool (!Ga)) Fa))
 0 u))
 0 e))
 (fun Ia=>
 an .i64 (Addr.add a 0) b fun Ja=>
 ay Pr A7 [.int .i64 Ja,.int .i64 0,.int .i64 1099511627776] b fun La Ma=>
 aU La fun Na=>
 ax (Addr.add a 1) Ma fun Oa=>
 ax (Addr.add a 2) Ma fun Qa=>
 ax (Addr.add a 2) Ma fun Sa=>
 aA (((!Na) || (!decide ((Oa.n:Int)=32))) || (decide ((Qa.n:Int)=0)))
 (ax (Addr.add a 3) Ma fun Ta=>
 ax (Addr.add a 4) Ma fun Ua=>
 ax (Addr.add a 5) Ma fun Va=>
 R (.bool false) Ma)
 (ay Pr C8 [.slice Sa.a Sa.n Sa.c] Ma fun Xa Ya=>
 aU Xa fun Za=>
 ax (Addr.add a 3) Ya fun ab=>
 aA (!Za)
 (ax (Addr.add a 4) Ya fun bb=>
 ax (Addr.add a 5) Ya fun cb=>
 R (.bool false) Ya)
 (ay Pr A7 [.int .i64 (ab.n:Int),.int .i64 1,.int .i64 6] Ya fun db eb=>
 aU db fun fb=>
 ax (Addr.add a 4) eb fun gb=>
 ax (Addr.add a 5) eb fun ib=>
 aA ((!fb) || (decide (6<(gb.n:Int))))
 (R (.bool false) eb)
 (ay Pr AQ [.slice ib.a ib.n ib.c] eb fun jb kb=>
 aU jb fun lb=>
 aA (!lb)
 (R (.bool false) kb)
 (Ia kb)))))
theorem afn {cQ:Int} {bK:ah} {bL:ah} {bP:ah} {bQ:ah} {bR:ah} {w:World} {R:Value→World→Prop} (h:Pf cQ bK bL bP bQ bR w R):Ok Pr Hi [.agg ⟨[.int .i64 cQ,.slice bK.a bK.n bK.c,.slice bL.a bL.n bL.c,.slice bP.a bP.n bP.c,.slice bQ.a bQ.n bQ.c,.slice bR.a bR.n bR.c]⟩] w R:=
 aL (m:=⟨true,true⟩) (J:=[(3,[])]) (L:=[(5,[(59,.int .i64)]),(11,[(97,.int .i64)])]) aJ Tryz.func34 (by kernel_rfl) ((by kernel_rfl:aK Pr _ _ _ Tryz.f34 _ w R=Pf cQ bK bL bP bQ bR w R).mpr h)
def N9 (cQ:Int) (bK:ah) (bL:ah) (bP:ah) (bQ:ah) (bR:ah) (w:World) (R:Value→World→Prop):Prop:=
 nw aN [.int .i64 cQ,.slice bK.a bK.n bK.c,.slice bL.a bL.n bL.c,.slice bP.a bP.n bP.c,.slice bQ.a bQ.n bQ.c,.slice bR.a bR.n bR.c] w fun a b=>
 nw aN (zc Pr aN) b fun c d=>
 ax (Addr.add a 1) (World.drew d) fun e=>
 ax (Addr.add a 2) (World.drew d) fun f=>
 ax (Addr.add a 3) (World.drew d) fun g=>
 ax (Addr.add a 4) (World.drew d) fun i=>
 ax (Addr.add a 5) (World.drew d) fun j=>
 ay Pr sM [.slice e.a e.n e.c] (World.drew d) fun k l=>
 aT k fun m=>
 (kept (Addr.add a 5) 1 (World.drew d) l∧
 (kept (Addr.add a 4) 1 (World.drew d) l∧
 (kept (Addr.add a 3) 1 (World.drew d) l∧
 (kept (Addr.add a 2) 1 (World.drew d) l∧
 ay Pr Gx [.slice f.a f.n f.c] l fun n o=>
 aT n fun p=>
 (kept (Addr.add a 5) 1 l o∧
 (kept (Addr.add a 4) 1 l o∧
 (kept (Addr.add a 3) 1 l o∧
 ay Pr Ks [.slice g.a g.n g.c] o fun q s=>
 aT q fun t=>
 (kept (Addr.add a 5) 1 o s∧
 (kept (Addr.add a 4) 1 o s∧
 ay Pr Kw [.slice i.a i.n i.c] s fun u v=>
 aT u fun x=>
 (kept (Addr.add a 5) 1 s v∧
 ay Pr AG [.slice j.a j.n j.c] v fun y z=>
 aT y fun A=>
 st (Addr.add a 1) (.slice m.a m.n m.c) z fun B=>
 st (Addr.add a 2) (.slice p.a p.n p.c) B fun C=>
 st (Addr.add a 3) (.slice t.a t.n t.c) C fun D=>
 st (Addr.add a 4) (.slice x.a x.n x.c) D fun E=>
 st (Addr.add a 5) (.slice A.a A.n A.c) E fun F=>
 ax (Addr.add a 3) F fun G=>
 cZ (fun (I:Int)=>[(30,some (.int .i64 I))])
 (fun J I L=>aA (decide (I<(G.n:Int)))
 (ax (Addr.add a 3) (World.drew L) fun M=>
 ax (Addr.add a 3) (World.drew L) fun N=>
 aQ N.a I N.n
 (ax (Addr.add (Addr.add (base N.a) (Int.toNat I * 5)) 2) (World.drew L) fun O=>
 ay Pr sM [.slice O.a O.n O.c] (World.drew L) fun Q S=>
 aT Q fun T=>
 (kept (Addr.add a 3) 1 (World.drew L) S∧
 aQ M.a I M.n
 (st (Addr.add (Addr.add (base M.a) (Int.toNat I * 5)) 2) (.slice T.a T.n T.c) S fun U=>
 (aF (I+1)∧
 J (I+1) U)))))
 (ax (Addr.add a 4) L fun V=>
 cZ (fun (X:Int)=>[(49,some (.int .i64 X))])
 (fun Y X Z=>aA (decide (X<(V.n:Int)))
 (ax (Addr.add a 4) Z fun aa=>
 aQ aa.a X aa.n
 (ax (Addr.add (Addr.add (base aa.a) (Int.toNat X * 4)) 3) Z fun ba=>
 ay Pr Gv [.slice ba.a ba.n ba.c] Z fun ca da=>
 aT ca fun ea=>
 st (Addr.add (Addr.add (base aa.a) (Int.toNat X * 4)) 3) (.slice ea.a ea.n ea.c) da fun fa=>
 ax (Addr.add (Addr.add (base aa.a) (Int.toNat X * 4)) 3) fa fun ga=>
 cZ (fun (ia:Int)=>[(69,some (.int .i64 ia))])
 (fun ja ia ka=>aA (decide (ia<(ga.n:Int)))
 (ax (Addr.add (Addr.add (base aa.a) (Int.toNat X * 4)) 3) (World.drew ka) fun la=>
 ax (Addr.add (Addr.add (base aa.a) (Int.toNat X * 4)) 3) (World.drew ka) fun ma=>
 aQ ma.a ia ma.n
 (ax (Addr.add (Addr.add (base ma.a) (Int.toNat ia * 4)) 3) (World.drew ka) fun na=>
 ay Pr sM [.slice na.a na.n na.c] (World.drew ka) fun oa pa=>
 aT oa fun qa=>
 (kept (Addr.add (Addr.add (base aa.a) (Int.toNat X * 4)) 3) 1 (World.drew ka) pa∧
 aQ la.a ia la.n
 (st (Addr.add (Addr.add (base la.a) (Int.toNat ia * 4)) 3) (.slice qa.a qa.n qa.c) pa fun sa=>
 (aF (ia+1)∧
 ja (ia+1) sa)))))
 ((aF (X+1)∧
 Y (X+1) ka)))
 0 fa))
 (bN a Z fun ta ua va xa ya za=>
 bI c ta ua va xa ya za Z fun Aa=>
 bN c Aa fun Ba Ca Da Ea Fa Ga=>
 R (.agg ⟨[.int .i64 Ba,.slice Ca.a Ca.n Ca.c,.slice Da.a Da.n Da.c,.slice Ea.a Ea.n Ea.c,.slice Fa.a Fa.n Fa.c,.slice Ga.a Ga.n Ga.c]⟩) Aa))
 0 L))
 0 F))))))))))
theorem aeC {cQ:Int} {bK:ah} {bL:ah} {bP:ah} {bQ:ah} {bR:ah} {w:World} {R:Value→World→Prop} (h:N9 cQ bK bL bP bQ bR w R):Ok Pr Dl [.agg ⟨[.int .i64 cQ,.slice bK.a bK.n bK.c,.slice bL.a bL.n bL.c,.slice bP.a bP.n bP.c,.slice bQ.a bQ.n bQ.c,.slice bR.a bR.n bR.c]⟩] w R:=
 aL (m:=⟨true,true⟩) (J:=[]) (L:=[(3,[(30,.int .i64)]),(8,[(49,.int .i64)]),(13,[(69,.int .i64)])]) aJ Tryz.func36 (by kernel_rfl) ((by kernel_rfl:aK Pr _ _ _ Tryz.f36 _ w R=N9 cQ bK bL bP bQ bR w R).mpr h)
def Oh (ck:Int) (cl:Int) (cm:Int) (aX:ah) (clock:Int) (w:World) (R:Value→World→Prop):Prop:=
 nw aZ [.int .i64 ck,.int .i64 cl,.int .i64 cm,.slice aX.a aX.n aX.c] w fun a b=>
 nw aZ (zc Pr aZ) b fun c d=>
 bu a d fun e f g i=>
 ay Pr sU [.agg ⟨[.int .i64 e,.int .i64 f,.int .i64 g,.slice i.a i.n i.c]⟩] d fun j k=>
 aU j fun l=>
 aA (!l)
 (cD c 0 0 0 ⟨none,0,0⟩ k fun m=>
 bu c m fun n o p q=>
 R (.tuple ⟨[.agg ⟨[.int .i64 n,.int .i64 o,.int .i64 p,.slice q.a q.n q.c]⟩,.int .i64 0]⟩) m)
 (bu a k fun s t u v=>
 ay Pr A8 [.agg ⟨[.int .i64 s,.int .i64 t,.int .i64 u,.slice v.a v.n v.c]⟩] k fun x y=>
 qZ x fun z A B C=>
 cD a z A B C y fun D=>
 ax (Addr.add a 3) D fun E=>
 iq (fun (F:Int) (G:Int)=>[(6,some (.int .i64 F)),(18,some (.int .i64 G))])
 (fun I F G J=>aA (decide (G<(E.n:Int)))
 (aQ E.a G E.n
 (jt (Addr.add (base E.a) (Int.toNat G * 4)) J fun L M N O=>
 nw cI (zc Pr cI) J fun Q S=>
 gx Q L M N O S fun T=>
 an .i64 (Addr.add Q 1) T fun U=>
 an .i64 (Addr.add Q 2) T fun V=>
 aA ((decide (U=3)) && (decide (V≤clock)))
 (ax (Addr.add a 3) T fun X=>
 an .i64 (Addr.add Q 0) T fun Y=>
 aQ X.a G X.n
 (gx (Addr.add (base X.a) (Int.toNat G * 4)) Y 4 0 ⟨none,0,0⟩ T fun Z=>
 (aF (F+1)∧
 (aF (G+1)∧
 I (F+1) (G+1) Z))))
 ((aF (G+1)∧
 I F (G+1) T))))
 (bu a J fun aa ba ca da=>
 cD c aa ba ca da J fun ea=>
 bu c ea fun fa ga ia ja=>
 R (.tuple ⟨[.agg ⟨[.int .i64 fa,.int .i64 ga,.int .i64 ia,.slice ja.a ja.n ja.c]⟩,.int .i64 F]⟩) ea))
 0 0 D)
theorem aeD {ck:Int} {cl:Int} {cm:Int} {aX:ah} {clock:Int} {w:World} {R:Value→World→Prop} (h:Oh ck cl cm aX clock w R):Ok Pr NA [.agg ⟨[.int .i64 ck,.int .i64 cl,.int .i64 cm,.slice aX.a aX.n aX.c]⟩,.int .i64 clock] w R:=
 aL (m:=⟨true,true⟩) (J:=[]) (L:=[(6,[(6,.int .i64),(18,.int .i64)])]) aJ Tryz.func37 (by kernel_rfl) ((by kernel_rfl:aK Pr _ _ _ Tryz.f37 _ w R=Oh ck cl cm aX clock w R).mpr h)
def Oj (ck:Int) (cl:Int) (cm:Int) (aX:ah) (w:World) (R:Value→World→Prop):Prop:=
 nw aZ [.int .i64 ck,.int .i64 cl,.int .i64 cm,.slice aX.a aX.n aX.c] w fun a b=>
 nw aZ (zc Pr aZ) b fun c d=>
 ax (Addr.add a 3) d fun e=>
 cH Pr [sO,sO] sO [.slice none 0 0,.slice e.a e.n e.c] d fun f g=>
 st (Addr.add a 3) (.slice f.a f.n f.c) g fun i=>
 cZ (fun (j:Int)=>[(3,some (.int .i64 j))])
 (fun k j l=>ax (Addr.add a 3) l fun m=>
 aA (decide (j<(m.n:Int)))
 (ax (Addr.add a 3) (World.drew l) fun n=>
 ax (Addr.add a 3) (World.drew l) fun o=>
 aQ o.a j o.n
 (ax (Addr.add (Addr.add (base o.a) (Int.toNat j * 4)) 3) (World.drew l) fun p=>
 cH Pr [bJ,bJ] bJ [.slice none 0 0,.slice p.a p.n p.c] (World.drew l) fun q s=>
 (kept (Addr.add a 3) 1 (World.drew l) s∧
 aQ n.a j n.n
 (st (Addr.add (Addr.add (base n.a) (Int.toNat j * 4)) 3) (.slice q.a q.n q.c) s fun t=>
 (aF (j+1)∧
 k (j+1) t)))))
 (bu a l fun u v x y=>
 cD c u v x y l fun z=>
 bu c z fun A B C D=>
 R (.agg ⟨[.int .i64 A,.int .i64 B,.int .i64 C,.slice D.a D.n D.c]⟩) z))
 0 i
theorem aeE {ck:Int} {cl:Int} {cm:Int} {aX:ah} {w:World} {R:Value→World→Prop} (h:Oj ck cl cm aX w R):Ok Pr NB [.agg ⟨[.int .i64 ck,.int .i64 cl,.int .i64 cm,.slice aX.a aX.n aX.c]⟩] w R:=
 aL (m:=⟨true,true⟩) (J:=[]) (L:=[(3,[(3,.int .i64)])]) aJ Tryz.func39 (by kernel_rfl) ((by kernel_rfl:aK Pr _ _ _ Tryz.f39 _ w R=Oj ck cl cm aX w R).mpr h)
def Pg (l:ah) (w:World) (R:Value→World→Prop):Prop:=
 cZ (fun (a:Int)=>[(3,some (.int .i64 a))])
 (fun b a c=>aA ((decide (a<(l.n:Int))) && (decide ((l.n:Int)≤8)))
 (aQ l.a a l.n
 (AL (Addr.add (base l.a) (Int.toNat a * 3)) c fun d e f=>
 nw dV (zc Pr dV) c fun g i=>
 AM g d e f i fun j=>
 an .i64 (Addr.add g 0) j fun k=>
 (aF (a+1)∧
 fW (Addr.add g 2) j fun m=>
 fW (Addr.add g 2) j fun n=>
 an .i64 (Addr.add g 1) j fun o=>
 an .i64 (Addr.add g 1) j fun p=>
 an .i64 (Addr.add g 1) j fun q=>
 aA ((((((!decide (k=a+1)) || (decide (((ByteArray.size m:Nat):Int)<1))) || (decide (300<((ByteArray.size n:Nat):Int)))) || (!((decide (o=0)) == (decide (a=0))))) || (decide (p<0))) || (decide (a<q)))
 (R (.bool false) j)
 (cZ (fun (s:Int)=>[(5,some (.int .i64 s))])
 (fun t s u=>aA (decide (s<a))
 (aQ l.a s l.n
 (an .i64 (Addr.add (Addr.add (base l.a) (Int.toNat s * 3)) 1) (World.drew u) fun v=>
 an .i64 (Addr.add g 1) (World.drew u) fun x=>
 aA (decide (v=x))
 (aQ l.a s l.n
 (fW (Addr.add (Addr.add (base l.a) (Int.toNat s * 3)) 2) (World.drew u) fun y=>
 fW (Addr.add g 2) (World.drew u) fun z=>
 aA (decide (y=z))
 (R (.bool false) (World.drew u))
 ((aF (s+1)∧
 t (s+1) (World.drew u)))))
 ((aF (s+1)∧
 t (s+1) (World.drew u)))))
 ((aF (a+1)∧
 b (a+1) u)))
 0 j))))
 (R (.bool (decide ((l.n:Int)≤8))) c))
 0 w
theorem afo {l:ah} {w:World} {R:Value→World→Prop} (h:Pg l w R):Ok Pr OB [.slice l.a l.n l.c] w R:=
 aL (m:=⟨true,true⟩) (J:=[]) (L:=[(2,[(3,.int .i64)]),(8,[(5,.int .i64)])]) aJ Tryz.func46 (by kernel_rfl) ((by kernel_rfl:aK Pr _ _ _ Tryz.f46 _ w R=Pg l w R).mpr h)
def MC (cQ:Int) (bK:ah) (bL:ah) (bP:ah) (bQ:ah) (bR:ah) (w:World) (R:Value→World→Prop):Prop:=
 nw aN [.int .i64 cQ,.slice bK.a bK.n bK.c,.slice bL.a bL.n bL.c,.slice bP.a bP.n bP.c,.slice bQ.a bQ.n bQ.c,.slice bR.a bR.n bR.c] w fun a b=>
 ay Pr ML [.int .i64 1] b fun c d=>
 br.bC c fun e=>
 aC e fun f g=>
 aY .i64 f fun i=>
 aC g fun j k=>
 aY .i64 j fun l=>
 aC k fun m n=>
 aY .i64 m fun o=>
 (n=[]∧
 cZ (fun (p:Int)=>[(6,some (.int .i64 p))])
 (fun q p s=>ax (Addr.add a 3) s fun t=>
 ax (Addr.add a 3) s fun u=>
 aA ((decide (p<(t.n:Int))) && (decide ((u.n:Int)≤6)))
 (ax (Addr.add a 3) s fun v=>
 aQ v.a p v.n
 (MU (Addr.add (base v.a) (Int.toNat p * 5)) s fun x y z A B=>
 nw fR (zc Pr fR) s fun C D=>
 AK C x y z A B D fun E=>
 an .i64 (Addr.add C 0) E fun F=>
 (aF (p+1)∧
 ax (Addr.add a 2) E fun G=>
 an .i64 (Addr.add C 1) E fun I=>
 aA (!decide (F=p+1))
 (ax (Addr.add C 2) E fun J=>
 an .i64 (Addr.add C 3) E fun L=>
 an .u64 (Addr.add C 4) E fun M=>
 R (.bool false) E)
 (ay Pr GV [.slice G.a G.n G.c,.int .i64 I] E fun N O=>
 aU N fun Q=>
 ax (Addr.add C 2) O fun S=>
 an .i64 (Addr.add C 3) O fun T=>
 an .u64 (Addr.add C 4) O fun U=>
 aA ((!Q) || (!decide ((S.n:Int)=i)))
 (R (.bool false) O)
 (ay Pr OD [.int .i64 T,.int .u64 U] O fun V X=>
 aU V fun Y=>
 aA (!Y)
 (R (.bool false) X)
 ((aF (p+1)∧
 q (p+1) X)))))))
 (ax (Addr.add a 3) s fun Z=>
 ax (Addr.add a 3) s fun aa=>
 R (.bool ((decide (1≤(Z.n:Int))) && (decide ((aa.n:Int)≤6)))) s))
 0 d)
theorem adu {cQ:Int} {bK:ah} {bL:ah} {bP:ah} {bQ:ah} {bR:ah} {w:World} {R:Value→World→Prop} (h:MC cQ bK bL bP bQ bR w R):Ok Pr Mn [.agg ⟨[.int .i64 cQ,.slice bK.a bK.n bK.c,.slice bL.a bL.n bL.c,.slice bP.a bP.n bP.c,.slice bQ.a bQ.n bQ.c,.slice bR.a bR.n bR.c]⟩] w R:=
 aL (m:=⟨true,true⟩) (J:=[]) (L:=[(3,[(6,.int .i64)])]) aJ Tryz.func47 (by kernel_rfl) ((by kernel_rfl:aK Pr _ _ _ Tryz.f47 _ w R=MC cQ bK bL bP bQ bR w R).mpr h)
def Ol (cQ:Int) (bK:ah) (bL:ah) (bP:ah) (bQ:ah) (bR:ah) (w:World) (R:Value→World→Prop):Prop:=
 nw aN [.int .i64 cQ,.slice bK.a bK.n bK.c,.slice bL.a bL.n bL.c,.slice bP.a bP.n bP.c,.slice bQ.a bQ.n bQ.c,.slice bR.a bR.n bR.c] w fun a b=>
 cZ (fun (c:Int)=>[(3,some (.int .i64 c))])
 (fun d c e=>ax (Addr.add a 4) e fun f=>
 ax (Addr.add a 4) e fun g=>
 aA ((decide (c<(f.n:Int))) && (decide ((g.n:Int)≤6)))
 (ax (Addr.add a 4) e fun i=>
 aQ i.a c i.n
 (bu (Addr.add (base i.a) (Int.toNat c * 4)) e fun j k l m=>
 nw aZ (zc Pr aZ) e fun n o=>
 cD n j k l m o fun p=>
 an .i64 (Addr.add n 0) p fun q=>
 (aF (c+1)∧
 bu n p fun s t u v=>
 aA (!decide (q=c+1))
 (ax (Addr.add a 2) p fun x=>
 an .i64 (Addr.add n 1) p fun y=>
 R (.bool false) p)
 (ay Pr OE [.agg ⟨[.int .i64 s,.int .i64 t,.int .i64 u,.slice v.a v.n v.c]⟩] p fun z A=>
 aU z fun B=>
 ax (Addr.add a 2) A fun C=>
 an .i64 (Addr.add n 1) A fun D=>
 aA (!B)
 (R (.bool false) A)
 (ay Pr GV [.slice C.a C.n C.c,.int .i64 D] A fun E F=>
 aU E fun G=>
 aA (!G)
 (R (.bool false) F)
 ((aF (c+1)∧
 d (c+1) F)))))))
 (ax (Addr.add a 4) e fun I=>
 R (.bool (decide ((I.n:Int)≤6))) e))
 0 b
theorem aeF {cQ:Int} {bK:ah} {bL:ah} {bP:ah} {bQ:ah} {bR:ah} {w:World} {R:Value→World→Prop} (h:Ol cQ bK bL bP bQ bR w R):Ok Pr NC [.agg ⟨[.int .i64 cQ,.slice bK.a bK.n bK.c,.slice bL.a bL.n bL.c,.slice bP.a bP.n bP.c,.slice bQ.a bQ.n bQ.c,.slice bR.a bR.n bR.c]⟩] w R:=
 aL (m:=⟨true,true⟩) (J:=[]) (L:=[(2,[(3,.int .i64)])]) aJ Tryz.func48 (by kernel_rfl) ((by kernel_rfl:aK Pr _ _ _ Tryz.f48 _ w R=Ol cQ bK bL bP bQ bR w R).mpr h)
def Om (high:Int) (used:Int) (n:Int) (w:World) (R:Value→World→Prop):Prop:=
 ay Pr Dm [.int .i64 high,.int .u64 used] w fun a b=>
 aU a fun c=>
 aA (!c)
 (nw oW [.int .i64 2,.string QW] b fun d e=>
 R (.tuple ⟨[.int .i64 0,.int .u64 0,.iface ju (.pointer (some d))]⟩) e)
 (ay Pr Mo [.int .i64 high,.int .u64 used,.int .i64 n] b fun f g=>
 aU f fun i=>
 aA (!i)
 (nw oW [.int .i64 8,.string QW] g fun j k=>
 R (.tuple ⟨[.int .i64 0,.int .u64 0,.iface ju (.pointer (some j))]⟩) k)
 (aA (decide (high<n))
 ((aF (n - high)∧
 gT (min (n - high) 64) (R (.tuple ⟨[.int .i64 n,.int .u64 (rV .u64 (shl .u64 used (min (n - high) 64)) 1),.nilIface]⟩) (World.drew g))))
 ((aF (high - n)∧
 gT (high - n) (R (.tuple ⟨[.int .i64 high,.int .u64 (rV .u64 used (shl .u64 1 (high - n))),.nilIface]⟩) (World.drew g))))))
theorem aeG {high:Int} {used:Int} {n:Int} {w:World} {R:Value→World→Prop} (h:Om high used n w R):Ok Pr ND [.int .i64 high,.int .u64 used,.int .i64 n] w R:=
 aL (m:=⟨true,true⟩) (J:=[]) (L:=[]) aJ Tryz.func52 (by kernel_rfl) ((by kernel_rfl:aK Pr _ _ _ Tryz.f52 _ w R=Om high used n w R).mpr h)
def Ql (n:Int) (lo:Int) (hi:Int) (w:World) (R:Value→World→Prop):Prop:=
 R (.bool ((decide (lo≤n)) && (decide (n≤hi)))) w
theorem agl {n:Int} {lo:Int} {hi:Int} {w:World} {R:Value→World→Prop} (h:Ql n lo hi w R):Ok Pr A7 [.int .i64 n,.int .i64 lo,.int .i64 hi] w R:=
 aL (m:=⟨true,true⟩) (J:=[]) (L:=[]) aJ Tryz.func67 (by kernel_rfl) ((by kernel_rfl:aK Pr _ _ _ Tryz.f67 _ w R=Ql n lo hi w R).mpr h)
def Nh (l:ah) (w:World) (R:Value→World→Prop):Prop:=
 aA (decide (8<(l.n:Int)))
 (R (.bool false) w)
 (cZ (fun (a:Int)=>[(11,some (.int .i64 a))])
 (fun b a c=>aA (decide (a<(l.n:Int)))
 (aQ l.a a l.n
 (AL (Addr.add (base l.a) (Int.toNat a * 3)) c fun d e f=>
 nw dV (zc Pr dV) c fun g i=>
 AM g d e f i fun j=>
 an .i64 (Addr.add g 0) (World.drew j) fun k=>
 (aF (a+1)∧
 an .i64 (Addr.add g 1) (World.drew j) fun m=>
 an .i64 (Addr.add g 1) (World.drew j) fun n=>
 fW (Addr.add g 2) (World.drew j) fun o=>
 aA (((!decide (k=a+1)) || (decide (m<min a 1))) || (decide (a<n)))
 (R (.bool false) (World.drew j))
 (ay Pr GJ [.string o] (World.drew j) fun p q=>
 aU p fun s=>
 aA (!s)
 (R (.bool false) q)
 (vr l a fun t=>
 an .i64 (Addr.add g 1) q fun u=>
 fW (Addr.add g 2) q fun v=>
 ay Pr GK [.slice t.a t.n t.c,.int .i64 u,.string v] q fun x y=>
 aU x fun z=>
 aA z
 (R (.bool false) y)
 ((aF (a+1)∧
 b (a+1) y)))))))
 (R (.bool true) c))
 0 w)
theorem adV {l:ah} {w:World} {R:Value→World→Prop} (h:Nh l w R):Ok Pr C8 [.slice l.a l.n l.c] w R:=
 aL (m:=⟨true,true⟩) (J:=[]) (L:=[(4,[(11,.int .i64)])]) aJ Tryz.func68 (by kernel_rfl) ((by kernel_rfl:aK Pr _ _ _ Tryz.f68 _ w R=Nh l w R).mpr h)
def On (high:Int) (used:Int) (w:World) (R:Value→World→Prop):Prop:=
 jZ []
 (fun a=>R (.bool (decide (iu .u64 used 1=1))) a)
 (fun b=>
 aA ((decide (high<0)) || (decide (1099511627776<high)))
 (R (.bool false) w)
 (aA (decide (high=0))
 (R (.bool (decide (used=0))) w)
 (aA (decide (high<64))
 (gT high (aA (!decide (shr .u64 used high=0))
 (R (.bool false) w)
 (b w)))
 (b w))))
theorem aeH {high:Int} {used:Int} {w:World} {R:Value→World→Prop} (h:On high used w R):Ok Pr Dm [.int .i64 high,.int .u64 used] w R:=
 aL (m:=⟨true,true⟩) (J:=[(7,[])]) (L:=[]) aJ Tryz.func71 (by kernel_rfl) ((by kernel_rfl:aK Pr _ _ _ Tryz.f71 _ w R=On high used w R).mpr h)
def Qm (ck:Int) (cl:Int) (cm:Int) (aX:ah) (w:World) (R:Value→World→Prop):Prop:=
 nw aZ [.int .i64 ck,.int .i64 cl,.int .i64 cm,.slice aX.a aX.n aX.c] w fun a b=>
 jZ []
 (fun c=>ax (Addr.add a 3) c fun d=>
 cZ (fun (e:Int)=>[(31,some (.int .i64 e))])
 (fun f e g=>aA (decide (e<(d.n:Int)))
 (aQ d.a e d.n
 (jt (Addr.add (base d.a) (Int.toNat e * 4)) g fun i j k l=>
 nw cI (zc Pr cI) g fun m n=>
 gx m i j k l n fun o=>
 jt m o fun p q s t=>
 (aF (e+1)∧
 ay Pr Pz [.agg ⟨[.int .i64 p,.int .i64 q,.int .i64 s,.slice t.a t.n t.c]⟩,.int .i64 (e+1)] o fun u v=>
 aU u fun x=>
 aA (!x)
 (R (.bool false) v)
 ((aF (e+1)∧
 f (e+1) v)))))
 (R (.bool true) g))
 0 c)
 (fun y=>
 an .i64 (Addr.add a 0) b fun z=>
 ay Pr uB [.int .i64 z,.int .i64 1,.int .i64 6] b fun A B=>
 aU A fun C=>
 an .i64 (Addr.add a 1) B fun D=>
 aA (!C)
 (an .i64 (Addr.add a 2) B fun E=>
 ax (Addr.add a 3) B fun F=>
 R (.bool false) B)
 (ay Pr uB [.int .i64 D,.int .i64 1,.int .i64 8] B fun G I=>
 aU G fun J=>
 an .i64 (Addr.add a 2) I fun L=>
 aA (!J)
 (ax (Addr.add a 3) I fun M=>
 R (.bool false) I)
 (ay Pr uB [.int .i64 L,.int .i64 1,.int .i64 3] I fun N O=>
 aU N fun Q=>
 ax (Addr.add a 3) O fun S=>
 aA (!Q)
 (R (.bool false) O)
 (ay Pr uB [.int .i64 (S.n:Int),.int .i64 1,.int .i64 5] O fun T U=>
 aU T fun V=>
 aA (!V)
 (R (.bool false) U)
 (y U)))))
theorem agm {ck:Int} {cl:Int} {cm:Int} {aX:ah} {w:World} {R:Value→World→Prop} (h:Qm ck cl cm aX w R):Ok Pr sU [.agg ⟨[.int .i64 ck,.int .i64 cl,.int .i64 cm,.slice aX.a aX.n aX.c]⟩] w R:=
 aL (m:=⟨true,true⟩) (J:=[(3,[])]) (L:=[(4,[(31,.int .i64)])]) aJ Tryz.func72 (by kernel_rfl) ((by kernel_rfl:aK Pr _ _ _ Tryz.f72 _ w R=Qm ck cl cm aX w R).mpr h)
def Nj (eE:Int) (eH:Int) (eI:Int) (eJ:Int) (eR:Int) (eX:Bool) (free:Addr) (w:World) (R:Value→World→Prop):Prop:=
 nw cR [.int .i64 eE,.int .i64 eH,.int .i64 eI,.int .i64 eJ,.int .i64 eR,.bool eX] w fun a b=>
 an .i64 (Addr.add a 1) b fun c=>
 ax (Addr.add free 4) b fun d=>
 an .i64 (Addr.add a 2) b fun e=>
 ax (Addr.add free 3) b fun f=>
 R (.bool ((decide ((d.n:Int)<c)) || (decide ((f.n:Int)<e)))) b
theorem adW {eE:Int} {eH:Int} {eI:Int} {eJ:Int} {eR:Int} {eX:Bool} {free:Addr} {w:World} {R:Value→World→Prop} (h:Nj eE eH eI eJ eR eX free w R):Ok Pr MK [.agg ⟨[.int .i64 eE,.int .i64 eH,.int .i64 eI,.int .i64 eJ,.int .i64 eR,.bool eX]⟩,.pointer (some free)] w R:=
 aL (m:=⟨true,true⟩) (J:=[]) (L:=[]) aJ Tryz.func74 (by kernel_rfl) ((by kernel_rfl:aK Pr _ _ _ Tryz.f74 _ w R=Nj eE eH eI eJ eR eX free w R).mpr h)
def Qn (ck:Int) (cl:Int) (cm:Int) (aX:ah) (w:World) (R:Value→World→Prop):Prop:=
 nw aZ [.int .i64 ck,.int .i64 cl,.int .i64 cm,.slice aX.a aX.n aX.c] w fun a b=>
 nw aZ (zc Pr aZ) b fun c d=>
 ax (Addr.add a 3) d fun e=>
 ay Pr Gv [.slice e.a e.n e.c] d fun f g=>
 aT f fun i=>
 st (Addr.add a 3) (.slice i.a i.n i.c) g fun j=>
 ax (Addr.add a 3) j fun k=>
 cZ (fun (l:Int)=>[(11,some (.int .i64 l))])
 (fun m l n=>aA (decide (l<(k.n:Int)))
 (ax (Addr.add a 3) (World.drew n) fun o=>
 ax (Addr.add a 3) (World.drew n) fun p=>
 aQ p.a l p.n
 (ax (Addr.add (Addr.add (base p.a) (Int.toNat l * 4)) 3) (World.drew n) fun q=>
 ay Pr sM [.slice q.a q.n q.c] (World.drew n) fun s t=>
 aT s fun u=>
 (kept (Addr.add a 3) 1 (World.drew n) t∧
 aQ o.a l o.n
 (st (Addr.add (Addr.add (base o.a) (Int.toNat l * 4)) 3) (.slice u.a u.n u.c) t fun v=>
 (aF (l+1)∧
 m (l+1) v)))))
 (bu a n fun x y z A=>
 cD c x y z A n fun B=>
 bu c B fun C D E F=>
 R (.agg ⟨[.int .i64 C,.int .i64 D,.int .i64 E,.slice F.a F.n F.c]⟩) B))
 0 j
theorem agn {ck:Int} {cl:Int} {cm:Int} {aX:ah} {w:World} {R:Value→World→Prop} (h:Qn ck cl cm aX w R):Ok Pr A8 [.agg ⟨[.int .i64 ck,.int .i64 cl,.int .i64 cm,.slice aX.a aX.n aX.c]⟩] w R:=
 aL (m:=⟨true,true⟩) (J:=[]) (L:=[(3,[(11,.int .i64)])]) aJ Tryz.func81 (by kernel_rfl) ((by kernel_rfl:aK Pr _ _ _ Tryz.f81 _ w R=Qn ck cl cm aX w R).mpr h)
def Nk (l:ah) (fy:Int) (w:World) (R:Value→World→Prop):Prop:=
 R (.bool ((decide (1≤fy)) && (decide (fy≤(l.n:Int))))) w
theorem adX {l:ah} {fy:Int} {w:World} {R:Value→World→Prop} (h:Nk l fy w R):Ok Pr GV [.slice l.a l.n l.c,.int .i64 fy] w R:=
 aL (m:=⟨true,true⟩) (J:=[]) (L:=[]) aJ Tryz.func98 (by kernel_rfl) ((by kernel_rfl:aK Pr _ _ _ Tryz.f98 _ w R=Nk l fy w R).mpr h)
def Ph (high:Int) (used:Int) (w:World) (R:Value→World→Prop):Prop:=
 aA ((decide (high<0)) || (decide (1099511627776<high)))
 (R (.bool false) w)
 (cZ (fun (a:Int)=>[(5,some (.int .i64 a))])
 (fun b a c=>aA (decide (a<64))
 (aA (decide (high≤a))
 (gT a (aA (decide (iu .u64 (shr .u64 used a) 1=1))
 (R (.bool false) c)
 ((aF (a+1)∧
 b (a+1) c))))
 ((aF (a+1)∧
 b (a+1) c)))
 (R (.bool ((decide (high=0)) || (decide (iu .u64 used 1=1)))) c))
 0 w)
theorem afp {high:Int} {used:Int} {w:World} {R:Value→World→Prop} (h:Ph high used w R):Ok Pr OD [.int .i64 high,.int .u64 used] w R:=
 aL (m:=⟨true,true⟩) (J:=[]) (L:=[(4,[(5,.int .i64)])]) aJ Tryz.func99 (by kernel_rfl) ((by kernel_rfl:aK Pr _ _ _ Tryz.f99 _ w R=Ph high used w R).mpr h)
def Pj (ck:Int) (cl:Int) (cm:Int) (aX:ah) (w:World) (R:Value→World→Prop):Prop:=
 nw aZ [.int .i64 ck,.int .i64 cl,.int .i64 cm,.slice aX.a aX.n aX.c] w fun a b=>
 an .i64 (Addr.add a 0) b fun c=>
 an .i64 (Addr.add a 0) b fun d=>
 an .i64 (Addr.add a 1) b fun e=>
 an .i64 (Addr.add a 1) b fun f=>
 an .i64 (Addr.add a 2) b fun g=>
 an .i64 (Addr.add a 2) b fun i=>
 ax (Addr.add a 3) b fun j=>
 ax (Addr.add a 3) b fun k=>
 aA ((((((((decide (c<1)) || (decide (6<d))) || (decide (e<1))) || (decide (8<f))) || (decide (g<1))) || (decide (3<i))) || (decide ((j.n:Int)<1))) || (decide (5<(k.n:Int))))
 (R (.bool false) b)
 (cZ (fun (l:Int)=>[(3,some (.int .i64 l))])
 (fun m l n=>ax (Addr.add a 3) n fun o=>
 aA (decide (l<(o.n:Int)))
 (ax (Addr.add a 3) n fun p=>
 aQ p.a l p.n
 (jt (Addr.add (base p.a) (Int.toNat l * 4)) n fun q s t u=>
 (aF (l+1)∧
 ay Pr LP [.agg ⟨[.int .i64 q,.int .i64 s,.int .i64 t,.slice u.a u.n u.c]⟩,.int .i64 (l+1)] n fun v x=>
 aU v fun y=>
 aA (!y)
 (R (.bool false) x)
 ((aF (l+1)∧
 m (l+1) x)))))
 (R (.bool true) n))
 0 b)
theorem afq {ck:Int} {cl:Int} {cm:Int} {aX:ah} {w:World} {R:Value→World→Prop} (h:Pj ck cl cm aX w R):Ok Pr OE [.agg ⟨[.int .i64 ck,.int .i64 cl,.int .i64 cm,.slice aX.a aX.n aX.c]⟩] w R:=
 aL (m:=⟨true,true⟩) (J:=[]) (L:=[(4,[(3,.int .i64)])]) aJ Tryz.func100 (by kernel_rfl) ((by kernel_rfl:aK Pr _ _ _ Tryz.f100 _ w R=Pj ck cl cm aX w R).mpr h)
def MD (high:Int) (used:Int) (n:Int) (w:World) (R:Value→World→Prop):Prop:=
 ay Pr Dm [.int .i64 high,.int .u64 used] w fun a b=>
 aU a fun c=>
 aA ((((!c) || (decide (n<1))) || (decide (1099511627776<n))) || (decide (64≤IntKind.wrap .i64 (high - n))))
 (R (.bool false) b)
 (aA (decide (high<n))
 (R (.bool true) b)
 (gT (IntKind.wrap .i64 (high - n)) (R (.bool (decide (iu .u64 (shr .u64 used (IntKind.wrap .i64 (high - n))) 1=0))) b)))
theorem adv {high:Int} {used:Int} {n:Int} {w:World} {R:Value→World→Prop} (h:MD high used n w R):Ok Pr Mo [.int .i64 high,.int .u64 used,.int .i64 n] w R:=
 aL (m:=⟨true,true⟩) (J:=[]) (L:=[]) aJ Tryz.func106 (by kernel_rfl) ((by kernel_rfl:aK Pr _ _ _ Tryz.f106 _ w R=MD high used n w R).mpr h)
def Pk (ck:Int) (cl:Int) (cm:Int) (aX:ah) (version:Int) (w:World) (R:Value→World→Prop):Prop:=
 nw aZ [.int .i64 ck,.int .i64 cl,.int .i64 cm,.slice aX.a aX.n aX.c] w fun a b=>
 nw cI (zc Pr cI) b fun c d=>
 jZ []
 (fun e=>bu a e fun f g i j=>
 ay Pr A8 [.agg ⟨[.int .i64 f,.int .i64 g,.int .i64 i,.slice j.a j.n j.c]⟩] e fun k l=>
 qZ k fun m n o p=>
 (aF (version - 1)∧
 aQ p.a (version - 1) p.n
 (jt (Addr.add (base p.a) (Int.toNat (version - 1) * 4)) l fun q s t u=>
 gx c q s t u l fun v=>
 jt c v fun x y z A=>
 R (.tuple ⟨[.agg ⟨[.int .i64 x,.int .i64 y,.int .i64 z,.slice A.a A.n A.c]⟩,.bool true]⟩) v)))
 (fun B=>
 jh (fun (C:Bool)=>[(16,some (.bool C))])
 (fun C D=>aA C
 (gx c 0 0 0 ⟨none,0,0⟩ D fun E=>
 jt c E fun F G I J=>
 R (.tuple ⟨[.agg ⟨[.int .i64 F,.int .i64 G,.int .i64 I,.slice J.a J.n J.c]⟩,.bool false]⟩) E)
 (B D))
 (fun L=>
 bu a d fun M N O Q=>
 ay Pr sU [.agg ⟨[.int .i64 M,.int .i64 N,.int .i64 O,.slice Q.a Q.n Q.c]⟩] d fun S T=>
 aU S fun U=>
 ax (Addr.add a 3) T fun V=>
 aA (!U)
 (L true T)
 (ay Pr uB [.int .i64 version,.int .i64 1,.int .i64 (V.n:Int)] T fun X Y=>
 aU X fun Z=>
 L (!Z) Y)))
theorem afr {ck:Int} {cl:Int} {cm:Int} {aX:ah} {version:Int} {w:World} {R:Value→World→Prop} (h:Pk ck cl cm aX version w R):Ok Pr yz [.agg ⟨[.int .i64 ck,.int .i64 cl,.int .i64 cm,.slice aX.a aX.n aX.c]⟩,.int .i64 version] w R:=
 aL (m:=⟨true,true⟩) (J:=[(3,[]),(2,[(16,.bool)])]) (L:=[]) aJ Tryz.func107 (by kernel_rfl) ((by kernel_rfl:aK Pr _ _ _ Tryz.f107 _ w R=Pk ck cl cm aX version w R).mpr h)
def L4 (l:ah) (a:Int) (b:Int) (w:World) (R:Value→World→Prop):Prop:=
 ay Pr Mp [.slice l.a l.n l.c,.int .i64 b] w fun c d=>
 aT c fun e=>
 ay Pr Ur [.slice e.a e.n e.c,.int .i64 a] d fun f g=>
 aU f fun i=>
 R (.bool i) g
theorem acY {l:ah} {a:Int} {b:Int} {w:World} {R:Value→World→Prop} (h:L4 l a b w R):Ok Pr LM [.slice l.a l.n l.c,.int .i64 a,.int .i64 b] w R:=
 aL (m:=⟨true,true⟩) (J:=[]) (L:=[]) aJ Tryz.func108 (by kernel_rfl) ((by kernel_rfl:aK Pr _ _ _ Tryz.f108 _ w R=L4 l a b w R).mpr h)
def Nl (l:ah) (parent:Int) (name:ByteArray) (w:World) (R:Value→World→Prop):Prop:=
 ay Pr C8 [.slice l.a l.n l.c] w fun a b=>
 aU a fun c=>
 aA (!c)
 (ay Pr wk [.int .i64 2] b fun d e=>
 R (.tuple ⟨[.slice none 0 0,.int .i64 0,d]⟩) e)
 (ay Pr GL [.slice l.a l.n l.c,.int .i64 parent] b fun f g=>
 aU f fun i=>
 aA (!i)
 (ay Pr wk [.int .i64 9] g fun j k=>
 R (.tuple ⟨[.slice none 0 0,.int .i64 0,j]⟩) k)
 (ay Pr GJ [.string name] g fun m n=>
 aU m fun o=>
 aA (!o)
 (ay Pr wk [.int .i64 2] n fun p q=>
 R (.tuple ⟨[.slice none 0 0,.int .i64 0,p]⟩) q)
 (ay Pr GK [.slice l.a l.n l.c,.int .i64 parent,.string name] n fun s t=>
 aU s fun u=>
 aA u
 (ay Pr wk [.int .i64 13] t fun v x=>
 R (.tuple ⟨[.slice none 0 0,.int .i64 0,v]⟩) x)
 (aA (decide ((l.n:Int)=8))
 (ay Pr wk [.int .i64 12] t fun y z=>
 R (.tuple ⟨[.slice none 0 0,.int .i64 0,y]⟩) z)
 ((aF ((l.n:Int)+1)∧
 lt (A:=Int) ((l.n:Int)+1) fun B=>
 ay Pr Gx [.slice l.a l.n l.c] t fun C D=>
 aT C fun E=>
 nw dV [.int .i64 B,.int .i64 parent,.string name] D fun F G=>
 cH Pr [sP,sP] sP [.slice E.a E.n E.c,.slice (some F) 1 1] G fun I J=>
 R (.tuple ⟨[.slice I.a I.n I.c,.int .i64 B,.nilIface]⟩) J))))))
theorem adY {l:ah} {parent:Int} {name:ByteArray} {w:World} {R:Value→World→Prop} (h:Nl l parent name w R):Ok Pr MN [.slice l.a l.n l.c,.int .i64 parent,.string name] w R:=
 aL (m:=⟨true,true⟩) (J:=[]) (L:=[]) aJ Tryz.func111 (by kernel_rfl) ((by kernel_rfl:aK Pr _ _ _ Tryz.f111 _ w R=Nl l parent name w R).mpr h)
def Qo (fy:Int) (En:Int) (aW:Int) (aq:ah) (w:World) (R:Value→World→Prop):Prop:=
 nw aZ (zc Pr aZ) w fun a b=>
 ay Pr G8 [.int .i64 1,.slice aq.a aq.n aq.c] b fun c d=>
 uu c fun e f g i=>
 nw cI [.int .i64 e,.int .i64 f,.int .i64 g,.slice i.a i.n i.c] d fun j k=>
 nw aZ (zc Pr aZ) k fun l m=>
 cD l fy En aW ⟨some j,1,1⟩ m fun n=>
 bu l n fun o p q s=>
 ay Pr sU [.agg ⟨[.int .i64 o,.int .i64 p,.int .i64 q,.slice s.a s.n s.c]⟩] n fun t u=>
 aU t fun v=>
 aA (!v)
 (ay Pr kU [.int .i64 2] u fun x y=>
 cD a 0 0 0 ⟨none,0,0⟩ y fun z=>
 bu a z fun A B C D=>
 R (.tuple ⟨[.agg ⟨[.int .i64 A,.int .i64 B,.int .i64 C,.slice D.a D.n D.c]⟩,x]⟩) z)
 (bu l u fun E F G I=>
 cD a E F G I u fun J=>
 bu a J fun L M N O=>
 R (.tuple ⟨[.agg ⟨[.int .i64 L,.int .i64 M,.int .i64 N,.slice O.a O.n O.c]⟩,.nilIface]⟩) J)
theorem ago {fy:Int} {En:Int} {aW:Int} {aq:ah} {w:World} {R:Value→World→Prop} (h:Qo fy En aW aq w R):Ok Pr HB [.int .i64 fy,.int .i64 En,.int .i64 aW,.slice aq.a aq.n aq.c] w R:=
 aL (m:=⟨true,true⟩) (J:=[]) (L:=[]) aJ Tryz.func112 (by kernel_rfl) ((by kernel_rfl:aK Pr _ _ _ Tryz.f112 _ w R=Qo fy En aW aq w R).mpr h)
def Nm (ck:Int) (cl:Int) (cm:Int) (aX:ah) (version:Int) (w:World) (R:Value→World→Prop):Prop:=
 nw aZ [.int .i64 ck,.int .i64 cl,.int .i64 cm,.slice aX.a aX.n aX.c] w fun a b=>
 bu a b fun c d e f=>
 ay Pr Dw [.agg ⟨[.int .i64 c,.int .i64 d,.int .i64 e,.slice f.a f.n f.c]⟩,.int .i64 version,.func (.func GM) ⟨[]⟩ ⟨[]⟩] b fun g i=>
 br.bC g fun j=>
 aC j fun k l=>
 aT k fun m=>
 aC l fun n o=>
 aT n fun p=>
 aC o fun q s=>
 (s=[]∧
 R (.tuple ⟨[.slice m.a m.n m.c,q]⟩) i)
theorem adZ {ck:Int} {cl:Int} {cm:Int} {aX:ah} {version:Int} {w:World} {R:Value→World→Prop} (h:Nm ck cl cm aX version w R):Ok Pr GX [.agg ⟨[.int .i64 ck,.int .i64 cl,.int .i64 cm,.slice aX.a aX.n aX.c]⟩,.int .i64 version] w R:=
 aL (m:=⟨true,true⟩) (J:=[]) (L:=[]) aJ Tryz.func113 (by kernel_rfl) ((by kernel_rfl:aK Pr _ _ _ Tryz.f113 _ w R=Nm ck cl cm aX version w R).mpr h)
def Pm (ck:Int) (cl:Int) (cm:Int) (aX:ah) (version:Int) (c:ah) (w:World) (R:Value→World→Prop):Prop:=
 nw aZ [.int .i64 ck,.int .i64 cl,.int .i64 cm,.slice aX.a aX.n aX.c] w fun a b=>
 bu a b fun d e f g=>
 ay Pr Dw [.agg ⟨[.int .i64 d,.int .i64 e,.int .i64 f,.slice g.a g.n g.c]⟩,.int .i64 version,.func (.func C6) ⟨[]⟩ ⟨[]⟩] b fun i j=>
 br.bC i fun k=>
 aC k fun l m=>
 aT l fun n=>
 aC m fun o p=>
 aT o fun q=>
 aC p fun s t=>
 (t=[]∧
 fB s fun u=>
 aA (!u)
 (R (.tuple ⟨[.slice none 0 0,s]⟩) j)
 (an .i64 (Addr.add a 2) j fun v=>
 ay Pr PB [.int .i64 v,.slice q.a q.n q.c,.slice c.a c.n c.c] j fun x y=>
 br.bC x fun z=>
 aC z fun A B=>
 aT A fun C=>
 aC B fun D E=>
 (E=[]∧
 R (.tuple ⟨[.slice C.a C.n C.c,D]⟩) y)))
theorem afs {ck:Int} {cl:Int} {cm:Int} {aX:ah} {version:Int} {c:ah} {w:World} {R:Value→World→Prop} (h:Pm ck cl cm aX version c w R):Ok Pr OG [.agg ⟨[.int .i64 ck,.int .i64 cl,.int .i64 cm,.slice aX.a aX.n aX.c]⟩,.int .i64 version,.slice c.a c.n c.c] w R:=
 aL (m:=⟨true,true⟩) (J:=[]) (L:=[]) aJ Tryz.func114 (by kernel_rfl) ((by kernel_rfl:aK Pr _ _ _ Tryz.f114 _ w R=Pm ck cl cm aX version c w R).mpr h)
def Pn (ck:Int) (cl:Int) (cm:Int) (aX:ah) (m:ah) (w:World) (R:Value→World→Prop):Prop:=
 nw aZ [.int .i64 ck,.int .i64 cl,.int .i64 cm,.slice aX.a aX.n aX.c] w fun a b=>
 bu a b fun c d e f=>
 ay Pr sU [.agg ⟨[.int .i64 c,.int .i64 d,.int .i64 e,.slice f.a f.n f.c]⟩] b fun g i=>
 aU g fun j=>
 aA (!j)
 (ay Pr kU [.int .i64 2] i fun k l=>
 R (.tuple ⟨[.int .i64 0,.slice none 0 0,.slice none 0 0,k]⟩) l)
 (bu a i fun n o p q=>
 ay Pr Mq [.agg ⟨[.int .i64 n,.int .i64 o,.int .i64 p,.slice q.a q.n q.c]⟩] i fun s t=>
 br.bC s fun u=>
 aC u fun v x=>
 uu v fun y z A B=>
 aC x fun C D=>
 aU C fun E=>
 (D=[]∧
 nw cI (zc Pr cI) t fun F G=>
 gx F y z A B G fun I=>
 aA (!E)
 (ay Pr kU [.int .i64 11] I fun J L=>
 R (.tuple ⟨[.int .i64 0,.slice none 0 0,.slice none 0 0,J]⟩) L)
 (bu a I fun M N O Q=>
 an .i64 (Addr.add F 0) I fun S=>
 ay Pr Dw [.agg ⟨[.int .i64 M,.int .i64 N,.int .i64 O,.slice Q.a Q.n Q.c]⟩,.int .i64 S,.func (.func C6) ⟨[]⟩ ⟨[]⟩] I fun T U=>
 br.bC T fun V=>
 aC V fun X Y=>
 aT X fun Z=>
 aC Y fun aa ba=>
 aT aa fun ca=>
 aC ba fun da ea=>
 (ea=[]∧
 fB da fun fa=>
 aA (!fa)
 (R (.tuple ⟨[.int .i64 0,.slice none 0 0,.slice none 0 0,da]⟩) U)
 (an .i64 (Addr.add a 2) U fun ga=>
 ay Pr PC [.int .i64 ga,.slice Z.a Z.n Z.c,.slice m.a m.n m.c] U fun ia ja=>
 br.bC ia fun ka=>
 aC ka fun la ma=>
 aT la fun na=>
 aC ma fun oa pa=>
 aT oa fun qa=>
 aC pa fun sa ta=>
 (ta=[]∧
 fB sa fun ua=>
 aA (!ua)
 (R (.tuple ⟨[.int .i64 0,.slice none 0 0,.slice none 0 0,sa]⟩) ja)
 (an .i64 (Addr.add F 0) ja fun va=>
 R (.tuple ⟨[.int .i64 va,.slice na.a na.n na.c,.slice qa.a qa.n qa.c,.nilIface]⟩) ja)))))))
theorem aft {ck:Int} {cl:Int} {cm:Int} {aX:ah} {m:ah} {w:World} {R:Value→World→Prop} (h:Pn ck cl cm aX m w R):Ok Pr OH [.agg ⟨[.int .i64 ck,.int .i64 cl,.int .i64 cm,.slice aX.a aX.n aX.c]⟩,.slice m.a m.n m.c] w R:=
 aL (m:=⟨true,true⟩) (J:=[]) (L:=[]) aJ Tryz.func115 (by kernel_rfl) ((by kernel_rfl:aK Pr _ _ _ Tryz.f115 _ w R=Pn ck cl cm aX m w R).mpr h)
def Nn (ck:Int) (cl:Int) (cm:Int) (aX:ah) (aq:ah) (w:World) (R:Value→World→Prop):Prop:=
 nw aZ [.int .i64 ck,.int .i64 cl,.int .i64 cm,.slice aX.a aX.n aX.c] w fun a b=>
 nw aZ (zc Pr aZ) b fun c d=>
 bu a d fun e f g i=>
 ay Pr sU [.agg ⟨[.int .i64 e,.int .i64 f,.int .i64 g,.slice i.a i.n i.c]⟩] d fun j k=>
 aU j fun l=>
 aA (!l)
 (ay Pr kU [.int .i64 2] k fun m n=>
 cD c 0 0 0 ⟨none,0,0⟩ n fun o=>
 bu c o fun p q s t=>
 R (.tuple ⟨[.agg ⟨[.int .i64 p,.int .i64 q,.int .i64 s,.slice t.a t.n t.c]⟩,m]⟩) o)
 (aA (!decide ((aq.n:Int)=64))
 (ay Pr kU [.int .i64 3] k fun u v=>
 cD c 0 0 0 ⟨none,0,0⟩ v fun x=>
 bu c x fun y z A B=>
 R (.tuple ⟨[.agg ⟨[.int .i64 y,.int .i64 z,.int .i64 A,.slice B.a B.n B.c]⟩,u]⟩) x)
 (ax (Addr.add a 3) k fun C=>
 aA (decide ((C.n:Int)=5))
 (ay Pr kU [.int .i64 12] k fun D E=>
 cD c 0 0 0 ⟨none,0,0⟩ E fun F=>
 bu c F fun G I J L=>
 R (.tuple ⟨[.agg ⟨[.int .i64 G,.int .i64 I,.int .i64 J,.slice L.a L.n L.c]⟩,D]⟩) F)
 (bu a k fun M N O Q=>
 ay Pr A8 [.agg ⟨[.int .i64 M,.int .i64 N,.int .i64 O,.slice Q.a Q.n Q.c]⟩] k fun S T=>
 qZ S fun U V X Y=>
 cD a U V X Y T fun Z=>
 ax (Addr.add a 3) (World.drew Z) fun aa=>
 ax (Addr.add a 3) (World.drew Z) fun ba=>
 (aF ((ba.n:Int)+1)∧
 ay Pr G8 [.int .i64 ((ba.n:Int)+1),.slice aq.a aq.n aq.c] (World.drew Z) fun ca da=>
 uu ca fun ea fa ga ia=>
 (kept (Addr.add a 3) 1 (World.drew Z) da∧
 nw cI [.int .i64 ea,.int .i64 fa,.int .i64 ga,.slice ia.a ia.n ia.c] da fun ja ka=>
 (kept (Addr.add a 3) 1 da ka∧
 cH Pr [sO,sO] sO [.slice aa.a aa.n aa.c,.slice (some ja) 1 1] ka fun la ma=>
 st (Addr.add a 3) (.slice la.a la.n la.c) ma fun na=>
 bu a na fun oa pa qa sa=>
 cD c oa pa qa sa na fun ta=>
 bu c ta fun ua va xa ya=>
 R (.tuple ⟨[.agg ⟨[.int .i64 ua,.int .i64 va,.int .i64 xa,.slice ya.a ya.n ya.c]⟩,.nilIface]⟩) ta))))))
theorem ad3 {ck:Int} {cl:Int} {cm:Int} {aX:ah} {aq:ah} {w:World} {R:Value→World→Prop} (h:Nn ck cl cm aX aq w R):Ok Pr MO [.agg ⟨[.int .i64 ck,.int .i64 cl,.int .i64 cm,.slice aX.a aX.n aX.c]⟩,.slice aq.a aq.n aq.c] w R:=
 aL (m:=⟨true,true⟩) (J:=[]) (L:=[]) aJ Tryz.func119 (by kernel_rfl) ((by kernel_rfl:aK Pr _ _ _ Tryz.f119 _ w R=Nn ck cl cm aX aq w R).mpr h)
def Qp (ck:Int) (cl:Int) (cm:Int) (aX:ah) (op:Int) (version:Int) (zm:Int) (clock:Int) (w:World) (R:Value→World→Prop):Prop:=
 nw aZ [.int .i64 ck,.int .i64 cl,.int .i64 cm,.slice aX.a aX.n aX.c] w fun a b=>
 nw aZ (zc Pr aZ) b fun c d=>
 bu a d fun e f g i=>
 ay Pr sU [.agg ⟨[.int .i64 e,.int .i64 f,.int .i64 g,.slice i.a i.n i.c]⟩] d fun j k=>
 aU j fun l=>
 aA (((!l) || (decide (op<5))) || (decide (8<op)))
 (ay Pr kU [.int .i64 2] k fun m n=>
 cD c 0 0 0 ⟨none,0,0⟩ n fun o=>
 bu c o fun p q s t=>
 R (.tuple ⟨[.agg ⟨[.int .i64 p,.int .i64 q,.int .i64 s,.slice t.a t.n t.c]⟩,m]⟩) o)
 (bu a k fun u v x y=>
 ay Pr yz [.agg ⟨[.int .i64 u,.int .i64 v,.int .i64 x,.slice y.a y.n y.c]⟩,.int .i64 version] k fun z A=>
 br.bC z fun B=>
 aC B fun C D=>
 uu C fun E F G I=>
 aC D fun J L=>
 aU J fun M=>
 (L=[]∧
 nw cI (zc Pr cI) A fun N O=>
 gx N E F G I O fun Q=>
 aA (!M)
 (ay Pr kU [.int .i64 9] Q fun S T=>
 cD c 0 0 0 ⟨none,0,0⟩ T fun U=>
 bu c U fun V X Y Z=>
 R (.tuple ⟨[.agg ⟨[.int .i64 V,.int .i64 X,.int .i64 Y,.slice Z.a Z.n Z.c]⟩,S]⟩) U)
 (an .i64 (Addr.add N 1) Q fun aa=>
 ay Pr OJ [.int .i64 op,.int .i64 aa] Q fun ba ca=>
 br.bC ba fun da=>
 aC da fun ea fa=>
 aY .i64 ea fun ga=>
 aC fa fun ia ja=>
 aU ia fun ka=>
 (ja=[]∧
 jh (fun (la:Int)=>[(3,some (.int .i64 la))])
 (fun la ma=>bu a ma fun na oa pa qa=>
 ay Pr A8 [.agg ⟨[.int .i64 na,.int .i64 oa,.int .i64 pa,.slice qa.a qa.n qa.c]⟩] ma fun sa ta=>
 qZ sa fun ua va xa ya=>
 cD a ua va xa ya ta fun za=>
 ax (Addr.add a 3) (World.drew za) fun Aa=>
 (aF (version - 1)∧
 ax (Addr.add a 3) (World.drew za) fun Ba=>
 (aF (version - 1)∧
 aQ Aa.a (version - 1) Aa.n
 (st (Addr.add (Addr.add (base Aa.a) (Int.toNat (version - 1) * 4)) 1) (.int .i64 ga) (World.drew za) fun Ca=>
 (kept (Addr.add a 3) 1 (World.drew za) Ca∧
 aQ Ba.a (version - 1) Ba.n
 (st (Addr.add (Addr.add (base Ba.a) (Int.toNat (version - 1) * 4)) 2) (.int .i64 la) Ca fun Da=>
 bu a Da fun Ea Fa Ga Ia=>
 cD c Ea Fa Ga Ia Da fun Ja=>
 bu c Ja fun La Ma Na Oa=>
 R (.tuple ⟨[.agg ⟨[.int .i64 La,.int .i64 Ma,.int .i64 Na,.slice Oa.a Oa.n Oa.c]⟩,.nilIface]⟩) Ja))))))
 (fun Qa=>
 aA (!ka)
 (ay Pr kU [.int .i64 11] ca fun Sa Ta=>
 cD c 0 0 0 ⟨none,0,0⟩ Ta fun Ua=>
 bu c Ua fun Va Xa Ya Za=>
 R (.tuple ⟨[.agg ⟨[.int .i64 Va,.int .i64 Xa,.int .i64 Ya,.slice Za.a Za.n Za.c]⟩,Sa]⟩) Ua)
 (aA (!decide (op=7))
 (Qa 0 ca)
 (jh (fun (ab:Bool)=>[(53,some (.bool ab))])
 (fun ab bb=>aA ab
 (ay Pr kU [.int .i64 2] bb fun cb db=>
 cD c 0 0 0 ⟨none,0,0⟩ db fun eb=>
 bu c eb fun fb gb ib jb=>
 R (.tuple ⟨[.agg ⟨[.int .i64 fb,.int .i64 gb,.int .i64 ib,.slice jb.a jb.n jb.c]⟩,cb]⟩) eb)
 (Qa zm bb))
 (fun kb=>
 aA (decide (zm≤clock))
 (kb true ca)
 (ay Pr uB [.int .i64 zm,.int .i64 1,.int .i64 1099511627776] ca fun lb mb=>
 aU lb fun nb=>
 kb (!nb) mb)))))))))
theorem agp {ck:Int} {cl:Int} {cm:Int} {aX:ah} {op:Int} {version:Int} {zm:Int} {clock:Int} {w:World} {R:Value→World→Prop} (h:Qp ck cl cm aX op version zm clock w R):Ok Pr Py [.agg ⟨[.int .i64 ck,.int .i64 cl,.int .i64 cm,.slice aX.a aX.n aX.c]⟩,.int .i64 op,.int .i64 version,.int .i64 zm,.int .i64 clock] w R:=
 aL (m:=⟨true,true⟩) (J:=[(13,[(3,.int .i64)]),(12,[(53,.bool)])]) (L:=[]) aJ Tryz.func120 (by kernel_rfl) ((by kernel_rfl:aK Pr _ _ _ Tryz.f120 _ w R=Qp ck cl cm aX op version zm clock w R).mpr h)
def L5 (s:ByteArray) (w:World) (R:Value→World→Prop):Prop:=
 R (.bool ((decide (1≤((ByteArray.size s:Nat):Int))) && (decide (((ByteArray.size s:Nat):Int)≤300)))) w
theorem acZ {s:ByteArray} {w:World} {R:Value→World→Prop} (h:L5 s w R):Ok Pr GJ [.string s] w R:=
 aL (m:=⟨true,true⟩) (J:=[]) (L:=[]) aJ Tryz.func123 (by kernel_rfl) ((by kernel_rfl:aK Pr _ _ _ Tryz.f123 _ w R=L5 s w R).mpr h)
def L6 (l:ah) (parent:Int) (name:ByteArray) (w:World) (R:Value→World→Prop):Prop:=
 nw bG [.int .i64 parent] w fun a b=>
 nw yU [.string name] b fun c d=>
 ay Pr Ki [.slice l.a l.n l.c,.func (.func Lm) ⟨[]⟩ ⟨[.pointer (some a),.pointer (some c)]⟩] d fun e f=>
 aU e fun g=>
 R (.bool g) f
theorem ada {l:ah} {parent:Int} {name:ByteArray} {w:World} {R:Value→World→Prop} (h:L6 l parent name w R):Ok Pr GK [.slice l.a l.n l.c,.int .i64 parent,.string name] w R:=
 aL (m:=⟨true,true⟩) (J:=[]) (L:=[]) aJ Tryz.func124 (by kernel_rfl) ((by kernel_rfl:aK Pr _ _ _ Tryz.f124 _ w R=L6 l parent name w R).mpr h)
def QL (n:Int) (lo:Int) (hi:Int) (w:World) (R:Value→World→Prop):Prop:=
 R (.bool ((decide (lo≤n)) && (decide (n≤hi)))) w
theorem agX {n:Int} {lo:Int} {hi:Int} {w:World} {R:Value→World→Prop} (h:QL n lo hi w R):Ok Pr uB [.int .i64 n,.int .i64 lo,.int .i64 hi] w R:=
 aL (m:=⟨true,true⟩) (J:=[]) (L:=[]) aJ Tryz.func127 (by kernel_rfl) ((by kernel_rfl:aK Pr _ _ _ Tryz.f127 _ w R=QL n lo hi w R).mpr h)
def Qq (sB:Int) (sC:Int) (sD:Int) (kR:ah) (n:Int) (w:World) (R:Value→World→Prop):Prop:=
 nw cI [.int .i64 sB,.int .i64 sC,.int .i64 sD,.slice kR.a kR.n kR.c] w fun a b=>
 an .i64 (Addr.add a 2) (World.drew b) fun c=>
 ax (Addr.add a 3) (World.drew b) fun d=>
 lt (A:=Bool) (decide ((d.n:Int)=64)) fun e=>
 uN (fun (f:Bool) (g:Bool)=>[(5,some (.bool f)),(6,some (.bool g))])
 (fun f g i=>an .i64 (Addr.add a 0) i fun j=>
 R (.bool (((decide (j=n)) && f) && g)) i)
 (fun k=>
 an .i64 (Addr.add a 1) (World.drew b) fun l=>
 aA (decide (l=3))
 (an .i64 (Addr.add a 2) (World.drew b) fun m=>
 ay Pr uB [.int .i64 m,.int .i64 1,.int .i64 1099511627776] (World.drew b) fun o p=>
 aU o fun q=>
 k q e p)
 (aA (decide (l=4))
 (ax (Addr.add a 3) (World.drew b) fun s=>
 lt (A:=Bool) (decide ((s.n:Int)=0)) fun t=>
 k (decide (c=0)) t (World.drew b))
 (aA (decide (l=1))
 (aA (decide (l=1))
 (k (decide (c=0)) e (World.drew b))
 (R (.bool false) (World.drew b)))
 (aA (decide (l=2))
 (k (decide (c=0)) e (World.drew b))
 (R (.bool false) (World.drew b))))))
theorem agq {sB:Int} {sC:Int} {sD:Int} {kR:ah} {n:Int} {w:World} {R:Value→World→Prop} (h:Qq sB sC sD kR n w R):Ok Pr Pz [.agg ⟨[.int .i64 sB,.int .i64 sC,.int .i64 sD,.slice kR.a kR.n kR.c]⟩,.int .i64 n] w R:=
 aL (m:=⟨true,true⟩) (J:=[(10,[(5,.bool),(6,.bool)])]) (L:=[]) aJ Tryz.func128 (by kernel_rfl) ((by kernel_rfl:aK Pr _ _ _ Tryz.f128 _ w R=Qq sB sC sD kR n w R).mpr h)
def L7 (sB:Int) (sC:Int) (sD:Int) (kR:ah) (n:Int) (w:World) (R:Value→World→Prop):Prop:=
 nw cI [.int .i64 sB,.int .i64 sC,.int .i64 sD,.slice kR.a kR.n kR.c] w fun a b=>
 an .i64 (Addr.add a 0) b fun c=>
 an .i64 (Addr.add a 1) b fun d=>
 an .i64 (Addr.add a 1) b fun e=>
 aA (((!decide (c=n)) || (decide (d<1))) || (decide (4<e)))
 (R (.bool false) b)
 (an .i64 (Addr.add a 1) b fun f=>
 ax (Addr.add a 3) b fun g=>
 an .i64 (Addr.add a 1) b fun i=>
 ax (Addr.add a 3) b fun j=>
 aA (((decide (f=4)) && (!decide ((g.n:Int)=0))) || ((!decide (i=4)) && (!decide ((j.n:Int)=64))))
 (R (.bool false) b)
 (an .i64 (Addr.add a 1) b fun k=>
 aA (decide (k=3))
 (an .i64 (Addr.add a 2) b fun l=>
 an .i64 (Addr.add a 2) b fun m=>
 R (.bool ((decide (1≤l)) && (decide (m≤1099511627776)))) b)
 (an .i64 (Addr.add a 2) b fun o=>
 R (.bool (decide (o=0))) b)))
theorem adb {sB:Int} {sC:Int} {sD:Int} {kR:ah} {n:Int} {w:World} {R:Value→World→Prop} (h:L7 sB sC sD kR n w R):Ok Pr LP [.agg ⟨[.int .i64 sB,.int .i64 sC,.int .i64 sD,.slice kR.a kR.n kR.c]⟩,.int .i64 n] w R:=
 aL (m:=⟨true,true⟩) (J:=[]) (L:=[]) aJ Tryz.func147 (by kernel_rfl) ((by kernel_rfl:aK Pr _ _ _ Tryz.f147 _ w R=L7 sB sC sD kR n w R).mpr h)
def ME (l:ah) (a:Int) (w:World) (R:Value→World→Prop):Prop:=
 ay Pr C8 [.slice l.a l.n l.c] w fun b c=>
 aU b fun d=>
 aA (!d)
 (R (.slice none 0 0) c)
 (iq (fun (e:Int) (f:ah)=>[(1,some (.int .i64 e)),(5,some (.slice f.a f.n f.c))])
 (fun g e f i=>ay Pr GL [.slice l.a l.n l.c,.int .i64 e] i fun j k=>
 aU j fun m=>
 aA m
 (nw bG [.int .i64 e] k fun n o=>
 cH Pr [e9,e9] e9 [.slice f.a f.n f.c,.slice (some n) 1 1] o fun p q=>
 (aF (e - 1)∧
 aQ l.a (e - 1) l.n
 (an .i64 (Addr.add (Addr.add (base l.a) (Int.toNat (e - 1) * 3)) 1) q fun s=>
 g s p q)))
 (R (.slice f.a f.n f.c) k))
 a ⟨none,0,0⟩ c)
theorem adw {l:ah} {a:Int} {w:World} {R:Value→World→Prop} (h:ME l a w R):Ok Pr Mp [.slice l.a l.n l.c,.int .i64 a] w R:=
 aL (m:=⟨true,true⟩) (J:=[]) (L:=[(4,[(1,.int .i64),(5,.sl)])]) aJ Tryz.func150 (by kernel_rfl) ((by kernel_rfl:aK Pr _ _ _ Tryz.f150 _ w R=ME l a w R).mpr h)
def L8 (code:Int) (w:World) (R:Value→World→Prop):Prop:=
 nw oW [.int .i64 code,.string aiA] w fun a b=>
 R (.iface ju (.pointer (some a))) b
theorem ade {code:Int} {w:World} {R:Value→World→Prop} (h:L8 code w R):Ok Pr wk [.int .i64 code] w R:=
 aL (m:=⟨true,true⟩) (J:=[]) (L:=[]) aJ Tryz.func155 (by kernel_rfl) ((by kernel_rfl:aK Pr _ _ _ Tryz.f155 _ w R=L8 code w R).mpr h)
def L9 (l:ah) (fy:Int) (w:World) (R:Value→World→Prop):Prop:=
 R (.bool ((decide (1≤fy)) && (decide (fy≤(l.n:Int))))) w
theorem adf {l:ah} {fy:Int} {w:World} {R:Value→World→Prop} (h:L9 l fy w R):Ok Pr GL [.slice l.a l.n l.c,.int .i64 fy] w R:=
 aL (m:=⟨true,true⟩) (J:=[]) (L:=[]) aJ Tryz.func156 (by kernel_rfl) ((by kernel_rfl:aK Pr _ _ _ Tryz.f156 _ w R=L9 l fy w R).mpr h)
def Oo (n:Int) (aq:ah) (w:World) (R:Value→World→Prop):Prop:=
 nw cI (zc Pr cI) w fun a b=>
 ay Pr sM [.slice aq.a aq.n aq.c] b fun c d=>
 aT c fun e=>
 gx a n 1 0 e d fun f=>
 jt a f fun g i j k=>
 R (.agg ⟨[.int .i64 g,.int .i64 i,.int .i64 j,.slice k.a k.n k.c]⟩) f
theorem aeI {n:Int} {aq:ah} {w:World} {R:Value→World→Prop} (h:Oo n aq w R):Ok Pr G8 [.int .i64 n,.slice aq.a aq.n aq.c] w R:=
 aL (m:=⟨true,true⟩) (J:=[]) (L:=[]) aJ Tryz.func157 (by kernel_rfl) ((by kernel_rfl:aK Pr _ _ _ Tryz.f157 _ w R=Oo n aq w R).mpr h)
def Oq (code:Int) (w:World) (R:Value→World→Prop):Prop:=
 nw oW [.int .i64 code,.string alD] w fun a b=>
 R (.iface ju (.pointer (some a))) b
theorem aeJ {code:Int} {w:World} {R:Value→World→Prop} (h:Oq code w R):Ok Pr kU [.int .i64 code] w R:=
 aL (m:=⟨true,true⟩) (J:=[]) (L:=[]) aJ Tryz.func158 (by kernel_rfl) ((by kernel_rfl:aK Pr _ _ _ Tryz.f158 _ w R=Oq code w R).mpr h)
def Po (ck:Int) (cl:Int) (cm:Int) (aX:ah) (version:Int) (usable:Value) (w:World) (R:Value→World→Prop):Prop:=
 nw aZ [.int .i64 ck,.int .i64 cl,.int .i64 cm,.slice aX.a aX.n aX.c] w fun a b=>
 bu a b fun c d e f=>
 ay Pr sU [.agg ⟨[.int .i64 c,.int .i64 d,.int .i64 e,.slice f.a f.n f.c]⟩] b fun g i=>
 aU g fun j=>
 aA (!j)
 (ay Pr kU [.int .i64 2] i fun k l=>
 R (.tuple ⟨[.slice none 0 0,.slice none 0 0,k]⟩) l)
 (bu a i fun m n o p=>
 ay Pr yz [.agg ⟨[.int .i64 m,.int .i64 n,.int .i64 o,.slice p.a p.n p.c]⟩,.int .i64 version] i fun q s=>
 br.bC q fun t=>
 aC t fun u v=>
 uu u fun x y z A=>
 aC v fun B C=>
 aU B fun D=>
 (C=[]∧
 nw cI (zc Pr cI) s fun E F=>
 gx E x y z A F fun G=>
 aA (!D)
 (ay Pr kU [.int .i64 9] G fun I J=>
 R (.tuple ⟨[.slice none 0 0,.slice none 0 0,I]⟩) J)
 (an .i64 (Addr.add E 1) G fun L=>
 lJ Pr usable [.int .i64 L] G fun M N=>
 aU M fun O=>
 aA (!O)
 (ay Pr kU [.int .i64 11] N fun Q S=>
 R (.tuple ⟨[.slice none 0 0,.slice none 0 0,Q]⟩) S)
 (an .i64 (Addr.add a 2) N fun T=>
 ax (Addr.add E 3) N fun U=>
 ay Pr PD [.int .i64 T,.slice U.a U.n U.c] N fun V X=>
 br.bC V fun Y=>
 aC Y fun Z aa=>
 aT Z fun ba=>
 aC aa fun ca da=>
 aT ca fun ea=>
 aC da fun fa ga=>
 (ga=[]∧
 R (.tuple ⟨[.slice ba.a ba.n ba.c,.slice ea.a ea.n ea.c,fa]⟩) X)))))
theorem afu {ck:Int} {cl:Int} {cm:Int} {aX:ah} {version:Int} {usable:Value} {w:World} {R:Value→World→Prop} (h:Po ck cl cm aX version usable w R):Ok Pr Dw [.agg ⟨[.int .i64 ck,.int .i64 cl,.int .i64 cm,.slice aX.a aX.n aX.c]⟩,.int .i64 version,usable] w R:=
 aL (m:=⟨true,true⟩) (J:=[]) (L:=[]) aJ Tryz.func159 (by kernel_rfl) ((by kernel_rfl:aK Pr _ _ _ Tryz.f159 _ w R=Po ck cl cm aX version usable w R).mpr h)
def Mh (state:Int) (w:World) (R:Value→World→Prop):Prop:=
 R (.bool (!decide (state=4))) w
theorem adg {state:Int} {w:World} {R:Value→World→Prop} (h:Mh state w R):Ok Pr GM [.int .i64 state] w R:=
 aL (m:=⟨true,true⟩) (J:=[]) (L:=[]) aJ Tryz.func160 (by kernel_rfl) ((by kernel_rfl:aK Pr _ _ _ Tryz.f160 _ w R=Mh state w R).mpr h)
def MF (state:Int) (w:World) (R:Value→World→Prop):Prop:=
 R (.bool (decide (state=1))) w
theorem adx {state:Int} {w:World} {R:Value→World→Prop} (h:MF state w R):Ok Pr C6 [.int .i64 state] w R:=
 aL (m:=⟨true,true⟩) (J:=[]) (L:=[]) aJ Tryz.func161 (by kernel_rfl) ((by kernel_rfl:aK Pr _ _ _ Tryz.f161 _ w R=MF state w R).mpr h)
def MG (ck:Int) (cl:Int) (cm:Int) (aX:ah) (w:World) (R:Value→World→Prop):Prop:=
 nw aZ [.int .i64 ck,.int .i64 cl,.int .i64 cm,.slice aX.a aX.n aX.c] w fun a b=>
 nw cI (zc Pr cI) b fun c d=>
 ax (Addr.add a 3) d fun e=>
 cZ (fun (f:Int)=>[(4,some (.int .i64 f))])
 (fun g f i=>aA (decide (0<f))
 (bu a i fun j k l m=>
 ay Pr yz [.agg ⟨[.int .i64 j,.int .i64 k,.int .i64 l,.slice m.a m.n m.c]⟩,.int .i64 f] i fun n o=>
 br.bC n fun p=>
 aC p fun q s=>
 uu q fun t u v x=>
 aC s fun y z=>
 aU y fun A=>
 (z=[]∧
 nw cI (zc Pr cI) o fun B C=>
 gx B t u v x C fun D=>
 an .i64 (Addr.add B 1) D fun E=>
 aA (A && (decide (E=1)))
 (jt B D fun F G I J=>
 gx c F G I J D fun L=>
 jt c L fun M N O Q=>
 R (.tuple ⟨[.agg ⟨[.int .i64 M,.int .i64 N,.int .i64 O,.slice Q.a Q.n Q.c]⟩,.bool true]⟩) L)
 ((aF (f - 1)∧
 g (f - 1) D))))
 (gx c 0 0 0 ⟨none,0,0⟩ i fun S=>
 jt c S fun T U V X=>
 R (.tuple ⟨[.agg ⟨[.int .i64 T,.int .i64 U,.int .i64 V,.slice X.a X.n X.c]⟩,.bool false]⟩) S))
 (e.n:Int) d
theorem ady {ck:Int} {cl:Int} {cm:Int} {aX:ah} {w:World} {R:Value→World→Prop} (h:MG ck cl cm aX w R):Ok Pr Mq [.agg ⟨[.int .i64 ck,.int .i64 cl,.int .i64 cm,.slice aX.a aX.n aX.c]⟩] w R:=
 aL (m:=⟨true,true⟩) (J:=[]) (L:=[(2,[(4,.int .i64)])]) aJ Tryz.func163 (by kernel_rfl) ((by kernel_rfl:aK Pr _ _ _ Tryz.f163 _ w R=MG ck cl cm aX w R).mpr h)
def Pp (op:Int) (state:Int) (w:World) (R:Value→World→Prop):Prop:=
 jh (fun (a:Int)=>[(1,some (.int .i64 a))])
 (fun a b=>R (.tuple ⟨[.int .i64 2,.bool (decide (a=3))]⟩) b)
 (fun c=>
 aA (decide (op=5))
 (R (.tuple ⟨[.int .i64 1,.bool (decide (state=2))]⟩) w)
 (aA (decide (op=7))
 (aA ((decide (state=1)) || (decide (state=2)))
 (R (.tuple ⟨[.int .i64 3,.bool true]⟩) w)
 (R (.tuple ⟨[.int .i64 0,.bool false]⟩) w))
 (aA (decide (op=6))
 (aA (!decide (state=1))
 (R (.tuple ⟨[.int .i64 0,.bool false]⟩) w)
 (c 3 w))
 (aA (decide (op=8))
 (c state w)
 (R (.tuple ⟨[.int .i64 0,.bool false]⟩) w)))))
theorem afv {op:Int} {state:Int} {w:World} {R:Value→World→Prop} (h:Pp op state w R):Ok Pr OJ [.int .i64 op,.int .i64 state] w R:=
 aL (m:=⟨true,true⟩) (J:=[(11,[(1,.int .i64)])]) (L:=[]) aJ Tryz.func168 (by kernel_rfl) ((by kernel_rfl:aK Pr _ _ _ Tryz.f168 _ w R=Pp op state w R).mpr h)
def Lt (cQ:Int) (bK:Int) (bL:ByteArray) (free:Addr) (kA:Addr) (w:World) (R:Value→World→Prop):Prop:=
 nw dV [.int .i64 cQ,.int .i64 bK,.string bL] w fun a b=>
 an .i64 (Addr.add a 1) b fun c=>
 an .i64 free b fun d=>
 fW (Addr.add a 2) b fun e=>
 fW kA b fun f=>
 R (.bool ((decide (c=d)) && (decide (e=f)))) b
theorem acr {cQ:Int} {bK:Int} {bL:ByteArray} {free:Addr} {kA:Addr} {w:World} {R:Value→World→Prop} (h:Lt cQ bK bL free kA w R):Ok Pr Lm [.agg ⟨[.int .i64 cQ,.int .i64 bK,.string bL]⟩,.pointer (some free),.pointer (some kA)] w R:=
 aL (m:=⟨true,true⟩) (J:=[]) (L:=[]) aJ Tryz.func170 (by kernel_rfl) ((by kernel_rfl:aK Pr _ _ _ Tryz.f170 _ w R=Lt cQ bK bL free kA w R).mpr h)
end Go.Proofs.YtgjoehgomjgckaaGreatDoor
end
section
set_option linter.unusedVariables false
set_option linter.unusedSimpArgs false
namespace Go.Proofs.YtgjoehgomjgckaaGreatDoor
open Go Go.Ev
set_option maxRecDepth 20000
set_option linter.unusedVariables false
structure bn where
 n:Int
 st:Int
 due:Int
 aq:List B8
def vz:bn:=⟨0,0,0,[]⟩
def bn.cs (v:bn) (x:ah):List Value:=uv v.n v.st v.due x
theorem bn.cu (v:bn) (x:ah):(v.cs x).length=4:=rfl
def kB (w:World) (x:ah) (v:bn):Prop:=Bytes w x v.aq
theorem kB.aE {w w':World} {x:ah} {v:bn} (m:Mod [] w w') (h:kB w x v):kB w' x v:=Bytes.aE h m
def fY (w:World) (s:ah) (vs:List bn):Prop:=Dv bn.cs 4 kB w s vs
theorem fY.aE {w w':World} {s:ah} {vs:List bn} (h:fY w s vs) (m:Mod [] w w'):fY w' s vs:=Dv.aE (E:=kB) (fun m h=>kB.aE m h) h m
theorem fY.len {w:World} {s:ah} {vs:List bn} (h:fY w s vs):vs.length=s.n:=Dv.len bn.cu (by omega) h
structure aV where
 id:Int
 ten:Int
 set:Int
 aH:List bn
def kz:aV:=⟨0,0,0,[]⟩
def aV.cs (k:aV) (x:ah):List Value:=dF k.id k.ten k.set x
theorem aV.cu (k:aV) (x:ah):(k.cs x).length=4:=rfl
def ir (w:World) (x:ah) (v:bn):Prop:=Own w 0 bh 1 x (bp v.aq)
theorem ir.r {w:World} {x:ah} {v:bn} (h:ir w x v):kB w x v:=Own.bytes h
theorem aj1 {w:World} {xs:List ah} {vs:List bn} (h:bB ir w xs vs):bB kB w xs vs:=⟨h.1,fun i x v hx hv=>(h.2 i x v hx hv).r⟩
def j3 (w:World) (s:ah) (vs:List bn):Prop:=∃ ys,Own w 0 cI 4 s (bA bn.cs vs ys)∧bB ir w ys vs
theorem j3.aH {w:World} {s:ah} {vs:List bn} (h:j3 w s vs):fY w s vs:=by
 obtain ⟨ys,h1,h2⟩:=h
 exact ⟨ys,h1.sl,aj1 h2⟩
def Jv (w w':World) (y:ah) (vs:List bn):Prop:=∃ ys fp,ak w [] w' [.row cI 4 y (bA bn.cs vs ys),.box fp fun w=>bB ir w ys vs]
theorem Jv.box {w w':World} {y:ah} {vs:List bn} (h:Jv w w' y vs):fJ w w' fun w=>j3 w y vs:=by
 obtain ⟨ys,fp,H⟩:=h
 refine H.boxed fun w' k=>⟨ys,k 0 _ rfl,?_⟩
 have h2:(aD.box fp fun w=>bB ir w ys vs).ok w':=k 1 _ rfl
 exact h2.2 w' fun _ _=>rfl
theorem AP (c:Int) (hc:c≠0) (w:World):Ok Pr kU [.int .i64 c] w fun v w'=>cO w w' v c∧Mod [] w w':=by
 refine aeJ ?_
 unfold Oq
 exact qv fun b w' hb h1 h2 _=>⟨cO.mk h1 (by omega) hc,h2⟩
theorem yM (n lo hi:Int) (w:World):Ok Pr uB [.int .i64 n,.int .i64 lo,.int .i64 hi] w fun v w'=>v=.bool (aP lo hi n)∧w'=w:=by
 refine agX ?_
 unfold QL
 exact ⟨rfl,rfl⟩
def gA (v:bn) (n:Int):Bool:=decide (v.n=n) && (if v.st=3 then aP 1 1099511627776 v.due && decide (v.aq.length=64) else if v.st=4 then decide (v.due=0) && decide (v.aq.length=0) else if v.st=1∨v.st=2 then decide (v.due=0) && decide (v.aq.length=64) else false)
theorem ahA (v:bn) (x:ah) (n:Int) (w:World) (hx:kB w x v):Ok Pr Pz [.agg ⟨v.cs x⟩,.int .i64 n] w fun r w'=>r=.bool (gA v n)∧Mod [] w w':=by
 refine agq ?_
 unfold Qq
 have bT:=Bytes.len hx
 refine (ak.start w).nw fun p w1 H _=>?_
 have H:ak w [] w1.drew [.av p (uv v.n v.st v.due x) cI]:=H.drew
 refine H.an 0 rfl (au p 2) rfl (H.ax 0 rfl (au p 3) rfl (tu (wM fun go bZ=>H.an 0 rfl (au p 1) rfl ?_)))
 have fin:∀ (d s:Bool),gA v n=(decide (v.n=n) && (d && s))→go d s w1.drew:=fun d s e=>by
  refine bZ _ _ _ (H.an 0 rfl (au p 0) rfl ⟨?_,H.mod⟩)
  rw [e,Bool.and_assoc]
 have TR:decide (((x.n:Nat):Int)=64)=decide (v.aq.length=64):=decide_eq_decide.2 (by omega)
 have e0:decide (((x.n:Nat):Int)=0)=decide (v.aq.length=0):=decide_eq_decide.2 (by omega)
 rw [TR]
 refine bU (fun hc=>?_) (fun hc=>?_)
 ·have hc:=of_decide_eq_true hc
  refine H.an 0 rfl (au p 2) rfl (aB (yM _ _ _ _) ?_)
  rintro _ w2 ⟨rfl,hw⟩
  subst hw
  exact bk (fin _ _ (by unfold gA; rw [if_pos hc]))
 ·have h3:=of_decide_eq_false hc
  refine bU (fun hc=>?_) (fun hc=>?_)
  ·have hc:=of_decide_eq_true hc
   refine H.ax 0 rfl (au p 3) rfl (tu ?_)
   rw [e0]
   exact fin _ _ (by unfold gA; rw [if_neg h3,if_pos hc])
  ·have h4:=of_decide_eq_false hc
   have no:¬ (v.st=1∨v.st=2)→gA v n=false:=fun h=>by unfold gA; rw [if_neg h3,if_neg h4,if_neg h,Bool.and_false]
   refine bU (fun hc=>?_) (fun hc=>?_)
   ·refine ite_true hc ?_
    have hc:=of_decide_eq_true hc
    exact fin _ _ (by unfold gA; rw [if_neg h3,if_neg h4,if_pos (.inl hc)])
   ·have h1:=of_decide_eq_false hc
    refine bU (fun hc=>?_) (fun hc=>?_)
    ·have hc:=of_decide_eq_true hc
     exact fin _ _ (by unfold gA; rw [if_neg h3,if_neg h4,if_pos (.inr hc)])
    ·have h2:=of_decide_eq_false hc
     exact ⟨by rw [no (fun h=>h.elim h1 h2)],H.mod⟩
def l9 (vs:List bn):Nat→Bool
 | 0=>true
 | i+1=>l9 vs i && gA (vs.getD i vz) ((i:Int)+1)
theorem RQ {vs:List bn} {i:Nat} (h:gA (vs.getD i vz) ((i:Int)+1)=false):∀ n,i<n→l9 vs n=false
 | 0,hn=>by omega
 | n+1,hn=>by
  show (l9 vs n && _)=false
  rcases Nat.lt_or_ge i n with h2 | h2
  ·rw [RQ h n h2,Bool.false_and]
  ·rw [show n=i by omega,h,Bool.and_false]
def cS (k:aV):Bool:=aP 1 6 k.id && (aP 1 8 k.ten && (aP 1 3 k.set && (aP 1 5 (k.aH.length:Int) && l9 k.aH k.aH.length)))
theorem wC (k:aV) (x:ah) (hl:k.aH.length≤1000000) (w:World) (hx:fY w x k.aH):Ok Pr sU [.agg ⟨k.cs x⟩] w fun r w'=>r=.bool (cS k)∧Mod [] w w':=by
 refine agm ?_
 unfold Qm
 have bT:=hx.len
 refine (ak.start w).nw fun p w1 H _=>?_
 have H:ak w [] w1 [.av p (dF k.id k.ten k.set x) aZ]:=H
 refine ku fun go bZ=>H.an 0 rfl (au p 0) rfl (aB (yM _ _ _ _) ?_)
 rintro _ w2 ⟨rfl,hw⟩
 subst hw
 refine bk (H.an 0 rfl (au p 1) rfl ?_)
 unfold cS
 cases h1:aP 1 6 k.id with
 | false=>exact ite_true rfl (H.an 0 rfl (au p 2) rfl (H.ax 0 rfl (au p 3) rfl ⟨rfl,H.mod⟩))
 | true=>
  refine ite_false rfl (aB (yM _ _ _ _) ?_)
  rintro _ w2 ⟨rfl,hw⟩
  subst hw
  refine bk (H.an 0 rfl (au p 2) rfl ?_)
  cases h2:aP 1 8 k.ten with
  | false=>exact ite_true rfl (H.ax 0 rfl (au p 3) rfl ⟨rfl,H.mod⟩)
  | true=>
   refine ite_false rfl (aB (yM _ _ _ _) ?_)
   rintro _ w2 ⟨rfl,hw⟩
   subst hw
   refine bk (H.ax 0 rfl (au p 3) rfl ?_)
   cases h3:aP 1 3 k.set with
   | false=>exact ite_true rfl ⟨rfl,H.mod⟩
   | true=>
    refine ite_false rfl (aB (yM _ _ _ _) ?_)
    rintro _ w2 ⟨rfl,hw⟩
    subst hw
    rw [show ((x.n:Nat):Int)=(k.aH.length:Int) by omega]
    refine bk ?_
    cases h4:aP 1 5 (k.aH.length:Int) with
    | false=>exact ite_true rfl ⟨rfl,H.mod⟩
    | true=>
     have eK:cS k=l9 k.aH k.aH.length:=by unfold cS; rw [h1,h2,h3,h4]; rfl
     refine ite_false rfl (bZ _ (H.ax 0 rfl (au p 3) rfl ?_))
     refine dw 0 k.aH.length (fun i w'=>l9 k.aH i=true∧Mod [] w w') rfl (by omega) ⟨rfl,H.mod⟩ ?_ ?_
     ·rintro again i w3 _ hi ⟨dU,m⟩ aM
      have ha:k.aH[i]? = some (k.aH.getD i vz):=by rw [List.getD_eq_getElem?_getD,List.getElem?_eq_getElem hi]; rfl
      obtain ⟨dm,y,hy,hc⟩:=Dv.at bn.cu (by omega) (hx.aE m) ha
      have hs:l9 k.aH (i+1)=(l9 k.aH i && gA (k.aH.getD i vz) ((i:Int)+1)):=rfl
      have dA:=RQ (vs:=k.aH) (i:=i)
      generalize k.aH.getD i vz=v at *
      have D:=ak.start w3
      refine ite_true (decide_eq_true (by omega)) ⟨dm,yq hc (D.nw fun p2 w4 D _=>D.gx 0 rfl rfl fun w5 D=>D.jt 0 rfl ⟨⟨by omega,by omega⟩,aB (ahA v y _ _ (kB.aE D.mod hy)) ?_⟩)⟩
      ·rintro _ w6 ⟨rfl,m6⟩
       refine bk ?_
       cases hv:gA v ((i:Int)+1) with
       | false=>exact ite_true rfl ⟨by rw [eK,dA hv _ hi],m.trans (D.mod.trans m6)⟩
       | true=>exact ite_false rfl ⟨⟨by omega,by omega⟩,aM _ ⟨by rw [hs,dU,hv]; rfl,m.trans (D.mod.trans m6)⟩⟩
     ·rintro again w3 ⟨dU,m⟩
      exact ite_false (decide_eq_false (by omega)) ⟨by rw [eK,dU],m⟩
end Go.Proofs.YtgjoehgomjgckaaGreatDoor
end
