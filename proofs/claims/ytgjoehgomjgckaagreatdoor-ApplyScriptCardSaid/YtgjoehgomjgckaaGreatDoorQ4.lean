/- Texts of this claim, packed and shortened. -/
import Derived.Test.YtgjoehgomjgckaaGreatDoorQ3
import Derived.Test.YtgjoehgomjgckaaGreatDoorQ2
import Derived.Test.YtgjoehgomjgckaaGreatDoorAErrNot
import Derived.Test.YtgjoehgomjgckaaGreatDoorQ1
section
set_option linter.unusedVariables false
set_option linter.unusedSimpArgs false
namespace Go.Proofs.YtgjoehgomjgckaaGreatDoor
open Go Go.Ev
set_option maxRecDepth 20000
set_option linter.unusedVariables false
def EC(w w':World)(v:Value)(ls:List (List Int)):Prop:=∃y:ag,v=.slice y.a y.n y.c/\dU w w' λw=>dj w y ls
def Aw(w:World)(s:ag)(a:List (List (List Int))):Prop:=nT dj w s a
theorem Aw.av{w w':World}{s:ag}{a:List (List (List Int))}(h:Aw w s a)(m:Mod [] w w'):Aw w' s a:=nT.av (E:=dj) (λm h=>dj.av h m) h m
def ajt(w w':World)(v:Value)(a:List (List (List Int))):Prop:=∃y:ag,v=.slice y.a y.n y.c/\dU w w' λw=>Aw w y a
theorem ahC:ew Pr adW ji 1 24:=.of (by kernel_rfl)
theorem xb{A:Type}(f:Nat->A)(i:Nat):(List.range (i+1)).map f=(List.range i).map f++[f i]:=by simp[List.range_succ]
def mZ(ls:List (List Int)):Prop:=∀l∈ls,Pq l
theorem mZ.get{ls:List (List Int)}(h:mZ ls){i:Nat}(hi:i<ls.length):Pq (ls.getD i []):=h _ (vR hi [])
theorem DJ(d:Nat)(l:List B8):∀x∈unpack d l,0<=x/\x<((2 ^ d:Nat):Int):=by
 intro x hx
 unfold unpack at hx
 obtain⟨i,_,rfl⟩:=List.mem_map.1 hx
 have:=UY (num l) d i
 omega
theorem _root_.Go.Ev.cl.kept{w w':World}{x:ag}{l:List Int}(h:cl w x l){i:Nat}(hi:i<l.length)(m:Mod [] w w'):kept (Addr.add (base x.a) (Int.toNat (i:Int)*1)) 1 w w':=by
 refine vM m (v:=i64 l[i]) ?_
 rw[Int.toNat_natCast,Nat.mul_one]
 exact h.cell i _ (by simp[bf,hi])
theorem _root_.Go.Ev.dj.kept{w w':World}{x:ag}{ls:List (List Int)}(h:dj w x ls){i:Nat}(hi:i<ls.length)(m:Mod [] w w'):kept (Addr.add (base x.a) (Int.toNat (i:Int)*1)) 1 w w':=by
 obtain⟨y,_,_,hc⟩:=h.at hi
 exact vM m (by rw[Int.toNat_natCast];exact hc)
theorem kR.EV{w w':World}{v:Value}{l:List Int}(h:kR w w' v l):∃y:ag,v=.slice y.a y.n y.c/\dU w w' λw=>cl w y l:=by
 obtain⟨y,rfl,hy,m⟩:=h
 exact⟨y,rfl,dU.yf hy m λw2 h=>h.bq⟩
theorem SB{A:Type}(f:List Int->List A)(fs:List (List Int))(i:Nat)(h:i<fs.length):(fs.take (i+1)).flatMap f=(fs.take i).flatMap f++f (fs.getD i []):=by
 rw[ic _ _ h [],List.flatMap_append];simp
@[irreducible] def sW(f:List Int):List B8:=qc 12 f
def rN(fs:List (List Int)):List B8:=fs.flatMap sW
theorem Lc{f:List Int}(h:f.length=256):(sW f).length=384:=by unfold sW;rw[Gm,h]
theorem BZ{fs:List (List Int)}(h:mZ fs):(rN fs).length=384*fs.length:=by
 unfold rN
 induction fs with
 |nil=>rfl
 |cons f r ih=>rw[List.flatMap_cons,List.length_append,ih λl hl=>h l (by simp[hl]),Lc (h f (by simp)).len,List.length_cons];omega
theorem U5{f:List Int}(h:Pq f):tH 12 f:=⟨λx hx=>(h.N1 x hx).1,λx hx=>by
 have:=h.N1 x hx
 show x<((2 ^ 12:Nat):Int)
 omega⟩
theorem RR(x:ag)(fs:List (List Int))(hl:fs.length<=100)(hp:mZ fs)(w:World)(hx:dj w x fs):Ok Pr af9 [.slice x.a x.n x.c] w λv w'=>iN w w' v (rN fs):=by
 refine aC Tryz.func245 (L:=[(3,[(3,.sl),(8,.int .i64)])]) ?_
 have aT:=hx.len
 refine eZ 0 fs.length (λi (o:ag) w'=>ah w [] w' [.row aE 1 o (aG ((fs.take i).flatMap sW))]) rfl (by omega) (by simpa[aG]using (ah.start w).dy aE 1) ?_ ?_
 ·intro again i o w1 _ hi H aB
  have hA:((fs.take i).flatMap sW).length<=384*100:=by
   have:=BZ (fs:=fs.take i) λl hl=>hp l (List.mem_of_mem_take hl)
   unfold rN at this
   rw[this,List.length_take]
   omega
  have nX:=(H.bytes 0 rfl).len
  refine ite_true (decide_eq_true (by omega)) ((hx.av H.mod).ld (i:=i) hi rfl λy hy=>?_)
  rw[SB _ _ _ hi]at aB
  have hP:=hp.get hi
  generalize fs.getD i []=f at*
  have Be:=hP.len
  refine an (QH 12 (by omega) (by omega) y f (by omega) (U5 hP) _ hy) ?_
  rintro _ w2 ⟨z,rfl,hz,m⟩
  rw[show qc 12 f=sW f by unfold sW;rfl]at hz
  have H:=H.bg m hz
  have gR:=hz.bytes.len
  have:=Lc Be
  refine aS (H.iX 0 cg rfl hz.bytes (by omega) λo' w3 H _=>⟨⟨by omega,by omega⟩,aB o' w3 H.front⟩)
 ·intro again o w1 H
  rw[List.take_of_length_le (Nat.le_refl _)]at H
  exact ite_false (decide_eq_false (by omega)) ⟨o,rfl,H.cm 0 rfl,H.mod⟩
def pG(d:Nat)(f:List Int):List Int:=f.map λx=>(uY d x:Int)
@[irreducible] def g8(d:Nat)(f:List Int):List B8:=qc d (pG d f)
theorem zX{d:Nat}{f:List Int}(h:f.length=256):(g8 d f).length=32*d:=by
 unfold g8 pG
 rw[Gm,List.length_map,h];omega
theorem Up(d:Nat)(f:List Int):tH d (pG d f):=⟨λx hx=>by
 obtain⟨y,_,rfl⟩:=List.mem_map.1 hx
 omega,λx hx=>by
 obtain⟨y,_,rfl⟩:=List.mem_map.1 hx
 have:=ajn (d:=d) y
 omega⟩
theorem getD_map'{f:Int->Int}{l:List Int}{i:Nat}(h:i<l.length):(l.map f).getD i 0=f (l.getD i 0):=by
 simp[List.getD_eq_getElem?_getD,h]
theorem JX(d:Nat)(h1:1<=d)(hd:d<=11)(x:ag)(f:List Int)(hf:f.length=256)(w:World)(hx:cl w x f):Ok Pr ach [.int .i64 (d:Int),.slice x.a x.n x.c] w λv w'=>iN w w' v (g8 d f):=by
 refine aC Tryz.func216 (L:=[(3,[(5,.sl),(10,.int .i64)])]) ?_
 have aT:=hx.len
 have hN:=Gm d (pG d f)
 have zf:(pG d f).length=256:=by unfold pG;rw[List.length_map,hf]
 have mb:∀i,i<256->(pG d f).getD i 0=(uY d (f.getD i 0):Int):=λi hi=>getD_map' (by omega)
 have Nh:=Up d f
 rw[show g8 d f=qc d (pG d f) by unfold g8;rfl]
 generalize pG d f=N at*
 refine eZ 0 256 (λi (xs:ag) w'=>ah w [] w' [.row aU 1 xs (bf (N.take i))]) rfl (by omega) (by simpa[bf]using (ah.start w).dy aU 1) ?_ ?_
 ·intro again i xs w3 _ hi H aB
  have hn:=(H.bq 0 rfl).len
  rw[List.length_take,Nat.min_eq_left (by omega)]at hn
  refine ite_true (decide_eq_true (by omega)) ((hx.av H.mod).ld (i:=i) (by omega) rfl (an (aap d h1 hd _ _) ?_))
  rintro _ w4 ⟨rfl,m⟩
  have H:=H.frame m
  rw[<- mb i hi]
  refine bH (H.rK 0 ou rfl (by omega) λOd w5 H _=>⟨⟨by omega,by omega⟩,aB Od w5 ?_⟩)
  rw[ic _ _ (by omega) 0]
  exact H
 ·intro again xs w3 H
  rw[List.take_of_length_le (by omega)]at H
  refine ite_false (decide_eq_false (by omega)) (an (QH d h1 (by omega) xs N (by omega) Nh _ (H.bq 0 rfl)) ?_)
  rintro _ w5 ⟨y,rfl,hy,m5⟩
  have H:=H.bg m5 hy
  exact aS ⟨y,rfl,H.cm 1 rfl,H.mod⟩
def nM(d:Nat)(l:List Int):List Int:=l.map λx=>lK d x.toNat
def jo(d many:Nat)(b:List B8):List (List Int):=(dh d many b).map (nM d)
theorem B0(d many:Nat)(b:List B8):(jo d many b).length=many:=by unfold jo dh;simp
theorem D8{d many:Nat}(h1:1<=d)(hd:d<=11){b:List B8}(hb:32*d*many<=b.length):mZ (jo d many b):=by
 intro l hl
 unfold jo dh at hl
 rw[List.map_map]at hl
 obtain⟨i,hi,rfl⟩:=List.mem_map.1 hl
 refine⟨by show(nM d _).length=256;unfold nM;rw[List.length_map];exact G4 h1 hb (List.mem_range.1 hi),λx hx=>?_⟩
 obtain⟨y,_,rfl⟩:=List.mem_map.1 hx
 exact aiA hd h1
theorem BN(d many:Nat)(b:List B8):(dh d many b).length=many:=by unfold dh;simp
theorem SC{d many:Nat}{b:List B8}{i:Nat}(h:i<many):(dh d many b)[i]? = some (fh d b i):=by
 unfold dh;rw[List.getElem?_map,List.getElem?_range h];rfl
theorem Ca{A:Type}(f:A->A)(l:List A)(i:Nat)(h:i<l.length)(d:A):((l.take i).map f++l.drop i).set i (f (l.getD i d))=(l.take (i+1)).map f++l.drop (i+1):=by
 have hl:((l.take i).map f).length=i:=by rw[List.length_map,List.length_take];omega
 rw[List.set_append_right _ _ (by omega),hl,Nat.sub_self,List.drop_eq_getElem_cons h,List.set_cons_zero,ic _ _ h d,List.map_append,List.append_assoc]
 simp[List.getD_eq_getElem?_getD,h]
theorem Cb{A:Type}(f:A->A)(l:List A)(i:Nat)(h:i<l.length):((l.take i).map f++l.drop i)[i]? = l[i]?:=by
 rw[List.getElem?_append_right (by simp;omega),List.length_map,List.length_take,Nat.min_eq_left (by omega),Nat.sub_self,List.getElem?_drop,Nat.add_zero]
theorem PO(d many:Nat)(h1:1<=d)(hd:d<=11)(hm:many<=8)(x:ag)(b:List B8)(hb:32*d*many<=b.length)(fc:b.length<=1000000)(w:World)(hx:Bytes w x b):
  Ok Pr abb [.int .i64 (d:Int),.int .i64 (many:Int),.slice x.a x.n x.c] w λv w'=>EC w w' v (jo d many b):=by
 refine aC Tryz.func211 (L:=[(3,[(21,.int .i64)]),(6,[(27,.int .i64)])]) ?_
 refine an (GA d many h1 (by omega) hm x b hb fc w hx) ?_
 rintro _ w1 (⟨_,out,rfl,hG⟩|⟨cr,_⟩)
 case inr=>
  unfold jt at cr
  rw[decide_eq_false (show ¬d=12 by omega)]at cr
  cases cr
 obtain⟨xs,iQ,H⟩:=hG
 have uZ:=BN d many b
 have hxn:=(H.cG 0 rfl).len
 rw[List.length_map,Nat.mul_one,iQ,uZ]at hxn
 refine⟨_,rfl,out,rfl,true,rfl,rfl,?_⟩
 refine bG 0 many (λi w'=>ah w [] w' (.row jA 1 out (xs.map ag.v)::mM xs (((dh d many b).take i).map (nM d)++(dh d many b).drop i))) rfl (by omega) H ?_ ?_
 ·intro again i w2 _ hi H aB
  obtain⟨z,hz⟩:∃z,xs[i]? = some z:=⟨_,List.getElem?_eq_getElem (by omega)⟩
  have iz:w2.cell? (Addr.add (base out.a) (Int.toNat (i:Int)*1))=some z.v:=by
   rw[Int.toNat_natCast,Nat.mul_one]
   exact(H.cG 0 rfl).cell i _ (by rw[List.getElem?_map,hz];rfl)
  refine ite_true (decide_eq_true (by omega)) ⟨⟨(H.cG 0 rfl).pre (by omega),by omega,by omega⟩,z,iz,?_⟩
  have hg:(((dh d many b).take i).map (nM d)++(dh d many b).drop i)[i]? = some (fh d b i):=by rw[Cb _ _ _ (by omega)];exact SC hi
  have hlen:=G4 h1 hb hi
  have bB:=DJ d ((b.drop (32*d*i)).take (32*d))
  change ∀x∈fh d b i,0<=x/\x<((2 ^ d:Nat):Int)at bB
  have nI:=Ca (nM d) (dh d many b) i (by omega) []
  rw[show(dh d many b).getD i []=fh d b i by rw[List.getD_eq_getElem?_getD,SC hi];rfl]at nI
  rw[<- nI]at aB
  generalize (((dh d many b).take i).map (nM d)++(dh d many b).drop i)=LS at*
  generalize fh d b i=U at*
  have Xa:i<LS.length:=(List.getElem?_eq_some_iff.1 hg).1
  have uV:=(H.bq (i+1) (Lb hz hg)).len
  have h2:=vV hd
  refine bG 0 256 (λj w'=>ah w [] w' (.row jA 1 out (xs.map ag.v)::mM xs (LS.set i ((U.take j).map (λx=>lK d x.toNat)++U.drop j)))) rfl (by omega) ?_ ?_ ?_
  ·have e:LS.set i U=LS:=by
    refine List.ext_getElem? λj=>?_
    rw[List.getElem?_set]
    by_cases h:i=j
    ·subst h;rw[if_pos rfl,if_pos Xa,hg]
    ·rw[if_neg h]
   show ah w [] w2 (.row jA 1 out (xs.map ag.v)::mM xs (LS.set i U))
   rw[e];exact H
  ·intro gN j w3 _ hj H eJ
   have mb:(mM xs (LS.set i ((U.take j).map (λx=>lK d x.toNat)++U.drop j)))[i]? = some (.row aU 1 z (bf ((U.take j).map (λx=>lK d x.toNat)++U.drop j))):=Lb hz (by rw[List.getElem?_set,if_pos rfl,if_pos Xa])
   have ak3:=H.bq (i+1) mb
   have qn:((U.take j).map (λx=>lK d x.toNat)++U.drop j).length=256:=by simp only[List.length_append,List.length_map,List.length_take,List.length_drop];omega
   have ve:((U.take j).map (λx=>lK d x.toNat)++U.drop j).getD j 0=U.getD j 0:=by
    rw[List.getD_eq_getElem?_getD,Cb _ _ _ (by omega),List.getD_eq_getElem?_getD]
   refine ite_true (decide_eq_true (by omega)) (ak3.ld (i:=j) (by omega) rfl ?_)
   rw[ve]
   obtain⟨h3,h4⟩:=bB _ (vR (l:=U) (i:=j) (by omega) 0)
   obtain⟨u,hu⟩:∃u:Nat,U.getD j 0=(u:Int):=⟨(U.getD j 0).toNat,by omega⟩
   rw[hu]
   refine an (Pu d h1 hd u (by omega) _) ?_
   rintro _ w4 ⟨rfl,m⟩
   have H:=H.frame m
   refine bH (H.mu (i+1) (i:=j) mb (by omega) rfl λw5 H=>⟨⟨by omega,by omega⟩,eJ w5 ?_⟩)
   have e:=Ca (λx:Int=>lK d x.toNat) U j (by omega) 0
   rw[hu,Int.toNat_natCast]at e
   rw[e,List.set_cons_succ,agv hz,List.set_set]at H
   exact H
  ·intro gN w3 H
   rw[List.take_of_length_le (by omega),List.drop_of_length_le (by omega),List.append_nil]at H
   exact ite_false (decide_eq_false (by omega)) ⟨⟨by omega,by omega⟩,aB w3 H⟩
 ·intro again w2 H
  rw[List.take_of_length_le (by omega),List.drop_of_length_le (by omega),List.append_nil]at H
  exact ite_false (decide_eq_false (by omega)) ⟨out,rfl,IB.box ⟨xs,by rw[iQ,uZ,B0],H⟩⟩
def ki(eta:Nat)(ak:List B8)(from_ many:Nat):List (List Int):=(List.range many).map λ(i:Nat)=>kj (eta:Int) ak (BitVec.ofInt 8 ((from_+i:Nat):Int))
theorem Ts{eta:Nat}(he:eta=2\/eta=3){ak:List B8}(hs:ak.length=32)(n:B8):Pq (kj (eta:Int) ak n):=by
 have ec:mL (eta:Int) ak.length=0:=by unfold mL;rw[if_pos (by omega),if_pos hs]
 unfold kj
 rw[if_pos ec]
 generalize cj 136 31 (ak++[n]) (64*(eta:Int))=z
 refine⟨aen _ _,λx hx=>?_⟩
 unfold lean at hx
 obtain⟨i,_,rfl⟩:=List.mem_map.1 hx
 omega
theorem vI(eta:Nat)(ak:List B8)(from_ many:Nat):(ki eta ak from_ many).length=many:=by unfold ki;simp
theorem zM{eta:Nat}(he:eta=2\/eta=3){ak:List B8}(hs:ak.length=32)(from_ many:Nat):mZ (ki eta ak from_ many):=λl hl=>by
 unfold ki at hl
 obtain⟨i,_,rfl⟩:=List.mem_map.1 hl
 exact Ts he hs _
theorem GB(eta:Nat)(x:ag)(ak:List B8)(from_ many:Nat)(hm:many<=100)(hf:from_<=100)(hs:ak.length<=100000)(w:World)(hx:Bytes w x ak):
  Ok Pr ae1 [.int .i64 (eta:Int),.slice x.a x.n x.c,.int .i64 (from_:Int),.int .i64 (many:Int)] w λv w'=>EC w w' v (ki eta ak from_ many):=by
 refine aC Tryz.func217 (L:=[(3,[(9,.sl),(14,.int .i64)])]) ?_
 refine eZ 0 many (λi (out:ag) w'=>fD cl jA w [] [] w' out (ki eta ak from_ i)) rfl (by omega) (fD.start (ah.start w)) ?_ ?_
 ·intro again i out w2 _ hi C aB
  refine ite_true (decide_eq_true (by omega)) ⟨⟨by omega,by omega⟩,?_⟩
  rw[show(from_:Int)+(i:Int)=((from_+i:Nat):Int) by omega,oo]
  refine an (abC (eta:Int) x ak _ (by omega) _ (hx.av C.mod)) ?_
  rintro _ w3 ⟨y,er,rfl,hy,he,hn,m3⟩
  have hs:ki eta ak from_ (i+1)=ki eta ak from_ i++[kj (eta:Int) ak (BitVec.ofInt 8 ((from_+i:Nat):Int))]:=xb _ _
  rw[hs]at aB
  exact⟨_,rfl,y,rfl,rfl,C.add (dU.yf hy m3 λw2 h=>h.bq) rB (by rw[vI];omega) λfJ w4 C=>⟨⟨by omega,by omega⟩,aB fJ w4 C⟩⟩
 ·intro again out w2 C
  exact ite_false (decide_eq_false (by omega)) ⟨out,rfl,C.boxed.mono λw h=>vO h⟩
def jT(bV:List B8)(k:Nat)(gl:Bool)(i:Nat):List (List Int):=(List.range k).map λ(j:Nat)=>if gl=true then nU (bV++[BitVec.ofInt 8 (i:Int),BitVec.ofInt 8 (j:Int)]) else nU (bV++[BitVec.ofInt 8 (j:Int),BitVec.ofInt 8 (i:Int)])
def qJ(bV:List B8)(k:Nat)(gl:Bool)(i:Nat):List (List (List Int)):=(List.range i).map (jT bV k gl)
theorem aiF(l:List B8)(t:Nat):∀x∈gh l t,0<=x/\x<3329:=by
 have push:∀(o:List Int) (x:Int),(∀x∈o,0<=x/\x<3329)->0<=x->∀y∈jK o x,0<=y/\y<3329:=by
  intro o x ho hx y hy
  unfold jK at hy
  split at hy
  ·rename_i hc
   rcases List.mem_append.1 hy with h|h
   ·exact ho y h
   ·rw[List.mem_singleton.1 h];exact⟨hx,hc.1⟩
  ·exact ho y hy
 induction t with
 |zero=>intro x hx;cases hx
 |succ t ih=>exact push _ _ (push _ _ ih (by unfold cx;omega)) (by unfold cy;omega)
theorem aju(l:List B8):Pq (nU l):=by
 refine⟨aiE l,λx hx=>?_⟩
 unfold nU at hx
 rcases List.mem_append.1 hx with h|h
 ·exact aiF _ _ x h
 ·rw[List.eq_of_mem_replicate h];omega
theorem B3(bV:List B8)(k:Nat)(gl:Bool)(i:Nat):(jT bV k gl i).length=k/\mZ (jT bV k gl i):=by
 refine⟨by unfold jT;simp,λl hl=>?_⟩
 unfold jT at hl
 obtain⟨j,_,rfl⟩:=List.mem_map.1 hl
 split<;>exact aju _
theorem DO(bV:List B8)(k:Nat)(gl:Bool)(i:Nat):(qJ bV k gl i).length=i:=by unfold qJ;simp
theorem SD{bV:List B8}{k:Nat}{gl:Bool}{n i:Nat}(h:i<n):(qJ bV k gl n).getD i []=jT bV k gl i:=by
 unfold qJ;rw[List.getD_eq_getElem?_getD,List.getElem?_map,List.getElem?_range h];rfl
theorem Rg(s:gJ)(hk:s.k<=100)(x:ag)(bV:List B8)(hr:bV.length=32)(gl:Bool)(w:World)(hx:Bytes w x bV):Ok Pr ae2 [.agg ⟨s.cells⟩,.slice x.a x.n x.c,.bool gl] w λv w'=>ajt w w' v (qJ bV s.k gl s.k):=by
 refine aC Tryz.func218 (J:=[(12,[(11,.int .i64),(12,.int .i64)])]) (L:=[(3,[(7,.sl),(17,.int .i64)]),(7,[(9,.sl),(22,.int .i64)])]) ?_
 refine(ah.start w).nw λp w1 H _=>H.au 0 rfl (ai p 0) rfl ?_
 refine eZ 0 s.k (λi (out:ag) w'=>fD dj ji w [] [.aj p s.cells uc] w' out (qJ bV s.k gl i)) rfl (by omega) (fD.start H) ?_ ?_
 ·intro again i out w2 _ hi C aB
  have H:=C.front
  refine ite_true (decide_eq_true (by omega)) (H.au 0 rfl (ai p 0) rfl ?_)
  have hs:qJ bV s.k gl (i+1)=qJ bV s.k gl i++[jT bV s.k gl i]:=xb _ _
  rw[hs]at aB
  refine eZ 0 s.k (λj (row:ag) w'=>fD cl jA w2 [] [] w' row (jT bV j gl i)) rfl (by omega) (fD.start (ah.start w2)) ?_ ?_
  ·intro gN j row w3 _ hj D eJ
   have vf:jT bV (j+1) gl i=jT bV j gl i++[if gl=true then nU (bV++[BitVec.ofInt 8 (i:Int),BitVec.ofInt 8 (j:Int)]) else nU (bV++[BitVec.ofInt 8 (j:Int),BitVec.ofInt 8 (i:Int)])]:=xb _ _
   rw[vf]at eJ
   have zb:=(hx.av H.mod).av D.mod
   have uZ:=(B3 bV j gl i).1
   refine ite_true (decide_eq_true (by omega)) (vN λgo aV=>?_)
   cases gl with
   |true=>
    refine ite_true rfl (aV _ _ _ ?_)
    rw[oo,oo]
    refine an (QB x bV hr _ _ _ zb) ?_
    rintro _ w4 ⟨y,er,rfl,hy,he,hn,m4⟩
    exact⟨_,rfl,y,rfl,rfl,D.add (dU.yf hy m4 λw2 h=>h.bq) rB (by omega) λAx w5 D=>⟨⟨by omega,by omega⟩,eJ Ax w5 D⟩⟩
   |false=>
    refine ite_false rfl (aV _ _ _ ?_)
    rw[oo,oo]
    refine an (QB x bV hr _ _ _ zb) ?_
    rintro _ w4 ⟨y,er,rfl,hy,he,hn,m4⟩
    exact⟨_,rfl,y,rfl,rfl,D.add (dU.yf hy m4 λw2 h=>h.bq) rB (by omega) λAx w5 D=>⟨⟨by omega,by omega⟩,eJ Ax w5 D⟩⟩
  ·intro gN row w3 D
   exact ite_false (decide_eq_false (by omega)) (C.add (D.boxed.mono λw h=>vO h) ahC (by rw[DO];omega) λfJ w4 C=>⟨⟨by omega,by omega⟩,aB fJ w4 C⟩)
 ·intro again out w2 C
  exact ite_false (decide_eq_false (by omega)) ⟨out,rfl,C.boxed⟩
def iK(fs:List (List Int)):List (List Int):=fs.map oI
theorem DP{fs:List (List Int)}(h:mZ fs):mZ (iK fs):=λl hl=>by
 unfold iK at hl
 obtain⟨f,hf,rfl⟩:=List.mem_map.1 hl
 exact ahu (h f hf)
theorem xM(fs:List (List Int)):(iK fs).length=fs.length:=by unfold iK;simp
theorem GC(x:ag)(fs:List (List Int))(hl:fs.length<=1000)(hp:mZ fs)(w:World)(hx:dj w x fs):Ok Pr ae0 [.slice x.a x.n x.c] w λv w'=>EC w w' v (iK fs):=by
 refine aC Tryz.func215 (L:=[(3,[(3,.sl),(8,.int .i64)])]) ?_
 have aT:=hx.len
 refine eZ 0 fs.length (λi (out:ag) w'=>fD cl jA w [] [] w' out (iK (fs.take i))) rfl (by omega) (fD.start (ah.start w)) ?_ ?_
 ·intro again i out w1 _ hi C aB
  have hs:iK (fs.take (i+1))=iK (fs.take i)++[oI (fs.getD i [])]:=by unfold iK;rw[ic _ _ hi [],List.map_append];rfl
  rw[hs]at aB
  refine ite_true (decide_eq_true (by omega)) ((hx.av C.mod).ld (i:=i) hi rfl λy hy=>an (acG y _ (hp.get hi) _ hy) ?_)
  rintro _ w2 h
  obtain⟨z,rfl,hz⟩:=h.EV
  exact aS (C.add hz rB (by rw[xM,List.length_take];omega) λfJ w3 C=>⟨⟨by omega,by omega⟩,aB fJ w3 C⟩)
 ·intro again out w1 C
  rw[List.take_of_length_le (Nat.le_refl _)]at C
  exact ite_false (decide_eq_false (by omega)) ⟨out,rfl,C.boxed.mono λw h=>vO h⟩
@[irreducible] def yF(m:List B8):List Int:=(unpack 1 m).map λx=>x*1665
theorem aiG{m:List B8}(h:m.length=32):Pq (yF m):=by
 unfold yF
 refine⟨by rw[List.length_map,zw,h],λx hx=>?_⟩
 obtain⟨y,hy,rfl⟩:=List.mem_map.1 hx
 have:=DJ 1 m y hy
 omega
theorem akm:lK 1 1=1665:=by decide
theorem aar(x:ag)(m:List B8)(h:m.length=32)(w:World)(hx:Bytes w x m):Ok Pr abd [.slice x.a x.n x.c] w λv w'=>kR w w' v (yF m):=by
 refine aC Tryz.func220 (L:=[(3,[(9,.int .i64)])]) ?_
 refine an (Ga 1 (by omega) (by omega) x m (by omega) w hx) ?_
 rintro _ w1 ⟨y,rfl,hy,m1⟩
 have hU:(unpack 1 m).length=256:=by rw[zw,h]
 have bB:=DJ 1 m
 unfold yF
 generalize unpack 1 m=U at*
 have H:=(ah.start w).bg m1 hy
 have j3:=(H.bq 0 rfl).len
 refine aS (bG 0 256 (λj w'=>ah w [] w' [.row aU 1 y (bf ((U.take j).map (λx=>x*1665)++U.drop j))]) rfl (by omega) (by simpa using H) ?_ ?_)
 ·intro again j w2 _ hj H aB
  have qn:((U.take j).map (λx=>x*1665)++U.drop j).length=256:=by simp only[List.length_append,List.length_map,List.length_take,List.length_drop];omega
  have ve:((U.take j).map (λx=>x*1665)++U.drop j).getD j 0=U.getD j 0:=by
   rw[List.getD_eq_getElem?_getD,Cb _ _ _ (by omega),List.getD_eq_getElem?_getD]
  have H:=H.drew
  have hg:=bB _ (vR (l:=U) (i:=j) (by omega) 0)
  refine ite_true (decide_eq_true (by omega)) ((H.bq 0 rfl).ld (i:=j) (by omega) rfl ?_)
  rw[ve]
  refine an (Pu 1 (by omega) (by omega) 1 (by omega) _) ?_
  rintro _ w3 ⟨rfl,m3⟩
  rw[akm]
  have kp:=(H.bq 0 rfl).kept (i:=j) (by omega) m3
  have H:=H.frame m3
  refine bH ⟨kp,⟨by omega,by omega⟩,H.mu 0 (i:=j) rfl (by omega) rfl λw4 H=>⟨⟨by omega,by omega⟩,aB w4 ?_⟩⟩
  rw[<- Ca (λx:Int=>x*1665) U j (by omega) 0]
  exact H
 ·intro again w2 H
  rw[List.take_of_length_le (by omega),List.drop_of_length_le (by omega),List.append_nil]at H
  exact ite_false (decide_eq_false (by omega)) ⟨y,rfl,H.cm 0 rfl,H.mod⟩
theorem _root_.Go.Ev.ah.jk{w0 w w':World}{S:List Nat}{L:List aA}(H:ah w0 S w L)(k:Nat){b:Nat}{cs:List Value}{t:TypeId}(hk:L[k]? = some (.aj b cs t))(m:Mod [] w w')(j:Nat):kept (Addr.add ⟨b,0,none⟩ j) 1 w w':=
 D0 m (by rw[fS];exact(H.aj k hk).lt) (by simp)
theorem rH(w w':World):cA w w' .nilIface 0:=⟨.inl ⟨rfl,rfl⟩,λb hb=>by cases hb⟩
def fE(set:Int)(b:List B8):Int:=if isSet set=true then (if b.length=dY set then (if jt 12 (bJ set).k b=true then 0 else 4) else 3) else 2
theorem RS(set:Int)(x:ag)(b:List B8)(w:World)(hx:Bytes w x b):Ok Pr af7 [.int .i64 set,.slice x.a x.n x.c] w λv w'=>cA w w' v (fE set b)/\Mod [] w w':=by
 refine aC Tryz.func208 ?_
 rw[xY]
 have aT:=hx.len
 refine an (zL set w) ?_
 rintro _ w1 ⟨rfl,m1⟩
 have H:=(ah.start w).frame m1
 have fin:∀ {L:List aA} {w2 w3:World} {e:Value} {c:Int},ah w [] w2 L->cA w2 w3 e c->Mod [] w2 w3->cA w w3 e c/\Mod [] w w3:=λH h m=>⟨⟨h.1,λb hb=>by
  have:=h.2 b hb
  have:=H.mod.size
  omega⟩,H.mod.trans m⟩
 refine⟨_,rfl,zW ⟨_,rfl,rfl,H.nw λp w2 H _=>H.pU 0 rfl rfl λw3 H=>?_⟩⟩
 have H:ah w [] w3 [.aj p (bJ set).cells uc]:=H
 unfold fE
 cases bk:isSet set with
 |false=>
  refine ite_true rfl (an (Bz 2 (by decide) w3) ?_)
  rintro e w4 ⟨h,m⟩
  rw[if_neg (by decide)]
  exact fin H h m
 |true=>
  have hg:=iA bk
  have hk:=hg.k
  rw[if_pos rfl]
  refine ite_false rfl (an (Gl set w3) ?_)
  rintro _ w5 ⟨rfl,m5⟩
  have H:=H.frame m5
  have hA:dY set=384*(bJ set).k+32:=by unfold dY;rw[if_pos bk]
  refine⟨_,rfl,_,rfl,_,rfl,_,rfl,rfl,?_⟩
  by_cases hn:b.length=dY set
  case neg=>
   rw[if_neg hn]
   refine ite_true (by rw[decide_eq_false (show ¬((x.n:Nat):Int)=((dY set:Nat):Int) by omega)];rfl) (an (Bz 3 (by decide) w5) ?_)
   rintro e w6 ⟨h,m⟩
   exact fin H h m
  rw[if_pos hn]
  refine ite_false (by rw[decide_eq_true (show((x.n:Nat):Int)=((dY set:Nat):Int) by omega)];rfl) (H.au 0 rfl (ai p 0) rfl (an (GA 12 (bJ set).k (by omega) (by omega) (by omega) x b (by omega) (by omega) _ (hx.av H.mod)) ?_))
  rintro _ w7 (⟨cI,out,rfl,hG⟩|⟨cr,rfl,m7⟩)
  ·rw[if_pos cI]
   refine⟨_,rfl,_,rfl,_,rfl,rfl,ite_false rfl ⟨rH _ _,H.mod.trans hG.box.mod⟩⟩
  ·rw[if_neg (by rw[cr];decide)]
   refine⟨_,rfl,⟨none,0,0⟩,rfl,_,rfl,rfl,ite_true rfl (an (Bz 4 (by decide) w7) ?_)⟩
   rintro e w8 ⟨h,m⟩
   exact fin (H.frame m7) h m
def tK(k:Nat)(bV:List B8)(s e:List (List Int)):List (List Int):=(List.range k).map λi=>kB (kX (jT bV k false i) s) (e.getD i [])
def gK(s:gJ)(d:List B8):List B8:=cj 72 6 (d++[BitVec.ofNat 8 s.k]) 64
def sK(s:gJ)(g:List B8):List (List Int):=iK (ki s.e1 (g.drop 32) 0 s.k)
def eK(s:gJ)(g:List B8):List (List Int):=iK (ki s.e1 (g.drop 32) s.k s.k)
@[irreducible] def wm(s:gJ)(g:List B8):List B8:=rN (tK s.k (g.take 32) (sK s g) (eK s g))++g.take 32
@[irreducible] def wo(s:gJ)(g:List B8):List B8:=rN (sK s g)
def pI(set:Int)(n:Nat):Int:=if isSet set=true then (if n=32 then 0 else 3) else 2
@[irreducible] def kG(set:Int)(d:List B8):List B8:=if pI set d.length=0 then wm (bJ set) (gK (bJ set) d) else []
@[irreducible] def pJ(set:Int)(d:List B8):List B8:=if pI set d.length=0 then wo (bJ set) (gK (bJ set) d) else []
theorem IC{s:gJ}(hs:Al s){g:List B8}(hg:g.length=64):(sK s g).length=s.k/\mZ (sK s g):=by
 unfold sK
 exact⟨by rw[xM,vI],DP (zM (by have:=hs.e1;omega) (by rw[List.length_drop];omega) _ _)⟩
theorem VH{s:gJ}(hs:Al s){g:List B8}(hg:g.length=64):(eK s g).length=s.k/\mZ (eK s g):=by
 unfold eK
 exact⟨by rw[xM,vI],DP (zM (by have:=hs.e1;omega) (by rw[List.length_drop];omega) _ _)⟩
theorem Eo(k:Nat)(bV:List B8)(s e:List (List Int)):(tK k bV s e).length=k:=by unfold tK;simp
theorem ED(k:Nat)(bV:List B8)(s e:List (List Int)):mZ (tK k bV s e):=λl hl=>by
 unfold tK at hl
 obtain⟨i,_,rfl⟩:=List.mem_map.1 hl
 exact B9 _ _
theorem agx{s:gJ}(hs:Al s){g:List B8}(hg:g.length=64):(wm s g).length=384*s.k+32:=by
 unfold wm
 rw[List.length_append,BZ (ED _ _ _ _),Eo,List.length_take];omega
theorem agy{s:gJ}(hs:Al s){g:List B8}(hg:g.length=64):(wo s g).length=384*s.k:=by
 unfold wo
 rw[BZ (IC hs hg).2,(IC hs hg).1]
theorem aeo(set:Int)(x:ag)(d:List B8)(hd:d.length<=100000)(w:World)(hx:Bytes w x d):
  Ok Pr aeX [.int .i64 set,.slice x.a x.n x.c] w λv w'=>∃(y z:ag) (er:Value),v=.tuple ⟨[.slice y.a y.n y.c,.slice z.a z.n z.c,er]⟩/\
   ah w [] w' [.row aE 1 y (aG (kG set d)),.row aE 1 z (aG (pJ set d)),aA.err er (pI set d.length)]:=by
 refine aC Tryz.func205 (L:=[(11,[(14,.sl),(60,.int .i64)])]) ?_
 rw[xY]
 have aT:=hx.len
 have hC:pI set d.length=if isSet set=true then (if d.length=32 then 0 else 3) else 2:=rfl
 have hV:kG set d=if pI set d.length=0 then wm (bJ set) (gK (bJ set) d) else []:=by unfold kG;rfl
 have hS:pJ set d=if pI set d.length=0 then wo (bJ set) (gK (bJ set) d) else []:=by unfold pJ;rfl
 have Bf:=λh:isSet set=true=>iA h
 refine an (zL set w) ?_
 rintro _ w1 ⟨rfl,m1⟩
 have H:=(ah.start w).frame m1
 generalize kG set d=V at*
 generalize pJ set d=K at*
 generalize pI set d.length=C at*
 generalize bJ set=s at*
 refine⟨_,rfl,zW ⟨_,rfl,rfl,H.nw λp w2 H _=>H.pU 0 rfl rfl λw3 H=>?_⟩⟩
 have H:ah w [] w3 [.aj p s.cells uc]:=H
 have no:∀(c:Int),c≠0->C=c->ek Pr Kx [.int .i64 c] w3 λOe w4=>∃(y z:ag) (er:Value),Value.tuple ⟨[.slice none 0 0,.slice none 0 0,Oe]⟩=.tuple ⟨[.slice y.a y.n y.c,.slice z.a z.n z.c,er]⟩/\
   ah w [] w4 [.row aE 1 y (aG V),.row aE 1 z (aG K),aA.err er C]:=by
  intro c hc cX
  rw[cX]at hV hS
  rw[if_neg hc]at hV hS
  subst hV hS
  refine an (Bz c hc w3) ?_
  rintro e w4 ⟨h,m4⟩
  rw[cX]
  exact⟨⟨none,0,0⟩,⟨none,0,0⟩,e,rfl,((((ah.start w).dy aE 1).dy aE 1).frame H.mod).gW m4 h⟩
 cases bk:isSet set with
 |false=>
  rw[bk,if_neg (by decide)]at hC
  exact ite_true rfl (no 2 (by decide) hC)
 |true=>
  rw[bk,if_pos rfl]at hC
  refine ite_false rfl ?_
  by_cases fe:d.length=32
  case neg=>
   rw[if_neg fe]at hC
   exact ite_true (by rw[decide_eq_false (show ¬((x.n:Nat):Int)=32 by omega)];rfl) (no 3 (by decide) hC)
  rw[if_pos fe]at hC
  clear no
  subst hC
  rw[if_pos rfl]at hV hS
  subst hV hS
  have hG:=Bf bk
  have hk:=hG.k
  refine ite_false (by rw[decide_eq_true (show((x.n:Nat):Int)=32 by omega)];rfl) (H.au 0 rfl (ai p 0) rfl ?_)
  rw[BY]
  refine H.nw λp1 w4 H _=>H.nw λp2 w5 H _=>?_
  have A7:=H.BW 1 (l:=[BitVec.ofNat 8 s.k]) rfl
  refine an (JH ⟨some ⟨p2,0,none⟩,2,2⟩ [d,[BitVec.ofNat 8 s.k]] _ (dZ.As (H.aj 2 rfl) (by simp) (hx.av H.mod) (jQ _) A7 (jQ _)) (zV rfl (by omega) (by show(1:Nat)<=_;omega))) ?_
  rintro _ w6 ⟨g,rfl,hg,m6⟩
  rw[show[d,[BitVec.ofNat 8 s.k]].flatten=d++[BitVec.ofNat 8 s.k] by simp]at hg
  have FG:(gK s d).length=64:=ot 72 6 _ 64 (by omega)
  change Own w6 w5.heap.size aE 1 g (aG (gK s d))at hg
  generalize gK s d=G at*
  have H:=((H.bg m6 hg).drew).drew
  have Of:=(H.bytes 3 rfl).len
  have hgc:=(H.bytes 3 rfl).cap
  refine aS (uq 32 rfl (by omega) λzr Jl hr=>oz 32 rfl (by omega) λzk hzk kF=>?_)
  have hr:=λw' (h:Bytes w' g G)=>hr w' G h (by omega)
  have kF:=λw' (h:Bytes w' g G)=>kF w' G h (by omega)
  have tD:(G.drop 32).length=32:=by rw[List.length_drop];omega
  have uZ:(G.take 32).length=32:=by rw[List.length_take];omega
  obtain⟨B1,Xb⟩:∃r:aA,r=.aj p1 (aG [BitVec.ofNat 8 s.k]) aE:=⟨_,rfl⟩
  obtain⟨B2,Jh⟩:∃r:aA,r=.aj p2 [x.v,.slice (some ⟨p1,0,none⟩) 1 1] jh:=⟨_,rfl⟩
  have H:ah w [] w6.drew.drew [.aj p s.cells uc,B1,B2,.row aE 1 g (aG G)]:=by rw[Xb,Jh];exact H
  clear Xb Jh A7
  have Og:=zM (eta:=s.e1) (by have:=hG.e1;omega) tD 0 s.k
  have le2:=zM (eta:=s.e1) (by have:=hG.e1;omega) tD s.k s.k
  have nl1:=vI s.e1 (G.drop 32) 0 s.k
  have nl2:=vI s.e1 (G.drop 32) s.k s.k
  refine H.au 0 rfl (ai p 1) rfl (H.au 0 rfl (ai p 0) rfl (H.au 0 rfl (ai p 1) rfl (H.au 0 rfl (ai p 0) rfl (H.au 0 rfl (ai p 0) rfl ?_))))
  refine an (GB s.e1 zk (G.drop 32) 0 s.k (by omega) (by omega) (by omega) _ (kF _ (H.bytes 3 rfl))) ?_
  rintro _ w7 ⟨y1,rfl,tI⟩
  obtain⟨f1,H1⟩:=H.dz tI
  refine aS ⟨H.jk 0 rfl tI.mod 0,H.jk 0 rfl tI.mod 0,H.jk 0 rfl tI.mod 1,an (GC y1 _ (by omega) Og _ (H1.box 4 rfl)) ?_⟩
  rintro _ w8 ⟨y2,rfl,lJ⟩
  obtain⟨f2,H2⟩:=H1.dz lJ
  refine aS ⟨H1.jk 0 rfl lJ.mod 0,H1.jk 0 rfl lJ.mod 0,H1.jk 0 rfl lJ.mod 1,an (GB s.e1 zk (G.drop 32) s.k s.k (by omega) (by omega) (by omega) _ (kF _ (H2.bytes 3 rfl))) ?_⟩
  rintro _ w9 ⟨y3,rfl,Bg⟩
  obtain⟨f3,H3⟩:=H2.dz Bg
  refine aS (an (GC y3 _ (by omega) le2 _ (H3.box 6 rfl)) ?_)
  rintro _ bP ⟨y4,rfl,FH⟩
  obtain⟨f4,H⟩:=H3.dz FH
  clear H1 H2 H3
  refine aS (H.ua 0 rfl (an (Rg s (by omega) zr (G.take 32) uZ false _ (hr _ (H.bytes 3 rfl))) ?_))
  rintro _ bQ ⟨y5,rfl,FI⟩
  obtain⟨f5,H⟩:=H.dz FI
  have kH:=IC hG FG
  have xe:=VH hG FG
  have hS:dj bQ y2 (sK s G):=H.box 5 rfl
  have hE:dj bQ y4 (eK s G):=H.box 7 rfl
  have hM:Aw bQ y5 (qJ (G.take 32) s.k false s.k):=H.box 8 rfl
  have Oh:=nT.len hM
  rw[DO]at Oh
  have eS:wm s G=rN (tK s.k (G.take 32) (sK s G) (eK s G))++G.take 32:=by unfold wm;rfl
  have eO:wo s G=rN (sK s G):=by unfold wo;rfl
  rw[eS,eO]
  clear eS eO
  obtain⟨SK,FJ⟩:∃z,z=sK s G:=⟨_,rfl⟩
  rw[<- FJ]at hS kH⊢
  generalize eK s G=EK at*
  refine aS ?_
  have rows:=λi=>B3 (G.take 32) s.k false i
  obtain⟨f,hf⟩:∃f:Nat->List Int,f=λi=>kB (kX (jT (G.take 32) s.k false i) SK) (EK.getD i []):=⟨_,rfl⟩
  have Oi:tK s.k (G.take 32) SK EK=(List.range s.k).map f:=by rw[hf];rfl
  refine eZ 0 s.k (λi (out:ag) w'=>fD cl jA bQ [] [] w' out ((List.range i).map f)) rfl (by omega) (fD.start (ah.start bQ)) ?_ ?_
  ·intro again i out cH _ hi C aB
   have mi:=C.mod
   rw[xb]at aB
   have uX:i<(qJ (G.take 32) s.k false s.k).length:=by rw[DO];exact hi
   refine ite_true (decide_eq_true (by omega)) (nT.ld (hM.av mi) (i:=i) uX rfl (d:=[]) λr fV=>?_)
   rw[SD hi]at fV
   have Oj:=mi.trans (Mod.drew [] cH)
   refine(hE.av Oj).ld (i:=i) (by omega) rfl λe he=>?_
   have fV:=(fV.av (Mod.drew [] cH):dj cH.drew r _)
   refine an (Gx r y2 _ SK (by rw[(rows i).1,kH.1]) (by rw[(rows i).1];omega) (by rw[(rows i).1];omega) (rows i).2 kH.2 _ fV (hS.av Oj)) ?_
   rintro _ eg ⟨q,rfl,hq,gA⟩
   refine aS ⟨(hE.av Oj).kept (by omega) gA,an (DA q e _ _ (xX _ _ (by rw[(rows i).1,kH.1])) (xe.2.get (by omega)) _ hq.bq (he.av gA)) ?_⟩
   rintro _ fQ FK
   obtain⟨t,rfl,ht⟩:=FK.EV
   have C:=(C.frame (Mod.drew [] cH)).frame gA
   have ef:kB (kX (jT (G.take 32) s.k false i) SK) (EK.getD i [])=f i:=by rw[hf]
   rw[ef]at ht
   refine aS (C.add ht rB (by rw[List.length_map,List.length_range];omega) λfJ ir C'=>⟨⟨by omega,by omega⟩,aB fJ ir C'⟩)
  ·intro again out cH C
   rw[<- Oi]at C
   obtain⟨f6,H⟩:=H.dz (C.boxed.mono λw h=>vO h)
   have hT:dj cH out (tK s.k (G.take 32) SK EK):=H.box 9 rfl
   refine ite_false (decide_eq_false (by omega)) (an (RR out _ (by rw[Eo];omega) (ED _ _ _ _) _ hT) ?_)
   rintro _ eg ⟨a,rfl,ha,gA⟩
   have H:=H.bg gA ha
   have nX:=(H.bytes 10 rfl).len
   have FL:=BZ (ED s.k (G.take 32) SK EK)
   rw[Eo]at FL
   refine aS (H.iX 10 cg rfl (hr _ (H.bytes 3 rfl)) (by omega) λa' fQ H _=>?_)
   refine an (RR y2 SK (by omega) kH.2 _ (by rw[FJ];exact H.box 5 rfl)) ?_
   rintro _ ir ⟨b,rfl,hb,kI⟩
   have H:=H.bg kI hb
   exact aS ⟨a',b,.nilIface,rfl,(H.drop 10).gW (Mod.refl _ _) (rH _ _)⟩
theorem Hg{k:Nat}{b:List B8}(h:jt 12 k b=true):mZ (dh 12 k b):=λl hl=>by
 unfold jt at h
 rw[decide_eq_true (rfl:12=12),Bool.not_true,Bool.false_or,List.all_eq_true]at h
 exact To.1 (h l hl)
def yK(s:gJ)(r:List B8):List (List Int):=iK (ki s.e1 r 0 s.k)
def nK(s:gJ)(r:List B8):List (List Int):=ki s.e2 r s.k (s.k+1)
def cU(s:gJ)(bV:List B8)(y n:List (List Int))(i:Nat):List Int:=kB (kS (kX (jT bV s.k true i) y)) (n.getD i [])
def cV(s:gJ)(t y n:List (List Int))(m:List B8):List Int:=kB (kB (kS (kX t y)) (n.getD s.k [])) (yF m)
@[irreducible] def wq(s:gJ)(b m r:List B8):List B8:=((List.range s.k).flatMap λi=>g8 s.du (cU s (b.drop (384*s.k)) (yK s r) (nK s r) i))++g8 s.dv (cV s (dh 12 s.k b) (yK s r) (nK s r) m)
def tJ(set:Int)(b m r:List B8):Int:=if fE set b=0 then (if m.length=32/\r.length=32 then 0 else 3) else fE set b
@[irreducible] def lP(set:Int)(b m r:List B8):List B8:=if tJ set b m r=0 then wq (bJ set) b m r else []
theorem DU{set:Int}{b:List B8}(h:fE set b=0):isSet set=true/\b.length=384*(bJ set).k+32/\jt 12 (bJ set).k b=true:=by
 unfold fE at h
 cases bk:isSet set with
 |false=>rw[bk,if_neg (by decide)]at h;exact absurd h (by decide)
 |true=>
  have hA:dY set=384*(bJ set).k+32:=by unfold dY;rw[if_pos bk]
  rw[bk,if_pos rfl]at h
  split at h
  ·split at h
   ·rename_i h1 h2;exact⟨rfl,by rw[h1,hA],h2⟩
   ·exact absurd h (by decide)
  ·exact absurd h (by decide)
theorem VI{s:gJ}(hs:Al s){r:List B8}(hr:r.length=32):(yK s r).length=s.k/\mZ (yK s r):=by
 unfold yK
 exact⟨by rw[xM,vI],DP (zM (by have:=hs.e1;omega) hr _ _)⟩
theorem VJ{s:gJ}(hs:Al s){r:List B8}(hr:r.length=32):(nK s r).length=s.k+1/\mZ (nK s r):=by
 unfold nK
 exact⟨vI _ _ _ _,zM (by have:=hs.e2;omega) hr _ _⟩
theorem DB(d:Nat)(f:Nat->List Int)(hf:∀i,Pq (f i))(n:Nat):((List.range n).flatMap λi=>g8 d (f i)).length=32*d*n:=by
 induction n with
 |zero=>rfl
 |succ n ih=>rw[List.range_succ,List.flatMap_append,List.length_append,ih];simp[zX (hf n).len,Nat.mul_succ]
theorem MD(s:gJ)(bV:List B8)(y n:List (List Int))(i:Nat):Pq (cU s bV y n i):=B9 _ _
theorem ME(s:gJ)(t y n:List (List Int))(m:List B8):Pq (cV s t y n m):=B9 _ _
theorem agz(s:gJ)(b m r:List B8):(wq s b m r).length=32*(s.du*s.k+s.dv):=by
 unfold wq
 rw[List.length_append,DB _ _ (λi=>MD _ _ _ _ _),zX (ME _ _ _ _ _).len,Nat.mul_add,Nat.mul_assoc]
theorem Rh(set:Int)(x xm xr:ag)(b m r:List B8)(w:World)(hx:Bytes w x b)(hm:Bytes w xm m)(hr:Bytes w xr r):
  Ok Pr aeU [.int .i64 set,.slice x.a x.n x.c,.slice xm.a xm.n xm.c,.slice xr.a xr.n xr.c] w λv w'=>jC aE 1 w w' v (aG (lP set b m r)) (tJ set b m r):=by
 refine aC Tryz.func189 (L:=[(11,[(17,.sl),(72,.int .i64)])]) ?_
 rw[xY]
 have aT:=hx.len
 have Fp:=hm.len
 have uZ:=hr.len
 have hC:tJ set b m r=if fE set b=0 then (if m.length=32/\r.length=32 then 0 else 3) else fE set b:=rfl
 have hV:lP set b m r=if tJ set b m r=0 then wq (bJ set) b m r else []:=by unfold lP;rfl
 generalize tJ set b m r=C at*
 generalize lP set b m r=V at*
 refine an (RS set x b w hx) ?_
 rintro e w1 ⟨he,m1⟩
 by_cases h0:fE set b=0
 case neg=>
  rw[if_neg h0]at hC
  rw[hC,if_neg h0]at hV
  subst hV
  rw[hC]
  refine he.1.isNil (ite_true (by rw[decide_eq_false h0];rfl) (jC.no he m1))
 obtain⟨bk,fc,cI⟩:=DU h0
 have hG:=iA bk
 have hk:=hG.k
 rw[if_pos h0]at hC
 refine he.1.isNil (ite_false (by rw[decide_eq_true h0];rfl) ?_)
 by_cases fe:m.length=32/\r.length=32
 case neg=>
  rw[if_neg fe]at hC
  rw[hC,if_neg (by decide)]at hV
  subst hV
  rw[hC]
  refine ite_true ?_ (an (Bz 3 (by decide) w1) ?_)
  ·by_cases h:m.length=32
   ·rw[decide_eq_false (show ¬((xr.n:Nat):Int)=32 by omega),Bool.not_false,Bool.or_true]
   ·rw[decide_eq_false (show ¬((xm.n:Nat):Int)=32 by omega)];rfl
  ·rintro e2 w2 ⟨h2,m2⟩
   exact jC.no ⟨h2.1,λb hb=>by have:=h2.2 b hb;have:=m1.size;omega⟩ (m1.trans m2)
 rw[if_pos fe]at hC
 rw[hC,if_pos rfl]at hV
 subst hV
 rw[hC]
 clear hC
 obtain⟨fe,oQ⟩:=fe
 refine ite_false (by rw[decide_eq_true (show((xr.n:Nat):Int)=32 by omega),decide_eq_true (show((xm.n:Nat):Int)=32 by omega)];rfl) (an (zL set w1) ?_)
 rintro _ w2 ⟨rfl,m2⟩
 have H:=(ah.start w).frame (m1.trans m2)
 rw[bk]
 generalize bJ set=s at*
 refine⟨_,rfl,zW ⟨_,rfl,rfl,H.nw λp w3 H _=>H.pU 0 rfl rfl λw5 H=>?_⟩⟩
 have H:ah w [] w5 [.aj p s.cells uc]:=H
 refine H.au 0 rfl (ai p 0) rfl (an (GA 12 s.k (by omega) (by omega) (by omega) x b (by omega) (by omega) _ (hx.av H.mod)) ?_)
 rintro _ w6 (⟨_,yt,rfl,Bh⟩|⟨cr,_⟩)
 case inr=>rw[cr]at cI;cases cI
 obtain⟨f0,H⟩:=H.dz Bh.box
 have H:=H.drew
 have Og:=zM (eta:=s.e1) (by have:=hG.e1;omega) oQ 0 s.k
 have nl1:=vI s.e1 r 0 s.k
 refine⟨_,rfl,_,rfl,_,rfl,rfl,H.au 0 rfl (ai p 1) rfl (H.au 0 rfl (ai p 0) rfl (H.au 0 rfl (ai p 2) rfl (H.au 0 rfl (ai p 0) rfl (H.au 0 rfl (ai p 0) rfl ⟨⟨by omega,by omega⟩,?_⟩))))⟩
 refine an (GB s.e1 xr r 0 s.k (by omega) (by omega) (by omega) _ (hr.av H.mod)) ?_
 rintro _ w7 ⟨y1,rfl,tI⟩
 obtain⟨f1,H1⟩:=H.dz tI
 refine aS ⟨H.jk 0 rfl tI.mod 0,H.jk 0 rfl tI.mod 0,H.jk 0 rfl tI.mod 2,an (GC y1 _ (by omega) Og _ (H1.box 2 rfl)) ?_⟩
 rintro _ w8 ⟨y2,rfl,lJ⟩
 obtain⟨f2,H2⟩:=H1.dz lJ
 refine aS ⟨H1.jk 0 rfl lJ.mod 0,H1.jk 0 rfl lJ.mod 0,H1.jk 0 rfl lJ.mod 2,?_⟩
 rw[show(s.k:Int)+1=((s.k+1:Nat):Int) by omega]
 refine an (GB s.e2 xr r s.k (s.k+1) (by omega) (by omega) (by omega) _ (hr.av H2.mod)) ?_
 rintro _ w9 ⟨y3,rfl,Bg⟩
 obtain⟨f3,H⟩:=H2.dz Bg
 clear H1 H2
 have H:=H.drew
 refine aS (H.ua 0 rfl (H.au 0 rfl (ai p 0) rfl ⟨⟨by omega,by omega⟩,oz (384*s.k) (by omega) (by omega) λzr Jl kr=>?_⟩))
 have kr:=λw' h=>kr w' b h (by omega)
 have Ni:(b.drop (384*s.k)).length=32:=by rw[List.length_drop];omega
 refine an (Rg s (by omega) zr (b.drop (384*s.k)) Ni true _ (kr _ (hx.av H.mod))) ?_
 rintro _ bP ⟨y5,rfl,FI⟩
 obtain⟨f5,H⟩:=H.dz FI
 have kH:=VI hG oQ
 have xe:=VJ hG oQ
 have yG:=Hg cI
 have lT:=BN 12 s.k b
 have hT:dj bP yt (dh 12 s.k b):=H.box 1 rfl
 have hS:dj bP y2 (yK s r):=H.box 3 rfl
 have hE:dj bP y3 (nK s r):=H.box 4 rfl
 have hM:Aw bP y5 (qJ (b.drop (384*s.k)) s.k true s.k):=H.box 5 rfl
 have Oh:=nT.len hM
 rw[DO]at Oh
 have eC:wq s b m r=((List.range s.k).flatMap λi=>g8 s.du (cU s (b.drop (384*s.k)) (yK s r) (nK s r) i))++g8 s.dv (cV s (dh 12 s.k b) (yK s r) (nK s r) m):=by unfold wq;rfl
 rw[eC]
 clear eC
 have H:ah w [] bP [.aj p s.cells uc,.box f0 λw=>dj w yt (dh 12 s.k b),.box f1 λw=>dj w y1 (ki s.e1 r 0 s.k),.box f2 λw=>dj w y2 (yK s r),.box f3 λw=>dj w y3 (nK s r),.box f5 λw=>Aw w y5 (qJ (b.drop (384*s.k)) s.k true s.k)]:=H
 generalize ki s.e1 r 0 s.k=L1 at*
 generalize yK s r=Y at*
 generalize nK s r=N at*
 generalize b.drop (384*s.k)=bV at*
 generalize dh 12 s.k b=T at*
 have rows:=λi=>B3 bV s.k true i
 have FM:=hG.du
 have FN:=hG.dv
 refine aS ?_
 obtain⟨f,hf⟩:∃f:Nat->List Int,f=cU s bV Y N:=⟨_,rfl⟩
 rw[<- hf]
 have xg:∀i,Pq (f i):=λi=>by rw[hf];exact MD _ _ _ _ _
 refine eZ 0 s.k (λi (out:ag) w'=>ah bP [] w' [.row aE 1 out (aG ((List.range i).flatMap λi=>g8 s.du (f i)))]) rfl (by omega) (by simpa[aG]using (ah.start bP).dy aE 1) ?_ ?_
 ·intro again i out bQ _ hi D aB
  have hs:((List.range (i+1)).flatMap λi=>g8 s.du (f i))=((List.range i).flatMap λi=>g8 s.du (f i))++g8 s.du (f i):=by rw[List.range_succ,List.flatMap_append];simp
  rw[hs]at aB
  have hlen:=DB s.du f xg i
  have MF:32*s.du*i<=32*11*4:=Nat.mul_le_mul (by omega) (by omega)
  have nX:=(D.bytes 0 rfl).len
  generalize ((List.range i).flatMap λi=>g8 s.du (f i))=A at*
  have uX:i<(qJ bV s.k true s.k).length:=by rw[DO];exact hi
  have m0:=D.mod
  have Hw:=(H.frame D.mod).drew
  have D:=D.drew
  have mi:=D.mod
  refine ite_true (decide_eq_true (by omega)) (nT.ld (hM.av m0) (i:=i) uX rfl (d:=[]) λq fV=>?_)
  rw[SD hi]at fV
  refine Hw.au 0 rfl (ai p 3) rfl ((hE.av mi).ld (i:=i) (by omega) rfl λe he=>?_)
  have fV:=(fV.av (Mod.drew [] bQ):dj bQ.drew q _)
  refine an (Gx q y2 _ Y (by rw[(rows i).1,kH.1]) (by rw[(rows i).1];omega) (by rw[(rows i).1];omega) (rows i).2 kH.2 _ fV (hS.av mi)) ?_
  rintro _ cH ⟨d1,rfl,iG,gC⟩
  have D:=D.bg gC iG
  have Hx:=Hw.frame gC
  refine aS ⟨(hE.av mi).kept (by omega) gC,Hw.jk 0 rfl gC 3,an (Ki d1 _ (xX _ _ (by rw[(rows i).1,kH.1])) _ iG.bq) ?_⟩
  rintro _ eg ⟨d2,rfl,j5,gA⟩
  have D:=D.bg gA j5
  have Hy:=Hx.frame gA
  refine aS ⟨(hE.av (mi.trans gC)).kept (by omega) gA,Hx.jk 0 rfl gA 3,an (DA d2 e _ _ (BX _) (xe.2.get (by omega)) _ j5.bq (he.av (gC.trans gA))) ?_⟩
  rintro _ fQ ⟨d3,rfl,lQ,jJ⟩
  have D:=D.bg jJ lQ
  have ef:kB (kS (kX (jT bV s.k true i) Y)) (N.getD i [])=f i:=by rw[hf];rfl
  rw[ef]at lQ
  refine aS ⟨Hy.jk 0 rfl jJ 3,an (JX s.du (by omega) (by omega) d3 (f i) (xg i).len _ lQ.bq) ?_⟩
  rintro _ ir ⟨z,rfl,hz,kI⟩
  have D:=D.bg kI hz
  have gR:=hz.bytes.len
  have bZ:=zX (d:=s.du) (xg i).len
  exact aS (D.iX 0 cg rfl hz.bytes (by omega) λo' gH D _=>⟨⟨by omega,by omega⟩,aB o' gH D.front⟩)
 ·intro again out bQ D
  have hlen:=DB s.du f xg s.k
  have MF:32*s.du*s.k<=32*11*4:=Nat.mul_le_mul (by omega) (by omega)
  have nX:=(D.bytes 0 rfl).len
  generalize ((List.range s.k).flatMap λi=>g8 s.du (f i))=A at*
  have H:=(H.join D).drew
  have mi:=(D.drew).mod
  refine ite_false (decide_eq_false (by omega)) (H.au 0 rfl (ai p 0) rfl ((hE.av mi).ld (i:=s.k) (by omega) rfl λe he=>an (Gx yt y2 T Y (by omega) (by omega) (by omega) yG kH.2 _ (hT.av mi) (hS.av mi)) ?_))
  rintro _ cH ⟨d1,rfl,iG,gC⟩
  have H1:=H.bg gC iG
  refine aS ⟨(hE.av mi).kept (by omega) gC,H.jk 0 rfl gC 0,an (Ki d1 _ (xX _ _ (by omega)) _ iG.bq) ?_⟩
  rintro _ eg ⟨d2,rfl,j5,gA⟩
  have H2:=H1.bg gA j5
  refine aS ⟨(hE.av (mi.trans gC)).kept (by omega) gA,H1.jk 0 rfl gA 0,an (DA d2 e _ _ (BX _) (xe.2.get (by omega)) _ j5.bq (he.av (gC.trans gA))) ?_⟩
  rintro _ fQ ⟨d3,rfl,lQ,jJ⟩
  have H:=H2.bg jJ lQ
  refine aS (an (aar xm m fe _ (hm.av H.mod)) ?_)
  rintro _ ir ⟨d4,rfl,Xc,kI⟩
  have H:=H.bg kI Xc
  refine aS (an (DA d3 d4 _ _ (B9 _ _) (aiG fe) _ (H.bq 9 rfl) Xc.bq) ?_)
  rintro _ gH ⟨d5,rfl,Ol,xh⟩
  have H:=H.bg xh Ol
  change Own gH ir.heap.size aU 1 d5 (bf (cV s T Y N m))at Ol
  have pV:Pq (cV s T Y N m):=ME _ _ _ _ _
  refine aS (H.au 0 rfl (ai p 4) rfl (an (JX s.dv (by omega) (by omega) d5 _ pV.len _ Ol.bq) ?_))
  rintro _ lI ⟨z,rfl,hz,ng⟩
  have H:=H.bg ng hz
  have gR:=hz.bytes.len
  have bZ:=zX (d:=s.dv) pV.len
  refine aS (H.iX 6 cg rfl hz.bytes (by omega) λo' pF H _=>?_)
  exact jC.yes (H.cm 6 rfl) H.mod
def pK(set:Int)(b c:List B8):Int:=if isSet set=true then (if b.length=fm set/\c.length=jg set then (if jt 12 (bJ set).k b=true then 0 else 4) else 3) else 2
def yp(s:gJ)(b c:List B8):List Int:=Au ((jo s.dv 1 (c.drop (32*s.du*s.k))).getD 0 []) (kS (kX (dh 12 s.k b) (iK (jo s.du s.k c))))
@[irreducible] def wu(s:gJ)(b c:List B8):List B8:=g8 1 (yp s b c)
@[irreducible] def tL(set:Int)(b c:List B8):List B8:=if pK set b c=0 then wu (bJ set) b c else []
theorem agA(s:gJ)(b c:List B8):(wu s b c).length=32:=by
 unfold wu;rw[zX (show(yp s b c).length=256 from (LH _ _).len)]
theorem aep(set:Int)(x xc:ag)(b c:List B8)(w:World)(hx:Bytes w x b)(hc:Bytes w xc c):
  Ok Pr aeT [.int .i64 set,.slice x.a x.n x.c,.slice xc.a xc.n xc.c] w λv w'=>jC aE 1 w w' v (aG (tL set b c)) (pK set b c):=by
 refine aC Tryz.func187 ?_
 rw[xY]
 have aT:=hx.len
 have ze:=hc.len
 have hC:pK set b c=if isSet set=true then (if b.length=fm set/\c.length=jg set then (if jt 12 (bJ set).k b=true then 0 else 4) else 3) else 2:=rfl
 have hV:tL set b c=if pK set b c=0 then wu (bJ set) b c else []:=by unfold tL;rfl
 have hB:fm set=384*(bJ set).k:=rfl
 have hZ:jg set=32*((bJ set).du*(bJ set).k+(bJ set).dv):=rfl
 have Bf:=λh:isSet set=true=>iA h
 have gQ:=Gl set
 generalize pK set b c=C at*
 generalize tL set b c=V at*
 generalize fm set=B at*
 generalize jg set=Z at*
 refine an (zL set w) ?_
 rintro _ w1 ⟨rfl,m1⟩
 have H:=(ah.start w).frame m1
 generalize bJ set=s at*
 refine⟨_,rfl,zW ⟨_,rfl,rfl,H.nw λp w2 H _=>H.pU 0 rfl rfl λw3 H=>?_⟩⟩
 have H:ah w [] w3 [.aj p s.cells uc]:=H
 have no:∀ {L:List aA} {w4:World} (e:Int),ah w [] w4 L->e≠0->C=e->ek Pr Kx [.int .i64 e] w4 λv w5=>jC aE 1 w w5 (.tuple ⟨[.slice none 0 0,v]⟩) (aG V) C:=by
  intro L w4 e H he vg
  rw[vg,if_neg he]at hV
  subst hV
  rw[vg]
  refine an (Bz e he w4) ?_
  rintro v w5 ⟨h,m⟩
  exact jC.no ⟨h.1,λb hb=>by have:=h.2 b hb;have:=H.mod.size;omega⟩ (H.mod.trans m)
 cases bk:isSet set with
 |false=>
  rw[bk,if_neg (by decide)]at hC
  exact ite_true rfl (no 2 H (by decide) hC)
 |true=>
  rw[bk,if_pos rfl]at hC
  have hG:=Bf bk
  have hk:=hG.k
  have FM:=hG.du
  have FN:=hG.dv
  refine ite_false rfl (an (gQ w3) ?_)
  rintro _ w5 ⟨rfl,m5⟩
  have H:=H.frame m5
  refine⟨_,rfl,_,rfl,_,rfl,_,rfl,rfl,?_⟩
  by_cases hn:b.length=B/\c.length=Z
  case neg=>
   rw[if_neg hn]at hC
   refine ite_true ?_ (no 3 H (by decide) hC)
   by_cases h:b.length=B
   ·rw[decide_eq_false (show ¬((xc.n:Nat):Int)=((Z:Nat):Int) by omega),Bool.not_false,Bool.or_true]
   ·rw[decide_eq_false (show ¬((x.n:Nat):Int)=((B:Nat):Int) by omega)];rfl
  rw[if_pos hn]at hC
  obtain⟨hn,oW⟩:=hn
  have Om:s.du*s.k<=11*4:=Nat.mul_le_mul (by omega) hk.2
  refine ite_false (by rw[decide_eq_true (show((xc.n:Nat):Int)=((Z:Nat):Int) by omega),decide_eq_true (show((x.n:Nat):Int)=((B:Nat):Int) by omega)];rfl) (H.au 0 rfl (ai p 0) rfl (an (GA 12 s.k (by omega) (by omega) (by omega) x b (by omega) (by omega) _ (hx.av H.mod)) ?_))
  rintro _ w7 (⟨cI,yt,rfl,Bh⟩|⟨cr,rfl,m7⟩)
  case inr=>
   rw[cr,if_neg (by decide)]at hC
   exact⟨_,rfl,⟨none,0,0⟩,rfl,_,rfl,rfl,ite_true rfl (no 4 (H.frame m7) (by decide) hC)⟩
  rw[if_pos cI]at hC
  rw[hC,if_pos rfl]at hV
  subst hV
  rw[hC]
  clear hC no
  obtain⟨f0,H⟩:=H.dz Bh.box
  have e1:32*(s.du:Int)*(s.k:Int)=((32*s.du*s.k:Nat):Int):=by simp only[Int.natCast_mul];rfl
  have e2:32*s.du*s.k=32*(s.du*s.k):=Nat.mul_assoc _ _ _
  refine⟨_,rfl,_,rfl,_,rfl,rfl,ite_false rfl (H.au 0 rfl (ai p 3) rfl ⟨⟨by omega,by omega⟩,H.au 0 rfl (ai p 0) rfl ?_⟩)⟩
  rw[e1]
  have H:=H.drew
  refine⟨⟨by omega,by omega⟩,H.au 0 rfl (ai p 3) rfl (H.au 0 rfl (ai p 0) rfl (H.au 0 rfl (ai p 4) rfl (oz (32*s.du*s.k) rfl (by omega) λzc qY kc=>?_)))⟩
  have kc:=λw' h=>kc w' c h (by omega)
  have zh:(c.drop (32*s.du*s.k)).length=32*s.dv:=by rw[List.length_drop];omega
  refine an (PO s.du s.k (by omega) (by omega) (by omega) xc c (by omega) (by omega) _ (hc.av H.mod)) ?_
  rintro _ w9 ⟨yu,rfl,Xd⟩
  obtain⟨f1,H1⟩:=H.dz Xd
  have pu:=D8 (d:=s.du) (many:=s.k) (by omega) (by omega) (b:=c) (by omega)
  have pv:=D8 (d:=s.dv) (many:=1) (by omega) (by omega) (b:=c.drop (32*s.du*s.k)) (by omega)
  have lu:=B0 s.du s.k c
  have lv:=B0 s.dv 1 (c.drop (32*s.du*s.k))
  refine aS ⟨H.jk 0 rfl Xd.mod 4,an (PO s.dv 1 (by omega) (by omega) (by omega) zc _ (by omega) (by omega) _ (kc _ (hc.av H1.mod))) ?_⟩
  rintro _ bP ⟨yv,rfl,hyv⟩
  obtain⟨f2,H⟩:=H1.dz hyv
  have H:=H.drew
  have yG:=Hg cI
  have lT:=BN 12 s.k b
  have eC:wu s b c=g8 1 (yp s b c):=by unfold wu;rfl
  have eW:yp s b c=Au ((jo s.dv 1 (c.drop (32*s.du*s.k))).getD 0 []) (kS (kX (dh 12 s.k b) (iK (jo s.du s.k c)))):=rfl
  rw[eC]
  clear eC
  generalize jo s.dv 1 (c.drop (32*s.du*s.k))=SV at*
  generalize jo s.du s.k c=SU at*
  generalize dh 12 s.k b=T at*
  have hV:dj bP.drew yv SV:=H.box 3 rfl
  refine aS (hV.ld (i:=0) (by omega) rfl λv0 On=>an (GC yu SU (by omega) pu _ (H.box 2 rfl)) ?_)
  rintro _ bQ ⟨yo,rfl,zi⟩
  obtain⟨f3,H⟩:=H.dz zi
  have lo:=xM SU
  refine aS ⟨hV.kept (i:=0) (by omega) zi.mod,an (Gx yt yo T (iK SU) (by omega) (by omega) (by omega) yG (DP pu) _ (H.box 1 rfl) (H.box 4 rfl)) ?_⟩
  rintro _ cH ⟨d1,rfl,iG,gC⟩
  have H:=H.bg gC iG
  refine aS ⟨(hV.av zi.mod).kept (i:=0) (by omega) gC,an (Ki d1 _ (xX _ _ (by omega)) _ iG.bq) ?_⟩
  rintro _ eg ⟨d2,rfl,j5,gA⟩
  have H:=H.bg gA j5
  have mm:=zi.mod.trans (gC.trans gA)
  refine aS ⟨(hV.av (zi.mod.trans gC)).kept (i:=0) (by omega) gA,an (aeh v0 d2 _ _ (pv.get (by omega)) (BX _) _ (On.av mm) j5.bq) ?_⟩
  rintro _ fQ ⟨d3,rfl,lQ,jJ⟩
  have H:=H.bg jJ lQ
  rw[<- eW]at lQ
  have pW:Pq (yp s b c):=LH _ _
  refine aS (an (JX 1 (by omega) (by omega) d3 _ pW.len _ lQ.bq) ?_)
  rintro _ ir ⟨z,rfl,hz,kI⟩
  have H:=H.bg kI hz
  exact aS (jC.yes (H.cm 8 rfl) H.mod)
end Go.Proofs.YtgjoehgomjgckaaGreatDoor
end
section
set_option linter.unusedVariables false
set_option linter.unusedSimpArgs false
namespace Go.Ev
open Go Go.RowKit
theorem Own.shrink{w:World}{lo:Nat}{e:TypeId}{sz:Nat}{s:ag}{vs:List Value}(h:Own w lo e sz s vs)(k:Nat)(hk:k<=s.n):Own w lo e sz ⟨s.a,k,s.c⟩ (vs.take (k*sz)):=by
 obtain⟨a,n,c⟩:=s
 obtain⟨hl,h1|⟨g,cap,cur,h1,h2,h3,h4,h5,h6,h7⟩⟩:=h
 ·obtain⟨h1,h2⟩:=h1
  simp only[ag.v,Value.slice.injEq]at h1
  obtain⟨rfl,rfl,rfl⟩:=h1
  have FO:k=0:=by simpa using hk
  subst FO
  rw[Nat.zero_mul,List.take_zero]
  exact Own.nil w lo e sz
 ·simp only[ag.v,Value.slice.injEq]at h1
  obtain⟨rfl,hn,rfl⟩:=h1
  have fM:k<=n:=hk
  refine⟨?_,.inr ⟨g,c,cur,rfl,h2,h3,Nat.le_trans fM h4,h5,h6,?_⟩⟩
  ·rw[List.length_take,hl]
   exact Nat.min_eq_left (Nat.mul_le_mul_right _ fM)
  ·rw[<- h7,List.take_take]
   congr 1
   exact(Nat.min_eq_left (Nat.mul_le_mul_right _ fM)).symm
end Go.Ev
namespace Go.Proofs.YtgjoehgomjgckaaGreatDoor
open Go Go.Ev
set_option maxRecDepth 20000
set_option linter.unusedVariables false
theorem Yi{A:Type}(ls:List (List A))(i:Nat)(h:i<ls.length):(ls.take (i+1)).flatten.length=(ls.take i).flatten.length+(ls.getD i []).length:=by
 rw[ic _ _ h [],List.flatten_append,List.length_append];simp
theorem SE{A:Type}{l:List (List A)}{i:Nat}(hi:i<l.length):l.getD i []∈l:=by
 rw[List.getD_eq_getElem?_getD,List.getElem?_eq_getElem hi];exact List.getElem_mem hi
theorem Uq:ew Pr jh aE 1 1:=.of (by kernel_rfl)
theorem ahD:Pr.underlying aU=some (.int .i64):=by kernel_rfl
theorem X2(n:Nat)(hn:n<=1000000)(w:World):Ok Pr OT [.slice none 0 0,.int .i64 (n:Int)] w λv w'=>∃y:ag,v=.slice y.a y.n y.c/\Own w' w.heap.size aE 1 y []/\Mod [] w w':=by
 refine XW (s:=⟨none,0,0⟩) ?_
 unfold OV
 refine gi λgo aV=>ite_false (decide_eq_false (by omega)) (aV w ⟨⟨by decide,by decide⟩,⟨by show _<=(n:Int) - (0 - 0);omega,by show(n:Int) - (0 - 0)<=_;omega⟩,nD ?_⟩)
 refine aZ (λhc=>?_) (λhc=>?_)
 ·refine⟨⟨by decide,by decide⟩,?_⟩
  have H:=(ah.start w).dy aE 1
  refine H.akb (s:=⟨none,0,0⟩) (q:=.i64) (m:=n) (v:=.int .u8 0) (vs:=[]) 0 Uq ahD (by kernel_rfl) rfl rfl (by show(n:Int) - (0 - 0)=n;omega) (by show(0+n)*1<=_;omega) (by show 0+n<=_;omega) λy w2 H2 hy=>?_
  refine⟨⟨by decide,by show(0:Int)<=(y.c:Int);omega⟩,⟨y.a,0,y.c⟩,rfl,?_,H2.mod⟩
  have:=(H2.cm 0 rfl).shrink 0 (Nat.zero_le _)
  simpa using this
 ·exact⟨⟨none,0,0⟩,rfl,Own.nil _ _ _ _,Mod.refl _ _⟩
theorem XX(x:ag)(ls:List (List B8))(hl:ls.length<=1000)(Be:∀i,(ls.take i).flatten.length<=1000000)(hb:∀l∈ls,l.length<=1000000)(w:World)(hx:dZ w [] x ls):Ok Pr X0 [.slice x.a x.n x.c] w λv w'=>iN w w' v ls.flatten:=by
 refine aC Tryz.func206 (L:=[(3,[(3,.int .i64),(11,.int .i64)]),(11,[(6,.sl),(27,.int .i64)])]) ?_
 have aT:=hx.len
 refine eZ 0 ls.length (λi (s:Int) w'=>s=((ls.take i).flatten.length:Int)/\w'=w) rfl (by omega) ⟨rfl,rfl⟩ ?_ ?_
 ·rintro again i _ w1 _ hi ⟨rfl,hw⟩ aB
  subst hw
  refine ite_true (decide_eq_true (by omega)) (hx.ld hi λy hy _=>?_)
  have gb:=hy.len
  have h1:=Be i
  have h2:=hb _ (SE hi)
  have h3:=Yi ls i hi
  exact⟨⟨by omega,by omega⟩,ite_false (decide_eq_false (by omega)) ⟨⟨by omega,by omega⟩,aB _ _ ⟨by omega,rfl⟩⟩⟩
 ·rintro again _ w1 ⟨rfl,hw⟩
  subst hw
  rw[List.take_of_length_le (Nat.le_refl _)]
  have h1:=Be ls.length
  rw[List.take_of_length_le (Nat.le_refl _)]at h1
  refine ite_false (decide_eq_false (by omega)) (an (X2 _ (by omega) _) ?_)
  rintro _ w2 ⟨y,rfl,hy,m2⟩
  have H:=(ah.start w1).bg m2 hy
  refine aS ?_
  refine eZ 0 ls.length (λi (s:ag) w'=>ah w1 [] w' [.row aE 1 s (aG (ls.take i).flatten)]) rfl (by omega) H ?_ ?_
  ·intro gN i s w3 _ hi H aB
   have bZ:=(H.bytes 0 rfl).len
   refine ite_true (decide_eq_true (by omega)) ((hx.mod H.mod).ld hi λz hz _=>?_)
   have gR:=hz.len
   have h2:=Be i
   have h3:=hb _ (SE hi)
   refine H.iX 0 Uq rfl hz (by omega) λs' w4 H _=>⟨⟨by omega,by omega⟩,aB s' w4 ?_⟩
   rw[ic _ _ hi [],List.flatten_append]
   simpa using H
  ·intro gN s w3 H
   rw[List.take_of_length_le (Nat.le_refl _)]at H
   exact ite_false (decide_eq_false (by omega)) ⟨s,rfl,H.cm 0 rfl,H.mod⟩
end Go.Proofs.YtgjoehgomjgckaaGreatDoor
end
section
set_option linter.unusedVariables false
set_option linter.unusedSimpArgs false
namespace Go.Ev
open Go Go.RowKit
set_option linter.unusedVariables false
def Cut(w:World)(y:ag)(l:List B8):Prop:=(y=⟨none,0,0⟩/\l=[])\/∃g cur t,y.a=some ⟨g,0,none⟩/\bp w g cur t/\y.n=l.length/\y.n<=y.c/\(y.c<=maxLen/\t=Go.Proofs.YtgjoehgomjgckaaGreatDoor.aE/\(y.c=y.n/\y.c<=cur.length\/y.c=cur.length))/\cur.take y.n=aG l
theorem Cut.bytes{w:World}{y:ag}{l:List B8}(h:Cut w y l):Bytes w y l:=by
 rcases h with ⟨rfl,rfl⟩|⟨g,cur,t,h1,h2,h3,h4,h5,h6⟩
 ·exact Sl.nil w 1
 ·refine⟨by rw[zF];omega,h4,λ_=>by rw[h1];rfl,λi v hv=>?_⟩
  show w.cell? (Addr.add (base y.a) i)=some v
  rw[h1]
  show w.cell? (Addr.add ⟨g,0,none⟩ i)=some v
  rw[sP,Nat.zero_add,h2.cell]
  rw[<- h6,List.getElem?_take]at hv
  split at hv
  ·exact hv
  ·cases hv
def aA.cut(y:ag)(l:List B8):aA where
 fp:=y.row
 ok w:=Cut w y l
 gV w w' h k:=by
  rcases k with k|⟨g,cur,t,h1,h2,h3⟩
  ·exact .inl k
  ·exact .inr ⟨g,cur,t,h1,(h g (by simp[ag.row,h1])).trans h2,h3⟩
 lt w h b hb:=by
  rcases h with ⟨rfl,_⟩|⟨g,cur,t,h1,h2,_⟩
  ·simp[ag.row]at hb
  ·simp only[ag.row,h1,List.mem_singleton]at hb
   subst hb
   exact h2.lt
theorem ah.U6{w0 w:World}{S:List Nat}{L:List aA}(H:ah w0 S w L)(k:Nat){y:ag}{l:List B8}(hk:L[k]? = some (.row Go.Proofs.YtgjoehgomjgckaaGreatDoor.aE 1 y (aG l)))(n:Nat)(hn:0<n)(IY:n<=l.length):ah w0 S w (L.set k (.cut ⟨y.a,n,n⟩ (l.take n))):=by
 refine H.less k hk ?_ (λb hb=>hb)
 obtain⟨hl,h1|⟨g,cap,cur,h1,h2,h3,h4,h5,h6,h7⟩⟩:=H.ok k _ hk
 ·have:=h1.2
  rw[this,zF]at hl
  omega
 ·simp only[ag.v,Value.slice.injEq]at h1
  rw[zF]at hl
  have hy:y.a=some ⟨g,0,none⟩:=h1.1
  refine .inr ⟨g,cur.toList,Go.Proofs.YtgjoehgomjgckaaGreatDoor.aE,hy,h3,?_,Nat.le_refl _,⟨by show n<=_;omega,rfl,.inl ⟨rfl,by show n<=cur.toList.length;rw[Array.length_toList];omega⟩⟩,?_⟩
  ·show n=_
   rw[List.length_take];omega
  ·show cur.toList.take n=_
   rw[<- BV,<- h7,List.take_take,Nat.min_eq_left (by omega)]
theorem ah.qF{w0 w:World}{S:List Nat}{L:List aA}(H:ah w0 S w L)(k:Nat){y:ag}{l:List B8}(hk:L[k]? = some (.row Go.Proofs.YtgjoehgomjgckaaGreatDoor.aE 1 y (aG l))):ah w0 S w (L.set k (.cut y l)):=by
 refine H.less k hk ?_ (λb hb=>hb)
 obtain⟨hl,h1|⟨g,cap,cur,h1,h2,h3,h4,h5,h6,h7⟩⟩:=H.ok k _ hk
 ·obtain⟨h1,h2⟩:=h1
  rw[h2,zF]at hl
  obtain⟨a,n,c⟩:=y
  simp only[ag.v,Value.slice.injEq]at h1
  obtain⟨rfl,rfl,rfl⟩:=h1
  exact .inl ⟨rfl,List.length_eq_zero_iff.1 (by omega)⟩
 ·simp only[ag.v,Value.slice.injEq]at h1
  rw[zF,Nat.mul_one]at hl
  have hy:y.a=some ⟨g,0,none⟩:=h1.1
  refine .inr ⟨g,cur.toList,Go.Proofs.YtgjoehgomjgckaaGreatDoor.aE,hy,h3,hl.symm,by rw[h1.2.2];exact h4,⟨by rw[h1.2.2];exact h5,rfl,.inr (by rw[h1.2.2,Array.length_toList];omega)⟩,?_⟩
  rw[<- h7,Nat.mul_one]
end Go.Ev
namespace Go.Proofs.YtgjoehgomjgckaaGreatDoor
open Go Go.Ev
set_option maxRecDepth 20000
set_option linter.unusedVariables false
theorem BA(e:Value)(c d:Int)(w:World)(h:ig w e c):Ok Pr Q6 [e,.iface BB (.int .i64 d)] w λv w'=>v=.bool (decide (c=d)&&!decide (c=0))/\w'=w:=by
 rcases h with ⟨rfl,rfl⟩|⟨b,s,rfl,hb,hc⟩
 ·refine Calls.mono (afj d w) ?_
  rintro _ _ ⟨rfl,rfl⟩
  exact⟨_,rfl,by simp,rfl⟩
 ·have iz:w.cell? ⟨b,0,none⟩=some (.int .i64 c):=by rw[hb.cell];rfl
  by_cases wT:c=d
  ·subst wT
   refine Calls.mono (TU b c w iz) ?_
   rintro _ _ ⟨rfl,rfl⟩
   exact⟨_,rfl,by simp[hc],rfl⟩
  ·refine Calls.mono (adX b c d wT w iz) ?_
   rintro _ _ ⟨rfl,rfl⟩
   exact⟨_,rfl,by simp[wT],rfl⟩
theorem Dt(c:Int)(hc:c≠0)(w:World):Ok Pr Gr [.int .i64 c] w λv w'=>cA w w' v c/\Mod [] w w':=by
 refine aC Tryz.func184 ?_
 exact qE λb w' hb h1 h2 _=>⟨cA.mk h1 (by omega) hc,h2⟩
theorem Cc{w w1 w2:World}{e:Value}{c:Int}(h:cA w1 w2 e c)(m:Mod [] w w1):cA w w2 e c:=⟨h.1,λb hb=>by
 have:=h.2 b hb
 have:=m.size
 omega⟩
def k9(set:Int):Nat:=if isSet set=true then dY set+fm set+64 else 0
theorem su{set:Int}(h:isSet set=true):dY set=384*(bJ set).k+32/\fm set=384*(bJ set).k/\k9 set=768*(bJ set).k+96/\jg set=32*((bJ set).du*(bJ set).k+(bJ set).dv):=by
 have hA:dY set=384*(bJ set).k+32:=by unfold dY;rw[if_pos h]
 have hB:fm set=384*(bJ set).k:=rfl
 refine⟨hA,hB,?_,rfl⟩
 unfold k9
 rw[if_pos h,hA,hB];omega
theorem Jm{set:Int}(h:isSet set=false):dY set=0/\fm set=0/\k9 set=0/\jg set=0:=by
 have hk:=Jj h
 refine⟨by unfold dY;rw[h];rfl,by unfold fm;simp[hk],by unfold k9;rw[h];rfl,by unfold jg;simp[hk]⟩
theorem QI(set:Int)(w:World):Ok Pr adt [.int .i64 set] w λv w'=>v=.tuple ⟨[.int .i64 (dY set:Int),.int .i64 (k9 set:Int),.int .i64 (jg set:Int)]⟩/\Mod [] w w':=by
 refine aC Tryz.func183 ?_
 refine an (Gl set w) ?_
 rintro _ w1 ⟨rfl,m1⟩
 refine⟨_,rfl,_,rfl,_,rfl,_,rfl,rfl,?_⟩
 cases bk:isSet set with
 |false=>
  obtain⟨h1,h2,h3,h4⟩:=Jm bk
  rw[h1,h3,h4]
  exact ite_true rfl ⟨rfl,m1⟩
 |true=>
  obtain⟨h1,h2,h3,h4⟩:=su bk
  have hk:=(iA bk).k
  refine ite_false (decide_eq_false (by omega)) ⟨⟨by omega,by omega⟩,⟨by omega,by omega⟩,?_,m1⟩
  rw[show(dY set:Int)+(fm set:Int)+64=(k9 set:Int) by omega]
def pO(set:Int)(l:List B8):List B8:=l.take (fm set)
def pS(set:Int)(l:List B8):List B8:=(l.drop (fm set)).take (dY set)
def pH(set:Int)(l:List B8):List B8:=(l.drop (dY set+fm set)).take 32
def pR(set:Int)(l:List B8):List B8:=l.drop (dY set+fm set+32)
theorem ajv:zc Pr DM=[.slice none 0 0,.slice none 0 0,.slice none 0 0,.slice none 0 0]:=by kernel_rfl
theorem QJ(set:Int)(bk:isSet set=true)(x:ag)(hn:x.n=k9 set)(hc:x.n<=x.c)(w:World):Ok Pr adu [.int .i64 set,.slice x.a x.n x.c] w λv w'=>∃x0 x1 x2 x3:ag,v=.agg ⟨[.slice x0.a x0.n x0.c,.slice x1.a x1.n x1.c,.slice x2.a x2.n x2.c,.slice x3.a x3.n x3.c]⟩/\Mod [] w w'/\
  ∀w2 l,Bytes w2 x l->Bytes w2 x0 (pO set l)/\Bytes w2 x1 (pS set l)/\Bytes w2 x2 (pH set l)/\Bytes w2 x3 (pR set l):=by
 refine aC Tryz.func185 ?_
 rw[ajv]
 obtain⟨h1,h2,h3,h4⟩:=su bk
 have hk:=(iA bk).k
 refine(ah.start w).nw λp w1 H _=>an (Gl set w1) ?_
 rintro _ w2 ⟨rfl,m2⟩
 have H:=(H.frame m2).drew
 refine⟨_,rfl,_,rfl,_,rfl,_,rfl,rfl,uq (fm set) rfl (by omega) λx0 n0 k0=>⟨⟨by omega,by omega⟩,xU (fm set) (dY set+fm set) rfl (by omega) (by omega) (by omega) λx1 n1 k1=>⟨⟨by omega,by omega⟩,⟨by omega,by omega⟩,⟨by omega,by omega⟩,xU (dY set+fm set) (dY set+fm set+32) (by omega) (by omega) (by omega) (by omega) λx2 n2 k2=>⟨⟨by omega,by omega⟩,⟨by omega,by omega⟩,oz (dY set+fm set+32) (by omega) (by omega) λx3 n3 k3=>?_⟩⟩⟩⟩
 refine H.BH 0 rfl rfl λw3 H=>H.DF 0 rfl ⟨x0,x1,x2,x3,rfl,H.mod,λw2 l hl=>?_⟩
 have FL:=hl.len
 refine⟨k0 w2 l hl (by omega),?_,?_,k3 w2 l hl (by omega)⟩
 ·have:=k1 w2 l hl (by omega)
  rwa [Nat.add_sub_cancel]at this
 ·have:=k2 w2 l hl (by omega)
  rwa [Nat.add_sub_cancel_left]at this
def g9(set:Int)(n:Nat):Int:=if isSet set=true then (if n=64 then 0 else 3) else 2
@[irreducible] def ff(set:Int)(ak:List B8):List B8:=if g9 set ak.length=0 then kG set (ak.take 32) else []
@[irreducible] def nY(set:Int)(ak:List B8):List B8:=if g9 set ak.length=0 then pJ set (ak.take 32)++kG set (ak.take 32)++cj 136 6 (kG set (ak.take 32)) 32++ak.drop 32 else []
theorem Me{set:Int}(bk:isSet set=true){d:List B8}(hd:d.length=32):pI set d.length=0/\(kG set d).length=dY set/\(pJ set d).length=fm set:=by
 have hc:pI set d.length=0:=by unfold pI;rw[if_pos bk,if_pos hd]
 obtain⟨h1,h2,h3,h4⟩:=su bk
 have hg:(gK (bJ set) d).length=64:=ot 72 6 _ 64 (by omega)
 refine⟨hc,?_,?_⟩
 ·unfold kG;rw[if_pos hc,agx (iA bk) hg,h1]
 ·unfold pJ;rw[if_pos hc,agy (iA bk) hg,h2]
theorem aeq(set:Int)(x:ag)(ak:List B8)(w:World)(hx:Bytes w x ak):
  Ok Pr aeS [.int .i64 set,.slice x.a x.n x.c] w λv w'=>∃(y z:ag) (er:Value),v=.tuple ⟨[.slice y.a y.n y.c,.slice z.a z.n z.c,er]⟩/\
   ah w [] w' [.row aE 1 y (aG (ff set ak)),.row aE 1 z (aG (nY set ak)),aA.err er (g9 set ak.length)]:=by
 refine aC Tryz.func181 ?_
 rw[xY]
 have aT:=hx.len
 have nP:=hx.cap
 have hC:g9 set ak.length=if isSet set=true then (if ak.length=64 then 0 else 3) else 2:=rfl
 have hV:ff set ak=if g9 set ak.length=0 then kG set (ak.take 32) else []:=by unfold ff;rfl
 have hS:nY set ak=if g9 set ak.length=0 then pJ set (ak.take 32)++kG set (ak.take 32)++cj 136 6 (kG set (ak.take 32)) 32++ak.drop 32 else []:=by unfold nY;rfl
 generalize ff set ak=V at*
 generalize nY set ak=K at*
 generalize g9 set ak.length=C at*
 refine an (zL set w) ?_
 rintro _ w1 ⟨rfl,m1⟩
 have H:=(ah.start w).frame m1
 refine⟨_,rfl,zW ⟨_,rfl,rfl,H.nw λp w2 H _=>H.pU 0 rfl rfl λw3 H=>?_⟩⟩
 have no:∀(c:Int),c≠0->C=c->ek Pr Gr [.int .i64 c] w3 λOe w4=>∃(y z:ag) (er:Value),Value.tuple ⟨[.slice none 0 0,.slice none 0 0,Oe]⟩=.tuple ⟨[.slice y.a y.n y.c,.slice z.a z.n z.c,er]⟩/\
   ah w [] w4 [.row aE 1 y (aG V),.row aE 1 z (aG K),aA.err er C]:=by
  intro c hc cX
  rw[cX]at hV hS
  rw[if_neg hc]at hV hS
  subst hV hS
  refine an (Dt c hc w3) ?_
  rintro e w4 ⟨h,m4⟩
  rw[cX]
  exact⟨⟨none,0,0⟩,⟨none,0,0⟩,e,rfl,((((ah.start w).dy aE 1).dy aE 1).frame H.mod).gW m4 h⟩
 cases bk:isSet set with
 |false=>
  rw[bk,if_neg (by decide)]at hC
  exact ite_true rfl (no 2 (by decide) hC)
 |true=>
  rw[bk,if_pos rfl]at hC
  refine ite_false rfl ?_
  by_cases dX:ak.length=64
  case neg=>
   rw[if_neg dX]at hC
   exact ite_true (by rw[decide_eq_false (show ¬((x.n:Nat):Int)=64 by omega)];rfl) (no 3 (by decide) hC)
  rw[if_pos dX]at hC
  clear no
  subst hC
  rw[if_pos rfl]at hV hS
  subst hV hS
  have fe:(ak.take 32).length=32:=by rw[List.length_take];omega
  obtain⟨c0,lA,lB⟩:=Me bk fe
  obtain⟨h1,h2,h3,h4⟩:=su bk
  have hk:=(iA bk).k
  refine ite_false (by rw[decide_eq_true (show((x.n:Nat):Int)=64 by omega)];rfl) (uq 32 rfl (by omega) λxd nd kd=>an (aeo set xd (ak.take 32) (by omega) w3 (kd _ ak (hx.av H.mod) (by omega))) ?_)
  rw[c0]
  rintro _ w6 ⟨y,z,er,rfl,D⟩
  have H:=(H.join D).drew
  have he:=D.err 2 rfl
  generalize kG set (ak.take 32)=A at*
  generalize pJ set (ak.take 32)=B at*
  refine⟨_,rfl,y,rfl,z,rfl,rfl,he.isNil (ite_false rfl (oz 32 rfl (by omega) λxr nr kr=>H.nw λp1 w7 H _=>?_))⟩
  refine an (JG ⟨some ⟨p1,0,none⟩,1,1⟩ [A] _ (dZ.Fk (H.aj 4 rfl) (by simp) (H.bytes 1 rfl) (jQ _)) (L8 rfl (by omega))) ?_
  rintro _ w8 ⟨g,rfl,hg,m8⟩
  rw[show[A].flatten=A by simp]at hg
  have Db:=ot 136 6 A 32 (by omega)
  rw[show((32:Nat):Int)=32 from rfl]at Db
  have H:=H.bg m8 hg
  refine aS (H.nw λp2 w9 H _=>?_)
  generalize hR:cj 136 6 A 32=R at*
  refine an (XX ⟨some ⟨p2,0,none⟩,4,4⟩ [B,A,R,ak.drop 32] (by show 4<=1000;omega) (λi=>?_) (λl hl=>?_) _ ?_) ?_
  ·have e:(([B,A,R,ak.drop 32]:List (List B8)).take i).flatten.length<=([B,A,R,ak.drop 32]:List (List B8)).flatten.length:=by
    conv=>rhs;rw[<- List.take_append_drop i [B,A,R,ak.drop 32],List.flatten_append,List.length_append]
    omega
   refine Nat.le_trans e ?_
   simp only[List.flatten_cons,List.flatten_nil,List.length_append,List.length_nil,List.length_drop]
   omega
  ·simp only[List.mem_cons,List.not_mem_nil,or_false]at hl
   have zh:(ak.drop 32).length=32:=by rw[List.length_drop];omega
   rcases hl with rfl|rfl|rfl|rfl<;>omega
  ·refine dZ.WR (ss:=[z,y,g,xr]) (H.aj 6 rfl) (by simp) rfl λi s l hs hl=>?_
   match i with
   |0=>simp at hs hl;subst hs hl;exact⟨H.bytes 2 rfl,jQ _⟩
   |1=>simp at hs hl;subst hs hl;exact⟨H.bytes 1 rfl,jQ _⟩
   |2=>simp at hs hl;subst hs hl;exact⟨H.bytes 5 rfl,jQ _⟩
   |3=>simp at hs hl;subst hs hl;exact⟨kr _ ak (hx.av H.mod) (by omega),jQ _⟩
   |k+4=>simp at hs
  rintro _ bP ⟨u,rfl,hu,o9⟩
  have eU:[B,A,R,ak.drop 32].flatten=B++A++R++ak.drop 32:=by simp
  rw[eU]at hu
  have H:=H.bg o9 hu
  exact aS ⟨y,u,.nilIface,rfl,(H.two 1 7 rfl rfl (by omega)).gW (Mod.refl _ _) (rH _ _)⟩
theorem PR(set:Int)(x:ag)(b:List B8)(w:World)(hx:Bytes w x b):Ok Pr aa7 [.int .i64 set,.slice x.a x.n x.c] w λv w'=>cA w w' v (fE set b)/\Mod [] w w':=by
 refine aC Tryz.func186 ?_
 refine an (RS set x b w hx) ?_
 rintro e w1 ⟨he,m1⟩
 have fY:fE set b=0\/fE set b=2\/fE set b=3\/fE set b=4:=by
  unfold fE
  split
  ·split
   ·split
    ·exact .inl rfl
    ·exact .inr (.inr (.inr rfl))
   ·exact .inr (.inr (.inl rfl))
  ·exact .inr (.inl rfl)
 generalize fE set b=c at*
 refine an (BA e c 2 w1 he.1) ?_
 rintro _ w2 ⟨rfl,hw⟩
 subst hw
 have fault:∀d:Int,d≠0->ek Pr Gr [.int .i64 d] w2 λv w3=>cA w w3 v d/\Mod [] w w3:=λd hd=>by
  refine an (Dt d hd w2) ?_
  rintro v w3 ⟨h,m⟩
  exact⟨Cc h m1,m1.trans m⟩
 rcases fY with rfl|rfl|rfl|rfl
 ·refine aN (ite_false rfl (an (BA e 0 3 w2 he.1) ?_))
  rintro _ w4 ⟨rfl,hw⟩
  subst hw
  refine aN (ite_false rfl (an (BA e 0 4 w4 he.1) ?_))
  rintro _ w6 ⟨rfl,hw⟩
  subst hw
  exact aN (ite_false rfl ⟨he,m1⟩)
 ·exact aN (ite_true rfl (fault 2 (by decide)))
 ·refine aN (ite_false rfl (an (BA e 3 3 w2 he.1) ?_))
  rintro _ w4 ⟨rfl,hw⟩
  subst hw
  exact aN (ite_true rfl (fault 3 (by decide)))
 ·refine aN (ite_false rfl (an (BA e 4 3 w2 he.1) ?_))
  rintro _ w4 ⟨rfl,hw⟩
  subst hw
  refine aN (ite_false rfl (an (BA e 4 4 w4 he.1) ?_))
  rintro _ w6 ⟨rfl,hw⟩
  subst hw
  exact aN (ite_true rfl (fault 4 (by decide)))
end Go.Proofs.YtgjoehgomjgckaaGreatDoor
end
section
set_option linter.unusedVariables false
set_option linter.unusedSimpArgs false
namespace Go.Proofs.YtgjoehgomjgckaaGreatDoor
open Go Go.Ev
set_option linter.unusedVariables false
theorem afB:Pr.underlying BU=some .string:=by kernel_rfl
theorem OZ(x:ag)(l:List B8)(hl:l.length<=1000000000)(w:World)(hx:Bytes w x l):Ok Pr OR [.slice x.a x.n x.c] w λv w'=>iN w w' v l:=by
 refine aC Tryz.func75 ?_
 have aT:=hx.len
 refine aZ (λh=>?_) (λh=>?_)
 ·have h0:x.n=0:=by
   rcases Nat.eq_zero_or_pos x.n with e|e
   ·exact e
   ·have:=Sl.pre hx e
    cases ha:x.a with
    |none=>rw[ha]at this;cases this
    |some a=>rw[ha]at h;cases h
  obtain rfl:l=[]:=List.eq_nil_of_length_eq_zero (by omega)
  exact⟨⟨none,0,0⟩,rfl,Own.nil _ _ _ _,Mod.refl _ _⟩
 ·refine(ah.start w).nw λp w1 H _=>?_
  have H:=H.qI 0 1 0 0 rfl rfl (Nat.le_refl _) (by simp only[maxLen];omega)
  refine H.iX (s:=⟨some ⟨p,0,none⟩,0,0⟩) (vs:=[]) 0 cg rfl (hx.av H.mod) (by show 0+x.n<=_;omega) λy w2 H hy=>?_
  exact⟨y,rfl,H.cm 0 rfl,H.mod⟩
def be(n:Int):List B8:=(List.range 8).map λk=>((BitVec.ofInt 64 n:aD)>>>(56 - 8*k)).setWidth 8
def ey(ns:List Int):List B8:=(ns.map be).flatten
theorem BO(n:Int):(be n).length=8:=by simp[be]
theorem BJ(ns:List Int):(ey ns).length=8*ns.length:=by
 induction ns with
 |nil=>rfl
 |cons a r ih=>
  show((be a)++ey r).length=_
  rw[List.length_append,BO,ih,List.length_cons]
  omega
theorem RT(a b:List Int):ey (a++b)=ey a++ey b:=by simp[ey]
theorem acI(n:Int):IntKind.wrap .u64 n=((BitVec.ofInt 64 n).toNat:Int):=by
 rw[wrap_u64,BitVec.toNat_ofInt]
 omega
theorem Ur(n:Int)(k:Nat)(hk:k<8)(s:Int)(hs:s=((56 - 8*k:Nat):Int)):IntKind.wrap .u8 (shr .u64 (IntKind.wrap .u64 n) s)=(((be n).getD k 0).toNat:Int):=by
 subst hs
 rw[acI,wk,MU]
 simp[be,hk]
theorem PS(x:ag)(l:List B8)(y:ag)(ns:List Int)(hl:l.length<=1000000)(hn:ns.length<=1000000)(w:World)(hx:Bytes w x l)(hy:cl w y ns):
  Ok Pr aa5 [.slice x.a x.n x.c,.slice y.a y.n y.c] w λv w'=>iN w w' v (l++ey ns):=by
 refine aC Tryz.func165 (L:=[(3,[(0,.sl),(12,.int .i64)]),(6,[(0,.sl),(7,.int .i64)])]) ?_
 have gb:=hy.len
 refine an (OZ x l (by omega) w hx) ?_
 rintro _ w1 ⟨z,rfl,hz,m⟩
 have H:=(ah.start w).bg m hz
 refine aS (eZ 0 ns.length (λi (b:ag) w'=>ah w [] w' [.row aE 1 b (aG (l++ey (ns.take i)))]) rfl (by omega) (by simpa[ey]using H) ?_ ?_)
 ·intro again i b w2 _ hi H aB
  refine ite_true (decide_eq_true (by omega)) ((hy.av H.mod).ld hi rfl ?_)
  have sk:ey (ns.take (i+1))=ey (ns.take i)++be (ns.getD i 0):=by rw[ic _ _ hi 0,RT];simp[ey]
  have fc:=BJ (ns.take i)
  rw[List.length_take,Nat.min_eq_left (by omega)]at fc
  rw[sk]at aB
  generalize ns.getD i 0=n at*
  have IY:=BO n
  refine lV (λ(b:ag) (s:Int) w'=>∃j:Nat,j<=8/\s=56 - 8*(j:Int)/\ah w [] w' [.row aE 1 b (aG (l++ey (ns.take i)++(be n).take j))]) (λ_ s _=>(s+8).toNat) ⟨0,by omega,by omega,by simpa using H⟩ ?_
  rintro gN b s w3 ⟨j,hj,rfl,H⟩ eJ
  have hb:=(H.bytes 0 rfl).len
  rw[List.length_append,List.length_append,List.length_take,Nat.min_eq_left (by omega)]at hb
  refine aZ (λhc=>?_) (λhc=>?_)
  ·have hc:=of_decide_eq_true hc
   refine fG (by omega) (H.um 0 ((be n).getD j 0) cg rfl (Ur n j (by omega) _ (by omega)) (by omega) λb' w4 H _=>⟨⟨by omega,by omega⟩,eJ _ _ w4 ⟨j+1,by omega,by omega,?_⟩ (by omega)⟩)
   rw[ic _ _ (by omega) 0,<- List.append_assoc]
   exact H
  ·have hc:=of_decide_eq_false hc
   rw[List.take_of_length_le (l:=be n) (by omega),List.append_assoc]at H
   exact⟨⟨by omega,by omega⟩,aB b w3 H⟩
 ·intro again b w2 H
  rw[List.take_length]at H
  exact ite_false (decide_eq_false (by omega)) ⟨b,rfl,H.cm 0 rfl,H.mod⟩
def laid(p:List B8):List B8:=be (p.length:Int)++p
def jD(ps:List (List B8)):List B8:=(ps.map laid).flatten
theorem QK(a b:List (List B8)):jD (a++b)=jD a++jD b:=by simp[jD]
theorem JN:∀(ps:List (List B8)) (k:Nat),(∀p∈ps,p.length<=k)->(jD ps).length<=ps.length*(k+8)
 |[],_,_=>by simp[jD]
 |p::r,k,h=>by
  have h1:=JN r k λq hq=>h q (List.mem_cons_of_mem _ hq)
  have h2:=h p List.mem_cons_self
  show(laid p++jD r).length<=_
  rw[List.length_append,laid,List.length_append,BO,List.length_cons,Nat.add_mul]
  omega
theorem Us(n:Int):ey [n]=be n:=by simp[ey]
theorem _root_.Go.Ev.ah.HC{w0 w:World}{S:List Nat}{L:List aA}(H:ah w0 S w L)(k:Nat){b:Nat}{l:List Int}{t:TypeId}(hk:L[k]? = some (.aj b (bf l) t)):cl w ⟨some ⟨b,0,none⟩,l.length,l.length⟩ l:=by
 have:=(H.aj k hk).sl 1 l.length l.length (by simp) (Nat.le_refl _)
 rw[Nat.mul_one,List.take_of_length_le (by simp)]at this
 exact this
theorem abI(x:ag)(l:List B8)(y:ag)(ps:List (List B8))(hl:l.length<=100000)(hn:ps.length<=10)(q9:∀p∈ps,p.length<=10000)(w:World)(hx:Bytes w x l)(hy:dZ w [] y ps):
  Ok Pr Qt [.slice x.a x.n x.c,.slice y.a y.n y.c] w λv w'=>iN w w' v (l++jD ps):=by
 refine aC Tryz.func167 (L:=[(3,[(0,.sl),(11,.int .i64)])]) ?_
 have gb:=hy.len
 refine an (OZ x l (by omega) w hx) ?_
 rintro _ w1 ⟨z,rfl,hz,m⟩
 have H:=(ah.start w).bg m hz
 refine aS (eZ 0 ps.length (λi (b:ag) w'=>ah w [] w' [.row aE 1 b (aG (l++jD (ps.take i)))]) rfl (by omega) (by simpa[jD]using H) ?_ ?_)
 ·intro again i b w2 _ hi H aB
  have fc:=JN (ps.take i) 10000 λp hp=>q9 p (List.mem_of_mem_take hp)
  rw[List.length_take]at fc
  have sk:jD (ps.take (i+1))=jD (ps.take i)++laid (ps.getD i []):=by rw[ic _ _ hi [],QK];simp[jD]
  have qn:=q9 (ps.getD i []) (by simp[hi])
  rw[sk]at aB
  have ak4:min i ps.length*(10000+8)<=10*(10000+8):=Nat.mul_le_mul_right _ (by omega)
  refine ite_true (decide_eq_true (by omega)) (hy.ld0 H.mod hi λu hu _=>H.nw λp w3 H _=>?_)
  have iR:=hu.len
  generalize ps.getD i []=pt at*
  have Jn:=(H.bytes 0 rfl).len
  simp only[List.length_append]at Jn
  refine an (PS b _ ⟨some ⟨p,0,none⟩,1,1⟩ [((u.n:Nat):Int)] (by rw[List.length_append];omega) (by simp) _ (H.bytes 0 rfl) (H.HC 1 (l:=[((u.n:Nat):Int)]) rfl)) ?_
  rintro _ w4 ⟨q,rfl,hq,m4⟩
  have H:=H.bg m4 hq
  have Oo:=hq.bytes.len
  simp only[List.length_append,BJ,List.length_cons,List.length_nil]at Oo
  refine aS (H.iX 2 cg rfl (hu.av H.mod) (by omega) λb' w5 H _=>⟨⟨by omega,by omega⟩,aB b' w5 ?_⟩)
  have H:=H.only 2 rfl
  rw[Us,<- iR,List.append_assoc,List.append_assoc]at H
  exact H
 ·intro again b w2 H
  rw[List.take_length]at H
  exact ite_false (decide_eq_false (by omega)) ⟨b,rfl,H.cm 0 rfl,H.mod⟩
theorem Pv(x:ag)(l:List B8)(y:ag)(ns:List Int)(hl:l.length<=1000000)(hn:ns.length<=1000000)(w:World)(hx:Bytes w x l)(hy:cl w y ns):
  Ok Pr PB [.slice x.a x.n x.c,.slice y.a y.n y.c] w λv w'=>iN w w' v (l++ey ns):=by
 refine aC Tryz.func177 (L:=[(3,[(5,.sl),(6,.int .i64)]),(6,[(5,.sl),(7,.int .i64)])]) ?_
 have aT:=hx.len
 have gb:=hy.len
 refine(ah.start w).oD cg hx (by omega) λz w1 H _=>?_
 refine eZ 0 ns.length (λi (b:ag) w'=>ah w [] w' [.row aE 1 b (aG (l++ey (ns.take i)))]) rfl (by omega) (by simpa[ey]using H) ?_ ?_
 ·intro again i b w2 _ hi H aB
  refine ite_true (decide_eq_true (by omega)) ?_
  have sk:ey (ns.take (i+1))=ey (ns.take i)++be (ns.getD i 0):=by rw[ic _ _ hi 0,RT];simp[ey]
  have fc:=BJ (ns.take i)
  rw[List.length_take,Nat.min_eq_left (by omega)]at fc
  rw[sk]at aB
  have IY:=BO (ns.getD i 0)
  refine lV (λ(b:ag) (s:Int) w'=>∃j:Nat,j<=8/\s=7 - (j:Int)/\ah w [] w' [.row aE 1 b (aG (l++ey (ns.take i)++(be (ns.getD i 0)).take j))]) (λ_ s _=>(s+8).toNat) ⟨0,by omega,by omega,by simpa using H⟩ ?_
  rintro gN b s w3 ⟨j,hj,rfl,H⟩ eJ
  have hb:=(H.bytes 0 rfl).len
  rw[List.length_append,List.length_append,List.length_take,Nat.min_eq_left (by omega)]at hb
  refine aZ (λhc=>?_) (λhc=>?_)
  ·have hc:=of_decide_eq_true hc
   refine(hy.av H.mod).ld hi rfl ⟨⟨by omega,by omega⟩,fG (by omega) (H.um 0 ((be (ns.getD i 0)).getD j 0) cg rfl (Ur _ j (by omega) _ (by omega)) (by omega) λb' w4 H _=>⟨⟨by omega,by omega⟩,eJ _ _ w4 ⟨j+1,by omega,by omega,?_⟩ (by omega)⟩)⟩
   rw[ic _ _ (by omega) 0,<- List.append_assoc]
   exact H
  ·have hc:=of_decide_eq_false hc
   rw[List.take_of_length_le (l:=be (ns.getD i 0)) (by omega),List.append_assoc]at H
   exact⟨⟨by omega,by omega⟩,aB b w3 H⟩
 ·intro again b w2 H
  rw[List.take_length]at H
  exact ite_false (decide_eq_false (by omega)) ⟨b,rfl,H.cm 0 rfl,H.mod⟩
theorem aas(x:ag)(l:List B8)(y:ag)(ps:List (List B8))(hl:l.length<=100000)(hn:ps.length<=10)(q9:∀p∈ps,p.length<=10000)(w:World)(hx:Bytes w x l)(hy:dZ w [] y ps):
  Ok Pr Qb [.slice x.a x.n x.c,.slice y.a y.n y.c] w λv w'=>iN w w' v (l++jD ps):=by
 refine aC Tryz.func178 (L:=[(3,[(5,.sl),(6,.int .i64)])]) ?_
 have aT:=hx.len
 have gb:=hy.len
 refine(ah.start w).oD cg hx (by omega) λz w1 H _=>?_
 refine eZ 0 ps.length (λi (b:ag) w'=>ah w [] w' [.row aE 1 b (aG (l++jD (ps.take i)))]) rfl (by omega) (by simpa[jD]using H) ?_ ?_
 ·intro again i b w2 _ hi H aB
  have fc:=JN (ps.take i) 10000 λp hp=>q9 p (List.mem_of_mem_take hp)
  rw[List.length_take]at fc
  have sk:jD (ps.take (i+1))=jD (ps.take i)++laid (ps.getD i []):=by rw[ic _ _ hi [],QK];simp[jD]
  have qn:=q9 (ps.getD i []) (by simp[hi])
  rw[sk]at aB
  have ak4:min i ps.length*(10000+8)<=10*(10000+8):=Nat.mul_le_mul_right _ (by omega)
  have H:=H.drew
  obtain⟨u,hu,Jo,iz⟩:=hy.at hi
  have iR:=hu.len
  have Bc:=iz _ H.mod
  refine ite_true (decide_eq_true (by omega)) ⟨⟨Jo,by omega,by omega⟩,u,Bc,⟨Jo,by omega,by omega⟩,u,Bc,H.nw λp w3 H _=>?_⟩
  generalize ps.getD i []=pt at*
  have Jn:=(H.bytes 0 rfl).len
  simp only[List.length_append]at Jn
  refine⟨Mz Bc (iz _ H.mod),?_⟩
  refine an (Pv b _ ⟨some ⟨p,0,none⟩,1,1⟩ [((u.n:Nat):Int)] (by rw[List.length_append];omega) (by simp) _ (H.bytes 0 rfl) (H.HC 1 (l:=[((u.n:Nat):Int)]) rfl)) ?_
  rintro _ w4 ⟨q,rfl,hq,m4⟩
  have Wr:=iz _ H.mod
  have H:=H.bg m4 hq
  have Oo:=hq.bytes.len
  simp only[List.length_append,BJ,List.length_cons,List.length_nil]at Oo
  refine aS ⟨Mz Wr (iz _ H.mod),H.iX 2 cg rfl (hu.av H.mod) (by omega) λb' w5 H _=>⟨⟨by omega,by omega⟩,aB b' w5 ?_⟩⟩
  have H:=H.only 2 rfl
  rw[Us,<- iR,List.append_assoc,List.append_assoc]at H
  exact H
 ·intro again b w2 H
  rw[List.take_length]at H
  exact ite_false (decide_eq_false (by omega)) ⟨b,rfl,H.cm 0 rfl,H.mod⟩
end Go.Proofs.YtgjoehgomjgckaaGreatDoor
end
section
set_option linter.unusedVariables false
set_option linter.unusedSimpArgs false
namespace Go.Proofs.YtgjoehgomjgckaaGreatDoor
open Go Go.Ev
set_option maxRecDepth 20000
set_option linter.unusedVariables false
structure aY where
 (n0 n1 n2 n3 n4 n5 n6 n7 n8 n9 gS:Int)
 name:ByteArray
 (cM tok:ag)
@[reducible] def aY.cells(q:aY):List Value:=GO q.n0 q.n1 q.n2 q.n3 q.n4 q.n5 q.n6 q.n7 q.n8 q.n9 q.gS q.name q.cM q.tok
def aY.bq(q:aY):List Int:=[q.n0,q.n1,q.n2,q.n3,q.n4,q.n5,q.n6,q.n7,q.n8,q.n9,q.gS]
def aY.rest(q:aY):List Int:=[q.n3,q.n4,q.n5,q.n6,q.n7,q.n8,q.n9,q.gS]
def aF(lo hi n:Int):Bool:=decide (lo<=n)&&decide (n<=hi)
def iy(q:aY):Bool:=aF 1 6 q.n0&&(aF 1 1099511627776 q.n1&&(aF 1 13 q.n2&&(q.rest.all (aF 0 1099511627776)&&(decide (q.name.size<=300)&&(decide (q.cM.n<=2000)&&decide (q.tok.n<=100))))))
theorem G5(n lo hi:Int)(w:World):Ok Pr ahc [.int .i64 n,.int .i64 lo,.int .i64 hi] w λv w'=>v=.bool (aF lo hi n)/\w'=w:=by
 refine aC Tryz.func103 ?_
 exact⟨rfl,rfl⟩
theorem acJ(n:Int)(w:World):Ok Pr Kw [.int .i64 n] w λv w'=>v=.bool (!aF 0 1099511627776 n)/\w'=w:=by
 refine aC Tryz.func102 ?_
 refine an (G5 n 0 1099511627776 w) ?_
 rintro _ w1 ⟨rfl,hw⟩
 subst hw
 exact aN ⟨rfl,rfl⟩
theorem Y7(g:FuncId)(p:Int->Bool)(hb:jB Pr g=true)(hg:∀n w,Ok Pr g [.int .i64 n] w λv w'=>v=.bool (p n)/\w'=w)(x:ag)(l:List Int)(hl:l.length<=1000000)(w:World)(hx:cl w x l):
  Ok Pr JB [.slice x.a x.n x.c,.func (.func g) #[] #[]] w λv w'=>∃n:Int,v=.int .i64 n/\(decide (0<=n)=l.any p)/\w'=w:=by
 refine aC Tryz.func148 (L:=[(2,[(8,.int .i64)])]) ?_
 have aT:=hx.len
 refine bG 0 l.length (λi w'=>w'=w/\(l.take i).any p=false) rfl (by omega) ⟨rfl,rfl⟩ ?_ ?_
 ·rintro again i w1 _ hi ⟨nV,ha⟩ aB
  have za:cl w1 x l:=by rw[nV];exact hx
  refine ite_true (decide_eq_true (by omega)) (za.ld hi rfl ?_)
  have key:ek Pr g [.int .i64 (l.getD i 0)] w1 λv w2=>wK v λt16=>dc t16 ((λ(v:Value) (w':World)=>∃n:Int,v=.int .i64 n/\(decide (0<=n)=l.any p)/\w'=w) (.int .i64 (i:Int)) w2) (cv ((i:Int)+1)/\again ((i:Int)+1) w2):=by
   refine an (hg _ _) ?_
   rintro _ w2 ⟨rfl,so⟩
   have EJ:l.getD i 0∈l:=by simp[hi]
   refine aN (aZ (λh=>?_) (λh=>?_))
   ·refine⟨_,rfl,?_,so.trans nV⟩
    rw[decide_eq_true (by omega)]
    exact(List.any_eq_true.2 ⟨_,EJ,h⟩).symm
   ·refine⟨⟨by omega,by omega⟩,aB _ ⟨so.trans nV,?_⟩⟩
    rw[ic _ _ hi 0,List.any_append,ha,List.any_cons,h]
    rfl
  show cond (jB Pr g) _ False
  rw[hb]
  exact key
 ·rintro again w1 ⟨nV,ha⟩
  rw[List.take_length]at ha
  exact ite_false (decide_eq_false (by omega)) ⟨_,rfl,by rw[ha];rfl,nV⟩
theorem Yj(g:FuncId)(p:Int->Bool)(hb:jB Pr g=true)(hg:∀n w,Ok Pr g [.int .i64 n] w λv w'=>v=.bool (p n)/\w'=w)(x:ag)(l:List Int)(hl:l.length<=1000000)(w:World)(hx:cl w x l):
  Ok Pr Jz [.slice x.a x.n x.c,.func (.func g) #[] #[]] w λv w'=>v=.bool (l.any p)/\w'=w:=by
 refine OP ?_
 unfold JA
 refine an (Y7 g p hb hg x l hl w hx) ?_
 rintro _ w1 ⟨n,rfl,hn,hw⟩
 subst hw
 exact bH ⟨by rw[hn],rfl⟩
theorem aat(q:aY)(w:World):Ok Pr aaW [.agg ⟨q.cells⟩] w λv w'=>∃y:ag,v=.slice y.a y.n y.c/\Own w' w.heap.size aU 1 y (bf q.bq)/\Mod [] w w':=by
 refine aC Tryz.func105 ?_
 refine(ah.start w).nw λp w1 H _=>?_
 refine H.au 0 rfl (ai p 0) rfl (H.au 0 rfl (ai p 1) rfl (H.au 0 rfl (ai p 2) rfl (H.au 0 rfl (ai p 3) rfl (H.au 0 rfl (ai p 4) rfl (H.au 0 rfl (ai p 5) rfl ?_)))))
 refine H.au 0 rfl (ai p 6) rfl (H.au 0 rfl (ai p 7) rfl (H.au 0 rfl (ai p 8) rfl (H.au 0 rfl (ai p 9) rfl (H.au 0 rfl (ai p 10) rfl (H.nw λp1 w2 H _=>?_)))))
 have H:=H.qI 1 1 11 11 rfl rfl (Nat.le_refl _) (by simp only[maxLen];omega)
 exact⟨⟨some ⟨p1,0,none⟩,11,11⟩,rfl,H.cm 1 rfl,H.mod⟩
theorem agB:jB Pr Kw=true:=by kernel_rfl
theorem afC(q:aY)(w:World):Ok Pr af5 [.agg ⟨q.cells⟩] w λv w'=>v=.bool (iy q)/\Mod [] w w':=by
 refine aC Tryz.func50 ?_
 refine(ah.start w).nw λp w1 H _=>?_
 refine H.au 0 rfl (ai p 0) rfl (an (G5 _ _ _ _) ?_)
 rintro _ w2 ⟨rfl,hw⟩
 subst hw
 refine aN (H.au 0 rfl (ai p 1) rfl ?_)
 unfold iy
 refine aZ (λh1=>?_) (λh1=>?_)
 ·rw[h1,Bool.true_and]
  refine an (G5 _ _ _ _) ?_
  rintro _ w3 ⟨rfl,hw⟩
  subst hw
  refine aN (H.au 0 rfl (ai p 2) rfl ?_)
  refine aZ (λh2=>?_) (λh2=>?_)
  ·rw[h2,Bool.true_and]
   refine an (G5 _ _ _ _) ?_
   rintro _ w4 ⟨rfl,hw⟩
   subst hw
   refine aN (H.kM 0 rfl ?_)
   refine aZ (λh3=>?_) (λh3=>?_)
   ·rw[h3,Bool.true_and]
    refine an (aat q _) ?_
    rintro _ w5 ⟨y,rfl,hy,m5⟩
    have H:=H.bg m5 hy
    have gb:=hy.bq.len
    refine aS (Sl.l (H.bq 1 rfl) (by omega) 3 rfl (by rw[<- gb];show 3<=11;omega) λz hz gG _=>?_)
    have uV:cl w5 z q.rest:=gG
    refine an (Yj Kw _ agB acJ z q.rest (by show 8<=1000000;omega) _ uV) ?_
    rintro _ w6 ⟨rfl,hw⟩
    subst hw
    refine aN (H.jX 0 rfl (ai p 11) rfl (H.az 0 rfl (ai p 12) rfl (H.az 0 rfl (ai p 13) rfl ⟨?_,H.mod⟩)))
    congr 1
    have e:(!q.rest.any λn=>!aF 0 1099511627776 n)=q.rest.all (aF 0 1099511627776):=by
     rw[List.not_any_eq_all_not]
     simp
    rw[e]
    have e1:∀a b:Nat,decide (((a:Nat):Int)<=(b:Int))=decide (a<=b):=λa b=>by simp
    have Nj:=e1 q.name.size 300
    have MG:=e1 q.cM.n 2000
    have Nk:=e1 q.tok.n 100
    simp only[Bool.and_assoc]
    rw[<- Nj,<- MG,<- Nk]
    rfl
   ·rw[h3,Bool.false_and]
    exact H.jX 0 rfl (ai p 11) rfl (H.az 0 rfl (ai p 12) rfl (H.az 0 rfl (ai p 13) rfl ⟨rfl,H.mod⟩))
  ·rw[h2,Bool.false_and]
   exact H.kM 0 rfl (H.jX 0 rfl (ai p 11) rfl (H.az 0 rfl (ai p 12) rfl (H.az 0 rfl (ai p 13) rfl ⟨rfl,H.mod⟩)))
 ·rw[h1,Bool.false_and]
  exact H.au 0 rfl (ai p 2) rfl (H.kM 0 rfl (H.jX 0 rfl (ai p 11) rfl (H.az 0 rfl (ai p 12) rfl (H.az 0 rfl (ai p 13) rfl ⟨rfl,H.mod⟩))))
def Ex(q:aY):Int:=if iy q=true then 0 else 2
theorem JR(x y:ag)(l m:List B8)(w:World)(hx:Bytes w x l)(hy:Bytes w y m):Ok Pr aa4 [.slice x.a x.n x.c,.slice y.a y.n y.c] w λv w'=>v=.bool (decide (l=m))/\w'=w:=by
 refine aC Tryz.func153 ?_
 refine nt hx (nt hy ⟨?_,rfl⟩)
 congr 1
 exact decide_eq_decide.2 BM
theorem Y8(q:aY)(w:World):Ok Pr Zj [.agg ⟨q.cells⟩] w λv w'=>∃b,v=.bool b/\Mod [] w w'/\(b=false->q.name.size<=400/\q.cM.n<=3000/\q.tok.n<=200):=by
 refine aC Tryz.func25 ?_
 refine(ah.start w).nw λp w1 H _=>?_
 refine H.jX 0 rfl (ai p 11) rfl (H.az 0 rfl (ai p 12) rfl (H.az 0 rfl (ai p 13) rfl ⟨_,rfl,H.mod,λh=>?_⟩))
 simp only[Bool.or_eq_false_iff,decide_eq_false_iff_not]at h
 omega
theorem Y9(q:aY)(w:World):Ok Pr Zr [.agg ⟨q.cells⟩] w λv w'=>∃y:ag,v=.slice y.a y.n y.c/\Own w' w.heap.size aU 1 y (bf q.rest)/\Mod [] w w':=by
 refine aC Tryz.func141 ?_
 refine(ah.start w).nw λp w1 H _=>?_
 refine H.au 0 rfl (ai p 3) rfl (H.au 0 rfl (ai p 4) rfl (H.au 0 rfl (ai p 5) rfl ?_))
 refine H.au 0 rfl (ai p 6) rfl (H.au 0 rfl (ai p 7) rfl (H.au 0 rfl (ai p 8) rfl (H.au 0 rfl (ai p 9) rfl (H.au 0 rfl (ai p 10) rfl (H.nw λp1 w2 H _=>?_)))))
 have H:=H.qI 1 1 8 8 rfl rfl (Nat.le_refl _) (by simp only[maxLen];omega)
 exact⟨⟨some ⟨p1,0,none⟩,8,8⟩,rfl,H.cm 1 rfl,H.mod⟩
theorem acK(q:aY)(w:World):Ok Pr ac9 [.agg ⟨q.cells⟩] w λv w'=>v=.bool (iy q)/\Mod [] w w':=by
 refine aC Tryz.func87 (L:=[(3,[(4,.int .i64)])]) ?_
 refine(ah.start w).nw λp w1 H _=>H.kM 0 rfl (an (Y9 q _) ?_)
 rintro _ w2 ⟨y,rfl,hy,m2⟩
 have H:=H.bg m2 hy
 have gb:=hy.bq.len
 have A6:q.rest.length=8:=rfl
 have qf:iy q=(q.rest.all (aF 0 1099511627776)&&(aF 1 6 q.n0&&(aF 1 1099511627776 q.n1&&(aF 1 13 q.n2&&(decide (q.name.size<=300)&&(decide (q.cM.n<=2000)&&decide (q.tok.n<=100))))))):=by
  unfold iy
  generalize q.rest.all (aF 0 1099511627776)=a
  generalize aF 1 6 q.n0=b
  generalize aF 1 1099511627776 q.n1=c
  generalize aF 1 13 q.n2=d
  cases a<;>cases b<;>cases c<;>cases d<;>rfl
 have jj:q.rest=q.rest:=rfl
 refine aS ?_
 rw[qf]
 generalize q.rest=l at*
 refine bG 0 8 (λi w'=>w'=w2/\(l.take i).all (aF 0 1099511627776)=true) rfl (by omega) ⟨rfl,rfl⟩ ?_ ?_
 ·rintro again i w3 _ hi ⟨hw,ha⟩ aB
  subst hw
  have EJ:l.getD i 0∈l:=by simp[show i<l.length by omega]
  refine ite_true (decide_eq_true (by omega)) ((H.bq 1 rfl).ld (by omega) rfl ?_)
  have no:aF 0 1099511627776 (l.getD i 0)=false->(l.all (aF 0 1099511627776))=false:=λh=>by
   cases hh:l.all (aF 0 1099511627776)with
   |false=>rfl
   |true=>
    have:=List.all_eq_true.1 hh _ EJ
    rw[h]at this;cases this
  refine aZ (λh=>?_) (λh=>?_)
  ·have h:=of_decide_eq_true h
   rw[no (by unfold aF;rw[decide_eq_false (by omega)];rfl)]
   exact⟨rfl,H.mod⟩
  ·have h:=of_decide_eq_false h
   refine(H.bq 1 rfl).ld (by omega) rfl (aZ (λh2=>?_) (λh2=>?_))
   ·have h2:=of_decide_eq_true h2
    rw[no (by unfold aF;rw[Bool.and_eq_false_iff];exact .inr (decide_eq_false (by omega)))]
    exact⟨rfl,H.mod⟩
   ·have h2:=of_decide_eq_false h2
    refine⟨⟨by omega,by omega⟩,aB _ ⟨rfl,?_⟩⟩
    rw[ic _ _ (by omega) 0,List.all_append,ha,List.all_cons]
    unfold aF
    rw[decide_eq_true (show(0:Int)<=l.getD i 0 by omega),decide_eq_true (show l.getD i 0<=1099511627776 by omega)]
    rfl
 ·rintro again w3 ⟨hw,ha⟩
  subst hw
  rw[List.take_of_length_le (by omega)]at ha
  rw[ha,Bool.true_and]
  refine ite_false (decide_eq_false (by omega)) ?_
  refine H.au 0 rfl (ai p 0) rfl (H.au 0 rfl (ai p 0) rfl (H.au 0 rfl (ai p 1) rfl (H.au 0 rfl (ai p 1) rfl (H.au 0 rfl (ai p 2) rfl (H.au 0 rfl (ai p 2) rfl ?_)))))
  refine H.jX 0 rfl (ai p 11) rfl (H.az 0 rfl (ai p 12) rfl (H.az 0 rfl (ai p 13) rfl ⟨?_,H.mod⟩))
  congr 1
  have e1:∀a b:Nat,decide (((a:Nat):Int)<=(b:Int))=decide (a<=b):=λa b=>by simp
  have Nj:=e1 q.name.size 300
  have MG:=e1 q.cM.n 2000
  have Nk:=e1 q.tok.n 100
  unfold aF
  simp only[Bool.and_assoc]
  rw[<- Nj,<- MG,<- Nk]
  rfl
theorem Ut:zc Pr DM=[.slice none 0 0,.slice none 0 0,.slice none 0 0,.slice none 0 0]:=by kernel_rfl
@[irreducible] def oJ(l:List B8):List B8:=cj 136 6 l 32
theorem DV(l:List B8):cj 136 6 l 32=oJ l:=by unfold oJ;rfl
theorem SF(l:List B8):(oJ l).length=32:=by unfold oJ;exact ot 136 6 l 32 (by omega)
def nZ(set:Int)(l:List B8):Int:=if isSet set=true then (if l.length=k9 set then (if oJ (pS set l)=pH set l then 0 else 4) else 3) else 2
theorem Tt{set:Int}{l:List B8}(h:nZ set l=0):isSet set=true/\l.length=k9 set:=by
 unfold nZ at h
 split at h
 ·rename_i h1
  split at h
  ·rename_i h2;exact⟨h1,h2⟩
  ·exact absurd h (by decide)
 ·exact absurd h (by decide)
theorem Io{set:Int}(bk:isSet set=true){l:List B8}(h:l.length=k9 set):(pS set l).length=dY set/\(pO set l).length=fm set/\(pH set l).length=32/\(pR set l).length=32:=by
 obtain⟨h1,h2,h3,h4⟩:=su bk
 refine⟨?_,?_,?_,?_⟩
 ·unfold pS;rw[List.length_take,List.length_drop];omega
 ·unfold pO;rw[List.length_take];omega
 ·unfold pH;rw[List.length_take,List.length_drop];omega
 ·unfold pR;rw[List.length_drop];omega
theorem aau(set:Int)(x:ag)(l:List B8)(w:World)(hx:Bytes w x l):Ok Pr aa6 [.int .i64 set,.slice x.a x.n x.c] w λv w'=>cA w w' v (nZ set l)/\Mod [] w w':=by
 refine aC Tryz.func182 ?_
 rw[xY,Ut]
 have aT:=hx.len
 have nP:=hx.cap
 have hC:nZ set l=if isSet set=true then (if l.length=k9 set then (if oJ (pS set l)=pH set l then 0 else 4) else 3) else 2:=rfl
 generalize nZ set l=C at*
 refine an (zL set w) ?_
 rintro _ w1 ⟨rfl,m1⟩
 have H:=(ah.start w).frame m1
 refine⟨_,rfl,zW ⟨_,rfl,rfl,H.nw λp w2 H _=>H.pU 0 rfl rfl λw3 H=>?_⟩⟩
 have no:∀ {w4:World} (c:Int),Mod [] w w4->c≠0->C=c->ek Pr Gr [.int .i64 c] w4 λv w5=>cA w w5 v C/\Mod [] w w5:=by
  intro w4 c m hc cX
  refine an (Dt c hc w4) ?_
  rintro e w5 ⟨h,m4⟩
  rw[cX]
  exact⟨Cc h m,m.trans m4⟩
 cases bk:isSet set with
 |false=>
  rw[bk,if_neg (by decide)]at hC
  exact ite_true rfl (no 2 H.mod (by decide) hC)
 |true=>
  rw[bk,if_pos rfl]at hC
  obtain⟨h1,h2,h3,h4⟩:=su bk
  have hk:=(iA bk).k
  refine ite_false rfl (an (QI set w3) ?_)
  rintro _ w5 ⟨rfl,m5⟩
  have H:=H.frame m5
  refine⟨_,rfl,_,rfl,_,rfl,_,rfl,rfl,?_⟩
  by_cases hn:l.length=k9 set
  case neg=>
   rw[if_neg hn]at hC
   exact ite_true (by rw[decide_eq_false (show ¬((x.n:Nat):Int)=((k9 set:Nat):Int) by omega)];rfl) (no 3 H.mod (by decide) hC)
  rw[if_pos hn]at hC
  obtain⟨lS,lO,lH,lR⟩:=Io bk hn
  refine ite_false (by rw[decide_eq_true (show((x.n:Nat):Int)=((k9 set:Nat):Int) by omega)];rfl) (an (QJ set bk x (by omega) nP _) ?_)
  rintro _ w7 ⟨x0,x1,x2,x3,rfl,m7,kp⟩
  have H:=H.frame m7
  refine Qk (H.nw λp1 w8 H _=>H.BH 1 rfl rfl λw9 H=>?_)
  have H:=H.drew
  have H:ah w [] w9.drew [.aj p (bJ set).cells uc,.aj p1 (zG x0 x1 x2 x3) DM]:=H
  refine H.az 1 rfl (ai p1 1) rfl (H.az 1 rfl (ai p1 2) rfl (H.nw λp2 bP H2 _=>?_))
  obtain⟨k0,k1,k2,k3⟩:=kp _ l (hx.av H2.mod)
  refine⟨gm (H.aj 1 rfl) (H2.aj 1 rfl) (fS _ _),?_⟩
  refine an (JG ⟨some ⟨p2,0,none⟩,1,1⟩ [pS set l] _ (dZ.Fk (H2.aj 2 rfl) (by simp) k1 (jQ _)) (L8 rfl (by omega))) ?_
  rintro _ bQ ⟨g,rfl,hg,oa⟩
  rw[show[pS set l].flatten=pS set l by simp]at hg
  rw[DV]at hg
  have H3:=H2.bg oa hg
  refine aS ⟨gm (H2.aj 1 rfl) (H3.aj 1 rfl) (fS _ _),an (JR g x2 _ _ _ hg.bytes (k2.av oa)) ?_⟩
  rintro _ cH ⟨rfl,hw⟩
  subst hw
  refine aN ?_
  by_cases he:oJ (pS set l)=pH set l
  ·rw[if_pos he]at hC
   rw[hC]
   exact ite_false (by rw[decide_eq_true he];rfl) ⟨rH _ _,H3.mod⟩
  ·rw[if_neg he]at hC
   exact ite_true (by rw[decide_eq_false he];rfl) (no 4 H3.mod (by decide) hC)
@[irreducible] def sv(b m:List B8):List B8:=cj 72 6 (m++oJ b) 64
theorem U7(b m:List B8):cj 72 6 (m++oJ b) 64=sv b m:=by unfold sv;rfl
theorem LL(b m:List B8):(sv b m).length=64:=by unfold sv;exact ot 72 6 _ 64 (by omega)
def jL(set:Int)(b m:List B8):Int:=if fE set b=0 then (if m.length=32 then 0 else 3) else fE set b
@[irreducible] def pL(set:Int)(b m:List B8):List B8:=if jL set b m=0 then lP set b m ((sv b m).drop 32) else []
@[irreducible] def ob(set:Int)(b m:List B8):List B8:=if jL set b m=0 then (sv b m).take 32 else []
theorem Hh{set:Int}{b m r:List B8}(h:fE set b=0)(hm:m.length=32)(hr:r.length=32):tJ set b m r=0:=by
 unfold tJ;rw[if_pos h,if_pos ⟨hm,hr⟩]
theorem aer(set:Int)(x xm:ag)(b m:List B8)(w:World)(hx:Bytes w x b)(hm:Bytes w xm m):
  Ok Pr aeQ [.int .i64 set,.slice x.a x.n x.c,.slice xm.a xm.n xm.c] w λv w'=>∃(y z:ag) (er:Value),v=.tuple ⟨[.slice y.a y.n y.c,.slice z.a z.n z.c,er]⟩/\
   ah w [] w' [.row aE 1 y (aG (pL set b m)),.cut z (ob set b m),aA.err er (jL set b m)]:=by
 refine aC Tryz.func164 ?_
 have aT:=hx.len
 have Fp:=hm.len
 have hC:jL set b m=if fE set b=0 then (if m.length=32 then 0 else 3) else fE set b:=rfl
 have hV:pL set b m=if jL set b m=0 then lP set b m ((sv b m).drop 32) else []:=by unfold pL;rfl
 have hS:ob set b m=if jL set b m=0 then (sv b m).take 32 else []:=by unfold ob;rfl
 generalize jL set b m=C at*
 generalize pL set b m=V at*
 generalize ob set b m=K at*
 refine an (PR set x b w hx) ?_
 rintro e w1 ⟨he,m1⟩
 have no:∀ {w3:World} (e:Value) (c:Int),c≠0->C=c->cA w w3 e c->Mod [] w w3->∃(y z:ag) (er:Value),Value.tuple ⟨[.slice none 0 0,.slice none 0 0,e]⟩=.tuple ⟨[.slice y.a y.n y.c,.slice z.a z.n z.c,er]⟩/\
   ah w [] w3 [.row aE 1 y (aG V),.cut z K,aA.err er C]:=by
  intro w3 e c hc cX h m
  rw[cX]at hV hS
  rw[if_neg hc]at hV hS
  subst hV hS
  rw[cX]
  have H1:=((ah.start w).dy aE 1).push (r:=.cut ⟨none,0,0⟩ []) (Mod.refl [] w) (.inl ⟨rfl,rfl⟩) (λb hb=>by simp[aA.cut,ag.row]at hb)
  exact⟨⟨none,0,0⟩,⟨none,0,0⟩,e,rfl,H1.gW m h⟩
 by_cases h0:fE set b=0
 case neg=>
  rw[if_neg h0]at hC
  exact he.1.isNil (ite_true (by rw[decide_eq_false h0];rfl) (no e _ h0 hC he m1))
 rw[if_pos h0]at hC
 obtain⟨bk,fc,cI⟩:=DU h0
 have hk:=(iA bk).k
 refine he.1.isNil (ite_false (by rw[decide_eq_true h0];rfl) ?_)
 by_cases fe:m.length=32
 case neg=>
  rw[if_neg fe]at hC
  refine ite_true (by rw[decide_eq_false (show ¬((xm.n:Nat):Int)=32 by omega)];rfl) (an (Dt 3 (by decide) w1) ?_)
  rintro e3 w3 ⟨h,m3⟩
  exact no e3 3 (by decide) hC (Cc h m1) (m1.trans m3)
 rw[if_pos fe]at hC
 clear no
 subst hC
 rw[if_pos rfl]at hV hS
 subst hV hS
 have H:=(ah.start w).frame m1
 refine ite_false (by rw[decide_eq_true (show((xm.n:Nat):Int)=32 by omega)];rfl) (H.nw λp w3 H _=>?_)
 refine an (JG ⟨some ⟨p,0,none⟩,1,1⟩ [b] _ (dZ.Fk (H.aj 0 rfl) (by simp) (hx.av H.mod) (jQ _)) (L8 rfl (by omega))) ?_
 rintro _ w4 ⟨g,rfl,hg,m4⟩
 rw[show[b].flatten=b by simp]at hg
 rw[DV]at hg
 have Db:=SF b
 have H:=H.bg m4 hg
 refine aS (H.nw λp1 w5 H _=>?_)
 refine an (JH ⟨some ⟨p1,0,none⟩,2,2⟩ [m,oJ b] _ (dZ.As (H.aj 2 rfl) (by simp) (hm.av H.mod) (jQ _) (H.bytes 1 rfl) (jQ _)) (zV rfl (by omega) (by omega))) ?_
 rintro _ w6 ⟨u,rfl,hu,m6⟩
 rw[show[m,oJ b].flatten=m++oJ b by simp]at hu
 rw[U7]at hu
 have iR:=LL b m
 generalize sv b m=G at*
 have H:=H.bg m6 hu
 have C8:=(H.bytes 3 rfl).len
 have Xe:=(H.bytes 3 rfl).cap
 refine aS (oz 32 rfl (by omega) λzr nr kr=>?_)
 have oQ:(G.drop 32).length=32:=by rw[List.length_drop];omega
 refine an (Rh set x xm zr b m (G.drop 32) _ (hx.av H.mod) (hm.av H.mod) (kr _ G (H.bytes 3 rfl) (by omega))) ?_
 rw[Hh h0 fe oQ]
 rintro _ w7 ⟨y,er,rfl,hy,FP,hn7,m7⟩
 have H:=H.bg m7 hy
 refine⟨_,rfl,y,rfl,rfl,FP.1.isNil (ite_false rfl ⟨⟨by decide,by decide,by omega⟩,?_⟩)⟩
 refine⟨y,⟨u.a,32,32⟩,.nilIface,rfl,?_⟩
 exact((H.U6 3 rfl 32 (by omega) (by omega)).two 4 3 rfl rfl (by omega)).gW (Mod.drew _ _) (rH _ _)
def rm(set:Int)(l c:List B8):Int:=if nZ set l=0 then (if c.length=jg set then (if fE set (pS set l)=0 then pK set (pO set l) c else fE set (pS set l)) else 3) else nZ set l
def qu(set:Int)(l c:List B8):List B8:=tL set (pO set l) c
@[irreducible] def j6(set:Int)(l c:List B8):List B8:=cj 72 6 (qu set l c++pH set l) 64
@[irreducible] def mz(set:Int)(l c:List B8):List B8:=if rm set l c=0 then (if lP set (pS set l) (qu set l c) ((j6 set l c).drop 32)=c then (j6 set l c).take 32 else cj 136 31 (pR set l++c) 32) else []
theorem Tu{set:Int}{b c:List B8}(h:pK set b c=0):(tL set b c).length=32:=by
 unfold tL;rw[if_pos h,agA]
theorem aes(set:Int)(x xc:ag)(l c:List B8)(w:World)(hx:Bytes w x l)(hc:Bytes w xc c):
  Ok Pr aeP [.int .i64 set,.slice x.a x.n x.c,.slice xc.a xc.n xc.c] w λv w'=>∃(y:ag) (er:Value),v=.tuple ⟨[.slice y.a y.n y.c,er]⟩/\
   ah w [] w' [.cut y (mz set l c),aA.err er (rm set l c)]:=by
 refine aC Tryz.func162 ?_
 rw[Ut]
 have aT:=hx.len
 have nP:=hx.cap
 have ze:=hc.len
 have hC:rm set l c=if nZ set l=0 then (if c.length=jg set then (if fE set (pS set l)=0 then pK set (pO set l) c else fE set (pS set l)) else 3) else nZ set l:=rfl
 have hV:mz set l c=if rm set l c=0 then (if lP set (pS set l) (qu set l c) ((j6 set l c).drop 32)=c then (j6 set l c).take 32 else cj 136 31 (pR set l++c) 32) else []:=by unfold mz;rfl
 generalize rm set l c=C at*
 generalize mz set l c=V at*
 have no:∀ {w3:World} (e:Value) (d:Int),d≠0->C=d->cA w w3 e d->Mod [] w w3->∃(y:ag) (er:Value),Value.tuple ⟨[.slice none 0 0,e]⟩=.tuple ⟨[.slice y.a y.n y.c,er]⟩/\
   ah w [] w3 [.cut y V,aA.err er C]:=by
  intro w3 e d hd FQ h m
  rw[FQ]at hV
  rw[if_neg hd]at hV
  subst hV
  rw[FQ]
  have H1:=(ah.start w).push (r:=.cut ⟨none,0,0⟩ []) (Mod.refl [] w) (.inl ⟨rfl,rfl⟩) (λb hb=>by simp[aA.cut,ag.row]at hb)
  exact⟨⟨none,0,0⟩,e,rfl,H1.gW m h⟩
 refine an (aau set x l w hx) ?_
 rintro e w1 ⟨he,m1⟩
 by_cases h0:nZ set l=0
 case neg=>
  rw[if_neg h0]at hC
  exact he.1.isNil (ite_true (by rw[decide_eq_false h0];rfl) (no e _ h0 hC he m1))
 rw[if_pos h0]at hC
 obtain⟨bk,hn⟩:=Tt h0
 obtain⟨h1,h2,h3,h4⟩:=su bk
 have hk:=(iA bk).k
 have FM:=(iA bk).du
 have FN:=(iA bk).dv
 have Om:(bJ set).du*(bJ set).k<=11*4:=Nat.mul_le_mul (by omega) hk.2
 obtain⟨lS,lO,lH,lR⟩:=Io bk hn
 refine he.1.isNil (ite_false (by rw[decide_eq_true h0];rfl) (an (QI set w1) ?_))
 rintro _ w2 ⟨rfl,m2⟩
 have m2:=m1.trans m2
 refine⟨_,rfl,_,rfl,_,rfl,_,rfl,rfl,?_⟩
 by_cases xj:c.length=jg set
 case neg=>
  rw[if_neg xj]at hC
  refine ite_true (by rw[decide_eq_false (show ¬((xc.n:Nat):Int)=((jg set:Nat):Int) by omega)];rfl) (an (Dt 3 (by decide) w2) ?_)
  rintro e3 w3 ⟨h,m3⟩
  exact no e3 3 (by decide) hC (Cc h m2) (m2.trans m3)
 rw[if_pos xj]at hC
 refine ite_false (by rw[decide_eq_true (show((xc.n:Nat):Int)=((jg set:Nat):Int) by omega)];rfl) (an (QJ set bk x (by omega) nP _) ?_)
 rintro _ w4 ⟨x0,x1,x2,x3,rfl,m4,kp⟩
 have H:=(ah.start w).frame (m2.trans m4)
 refine Qk (H.nw λp w5 H _=>H.BH 0 rfl rfl λw6 H=>?_)
 have H:ah w [] w6 [.aj p (zG x0 x1 x2 x3) DM]:=H
 obtain⟨k0,k1,k2,k3⟩:=kp _ l (hx.av H.mod)
 have ak5:=H.mod.size
 refine H.az 0 rfl (ai p 1) rfl (an (PR set x1 _ w6 k1) ?_)
 rintro e7 w7 ⟨FP,m7⟩
 have H:=H.frame m7
 have ak6:=H.mod.size
 by_cases hp:fE set (pS set l)=0
 case neg=>
  rw[if_neg hp]at hC
  refine FP.1.isNil (ite_true (by rw[decide_eq_false hp];rfl) (no e7 _ hp hC (FP.from ak5) H.mod))
 rw[if_pos hp]at hC
 refine FP.1.isNil (ite_false (by rw[decide_eq_true hp];rfl) (H.az 0 rfl (ai p 0) rfl (an (aep set x0 xc _ c _ (k0.av m7) (hc.av H.mod)) ?_)))
 rintro _ w8 ⟨y,er,rfl,hy,Dc,hn8,m8⟩
 have H:=H.bg m8 hy
 by_cases h8:pK set (pO set l) c=0
 case neg=>
  refine⟨_,rfl,y,rfl,rfl,Dc.1.isNil (ite_true (by rw[decide_eq_false h8];rfl) (no er _ h8 hC (Dc.from ak6) H.mod))⟩
 rw[h8]at hC
 rw[hC,if_pos rfl]at hV
 have lM:=Tu h8
 have Dc:=Dc.1
 rw[h8]at Dc
 refine⟨_,rfl,y,rfl,rfl,Dc.isNil (ite_false rfl (H.az 0 rfl (ai p 2) rfl (H.nw λp1 w9 H _=>?_)))⟩
 change V=(if lP set (pS set l) (qu set l c) ((j6 set l c).drop 32)=c then (j6 set l c).take 32 else cj 136 31 (pR set l++c) 32)at hV
 have eG:j6 set l c=cj 72 6 (qu set l c++pH set l) 64:=by unfold j6;rfl
 have lG:(j6 set l c).length=64:=by unfold j6;exact ot 72 6 _ 64 (by omega)
 have H:ah w [] w9 [.aj p (zG x0 x1 x2 x3) DM,.row aE 1 y (aG (qu set l c)),.aj p1 [.slice y.a y.n y.c,.slice x2.a x2.n x2.c] jh]:=H
 change (qu set l c).length=32 at lM
 generalize j6 set l c=G at*
 generalize qu set l c=M at*
 obtain⟨k0,k1,k2,k3⟩:=kp _ l (hx.av H.mod)
 refine an (JH ⟨some ⟨p1,0,none⟩,2,2⟩ [M,pH set l] _ (dZ.As (H.aj 2 rfl) (by simp) (H.bytes 1 rfl) (jQ _) k2 (jQ _)) (zV rfl (by omega) (by omega))) ?_
 rintro _ bP ⟨u,rfl,hu,o9⟩
 rw[show[M,pH set l].flatten=M++pH set l by simp,<- eG]at hu
 have H:=(H.bg o9 hu).drew
 have C8:=(H.bytes 3 rfl).len
 have Xe:=(H.bytes 3 rfl).cap
 refine aS (H.az 0 rfl (ai p 1) rfl (oz 32 rfl (by omega) λzr nr kr=>?_))
 have oQ:(G.drop 32).length=32:=by rw[List.length_drop];omega
 obtain⟨k0,k1,k2,k3⟩:=kp _ l (hx.av H.mod)
 refine an (Rh set x1 y zr (pS set l) M (G.drop 32) _ k1 (H.bytes 1 rfl) (kr _ G (H.bytes 3 rfl) (by omega))) ?_
 rw[Hh hp lM oQ]
 rintro _ bQ ⟨z,Oq,rfl,hz,ak7,an7,oa⟩
 have H:=H.bg oa hz
 refine⟨_,rfl,z,rfl,rfl,ak7.1.isNil (ite_false rfl (an (JR z xc _ _ _ hz.bytes (hc.av H.mod)) ?_))⟩
 rintro _ cH ⟨rfl,hw⟩
 subst hw
 rw[hC]
 refine aN ?_
 by_cases hq:lP set (pS set l) M (G.drop 32)=c
 ·rw[if_pos hq]at hV
  subst hV
  refine ite_false (by rw[decide_eq_true hq];rfl) ⟨⟨by decide,by decide,by omega⟩,⟨u.a,32,32⟩,.nilIface,rfl,?_⟩
  exact((H.U6 3 rfl 32 (by omega) (by omega)).only 3 rfl).gW (Mod.refl _ _) (rH _ _)
 ·rw[if_neg hq]at hV
  obtain⟨Z,hZ⟩:∃Z,Z=cj 136 31 (pR set l++c) 32:=⟨_,rfl⟩
  rw[<- hZ]at hV
  subst hV
  refine ite_true (by rw[decide_eq_false hq];rfl) (H.az 0 rfl (ai p 3) rfl (H.nw λp2 eg H _=>?_))
  obtain⟨k0,k1,k2,k3⟩:=kp _ l (hx.av H.mod)
  refine an (JE 32 ⟨some ⟨p2,0,none⟩,2,2⟩ [pR set l,c] _ (dZ.As (H.aj 5 rfl) (by simp) k3 (jQ _) (hc.av H.mod) (jQ _)) (zV rfl (by omega) (by omega))) ?_
  rintro _ fQ ⟨v,rfl,hv,jJ⟩
  rw[show[pR set l,c].flatten=pR set l++c by simp,<- hZ]at hv
  have H:=H.bg jJ hv
  exact aS ⟨v,.nilIface,rfl,((H.qF 6 rfl).only 6 rfl).gW (Mod.refl _ _) (rH _ _)⟩
structure bu where
 (n0 n1 n2 n3 n4:Int)
 rev:Bool
@[reducible] def bu.cells(g:bu):List Value:=sD g.n0 g.n1 g.n2 g.n3 g.n4 g.rev
def gz:bu:=⟨0,0,0,0,0,false⟩
def cw(l:List bu):List Value:=(l.map bu.cells).flatten
theorem afD(a b:List bu):cw (a++b)=cw a++cw b:=by simp[cw]
theorem GQ(l:List bu):(cw l).length=6*l.length:=by
 induction l with
 |nil=>rfl
 |cons a r ih=>
  show(a.cells++cw r).length=_
  rw[List.length_append,ih]
  show 6+6*r.length=6*(r.length+1)
  omega
theorem Uu:∀(l:List bu) (i j:Nat) (v:Value),i<l.length->(l.getD i gz).cells[j]? = some v->(cw l)[i*6+j]? = some v
 |[],i,j,v,h,_=>by simp at h
 |a::r,0,j,v,_,h=>by
  show(a.cells++cw r)[0*6+j]? = _
  have h:a.cells[j]? = some v:=h
  rw[Nat.zero_mul,Nat.zero_add,List.getElem?_append_left (List.getElem?_eq_some_iff.1 h).1]
  exact h
 |a::r,i+1,j,v,hi,h=>by
  show(a.cells++cw r)[(i+1)*6+j]? = _
  have hl:a.cells.length=6:=rfl
  rw[List.getElem?_append_right (by omega),hl,show(i+1)*6+j - 6=i*6+j by omega]
  exact Uu r i j v (by simpa using hi) (by simpa using h)
theorem B4(l:List bu):∀v∈cw l,dQ v=true:=by
 intro v hv
 obtain⟨c,hc,hv⟩:=List.mem_flatten.1 hv
 obtain⟨g,-,rfl⟩:=List.mem_map.1 hc
 simp only[List.mem_cons,List.not_mem_nil,or_false]at hv
 rcases hv with rfl|rfl|rfl|rfl|rfl|rfl<;>rfl
def fN(w:World)(s:ag)(l:List bu):Prop:=Sl w s 6 (cw l)
theorem fN.len{w:World}{s:ag}{l:List bu}(h:fN w s l):l.length=s.n:=by
 have:=Sl.len h
 rw[GQ]at this
 omega
theorem fN.av{w w':World}{s:ag}{l:List bu}(h:fN w s l)(m:Mod [] w w'):fN w' s l:=Sl.av h m
theorem fN.nil(w:World):fN w ⟨none,0,0⟩ []:=Sl.nil w 6
theorem fN.cell{w:World}{s:ag}{l:List bu}(h:fN w s l){i j:Nat}{v:Value}(hi:i<l.length)(hv:(l.getD i gz).cells[j]? = some v):w.cell? (Addr.add (Addr.add (base s.a) (i*6)) j)=some v:=by
 rw[add_add]
 exact Sl.cell h _ _ (Uu l i j v hi hv)
theorem fN.ld{w:World}{s:ag}{l:List bu}(h:fN w s l){i:Nat}(hi:i<l.length){x:Int}(hx:x=(i:Int)){K:Int->Int->Int->Int->Int->Bool->Prop}(hk:K (l.getD i gz).n0 (l.getD i gz).n1 (l.getD i gz).n2 (l.getD i gz).n3 (l.getD i gz).n4 (l.getD i gz).rev):
  ij s.a x s.n (lU (Addr.add (base s.a) (Int.toNat x*6)) w K):=by
 subst hx
 have hl:=h.len
 refine⟨⟨Sl.pre h (by omega),by omega,by omega⟩,?_⟩
 rw[Int.toNat_natCast]
 exact JL (λj v hv=>h.cell hi hv) hk
theorem fN.kept{w0 w w':World}{s:ag}{l:List bu}(h:fN w0 s l)(m:Mod [] w0 w)(m':Mod [] w0 w'){i:Nat}(hi:i<l.length){x:Int}(hx:x=(i:Int)):kept (Addr.add (base s.a) (Int.toNat x*6)) 6 w w':=λj hj=>by
 subst hx
 rw[Int.toNat_natCast]
 have hc:∃v,(l.getD i gz).cells[j]? = some v:=⟨(l.getD i gz).cells[j]'(by show j<6;exact hj),List.getElem?_eq_getElem _⟩
 obtain⟨v,hv⟩:=hc
 rw[(h.av m).cell hi hv,(h.av m').cell hi hv]
theorem Ae:ew Pr Dr cc 6 48:=ew.of (by kernel_rfl)
theorem Dn(c:Int)(hc:c≠0)(w:World):Ok Pr JP [.int .i64 c] w λv w'=>cA w w' v c/\Mod [] w w':=by
 refine aC Tryz.func151 ?_
 exact qE λb w' hb h1 h2 _=>⟨cA.mk h1 (by omega) hc,h2⟩
theorem Du(n lo hi:Int)(w:World):Ok Pr adm [.int .i64 n,.int .i64 lo,.int .i64 hi] w λv w'=>v=.bool (aF lo hi n)/\w'=w:=by
 refine aC Tryz.func154 ?_
 exact⟨rfl,rfl⟩
def jl(g:bu):Bool:=aF 1 6 g.n1&&(aF 1 6 g.n2&&(aF 1 1099511627776 g.n4&&((!decide (g.n3=0))&&decide (yz .i64 g.n3 3584=0))))
theorem PT(g:bu)(w:World):Ok Pr aa0 [.agg ⟨g.cells⟩] w λv w'=>v=.bool (jl g)/\Mod [] w w':=by
 refine aC Tryz.func125 ?_
 refine(ah.start w).nw λp w1 H _=>?_
 unfold jl
 refine H.au 0 rfl (ai p 1) rfl (an (Du _ _ _ _) ?_)
 rintro _ w2 ⟨rfl,hw⟩
 subst hw
 refine aN (H.au 0 rfl (ai p 2) rfl (aZ (λh1=>?_) (λh1=>?_)))
 ·rw[h1,Bool.true_and]
  refine an (Du _ _ _ _) ?_
  rintro _ w3 ⟨rfl,hw⟩
  subst hw
  refine aN (H.au 0 rfl (ai p 4) rfl (aZ (λh2=>?_) (λh2=>?_)))
  ·rw[h2,Bool.true_and]
   refine an (Du _ _ _ _) ?_
   rintro _ w4 ⟨rfl,hw⟩
   subst hw
   refine aN (H.au 0 rfl (ai p 3) rfl (H.au 0 rfl (ai p 3) rfl ⟨?_,H.mod⟩))
   rw[Bool.and_assoc]
  ·rw[h2]
   exact H.au 0 rfl (ai p 3) rfl (H.au 0 rfl (ai p 3) rfl ⟨rfl,H.mod⟩)
 ·rw[h1]
  exact H.au 0 rfl (ai p 4) rfl (H.au 0 rfl (ai p 3) rfl (H.au 0 rfl (ai p 3) rfl ⟨rfl,H.mod⟩))
theorem aiH{x:Int}(h:x<0)(h2:-9223372036854775808<=x):¬yz .i64 x 3584=0:=by
 intro he
 unfold yz at he
 have hm:(BitVec.ofInt 64 x).msb=true:=by
  rw[BitVec.msb_eq_decide,BitVec.toNat_ofInt]
  refine decide_eq_true ?_
  omega
 have hv:(BitVec.ofInt 64 x&&&~~~ BitVec.ofInt 64 3584).msb=true:=by
  rw[BitVec.msb_and,hm]
  decide
 have hn:=BitVec.msb_eq_decide (BitVec.ofInt 64 x&&&~~~ BitVec.ofInt 64 3584)
 rw[hv]at hn
 have hn:=of_decide_eq_true hn.symm
 have bB:=(BitVec.ofInt 64 x&&&~~~ BitVec.ofInt 64 3584).isLt
 have he:IntKind.wrap .i64 (((BitVec.ofInt 64 x&&&~~~ BitVec.ofInt 64 3584).toNat:Nat):Int)=0:=he
 generalize (BitVec.ofInt 64 x&&&~~~ BitVec.ofInt 64 3584).toNat=n at*
 have e:IntKind.wrap .i64 (n:Int)=(n:Int) - 18446744073709551616:=by
  have e:IntKind.wrap .i64 (n:Int)=if (n:Int)%18446744073709551616 ≥ 9223372036854775808 then (n:Int)%18446744073709551616 - 18446744073709551616 else (n:Int)%18446744073709551616:=by
   simp[IntKind.wrap,IntKind.signed,IntKind.bits]
  rw[e,if_pos (by omega)]
  omega
 omega
def bu.fit(g:bu):Prop:=-9223372036854775808<=g.n3
theorem QL(g:bu)(hf:g.fit)(w:World):Ok Pr ade [.agg ⟨g.cells⟩] w λv w'=>v=.bool (jl g)/\Mod [] w w':=by
 refine aC Tryz.func101 ?_
 refine(ah.start w).nw λp w1 H _=>?_
 refine H.au 0 rfl (ai p 1) rfl (H.au 0 rfl (ai p 1) rfl (H.au 0 rfl (ai p 2) rfl (H.au 0 rfl (ai p 2) rfl (H.au 0 rfl (ai p 4) rfl (H.au 0 rfl (ai p 4) rfl (H.au 0 rfl (ai p 3) rfl (H.au 0 rfl (ai p 3) rfl ⟨?_,H.mod⟩)))))))
 congr 1
 unfold jl aF
 have e:(decide ((0:Int)<g.n3)&&decide (yz .i64 g.n3 3584=0))=((!decide (g.n3=0))&&decide (yz .i64 g.n3 3584=0)):=by
  rcases Int.lt_trichotomy g.n3 0 with h|h|h
  ·rw[decide_eq_false (aiH h hf),Bool.and_false,Bool.and_false]
  ·rw[h];rfl
  ·rw[decide_eq_true h,decide_eq_false (show ¬g.n3=0 by omega)];rfl
 rw[<- e]
 simp only[Bool.and_assoc]
def qT(l:List bu):Nat->Bool
 |0=>true
 |i+1=>qT l i&&(decide ((l.getD i gz).n0=(i:Int)+1)&&jl (l.getD i gz))
def fy(l:List bu):Bool:=qT l l.length&&decide (l.length<=8)
theorem LM{l:List bu}{i:Nat}(hi:i<l.length)(h:(decide ((l.getD i gz).n0=(i:Int)+1)&&jl (l.getD i gz))=false):qT l l.length=false:=by
 have:∀k,i<k->qT l k=false:=by
  intro k hk
  induction k with
  |zero=>omega
  |succ k ih=>
   unfold qT
   rcases Nat.lt_or_ge i k with h1|h1
   ·rw[ih h1];rfl
   ·have:k=i:=by omega
    subst this
    rw[h,Bool.and_false]
 exact this _ hi
theorem Gf(x:ag)(l:List bu)(hl:l.length<=1000000)(w:World)(hx:fN w x l):Ok Pr ab3 [.slice x.a x.n x.c] w λv w'=>v=.bool (fy l)/\Mod [] w w':=by
 refine aC Tryz.func69 (L:=[(2,[(7,.int .i64)])]) ?_
 have aT:=hx.len
 have qY:zc Pr cc=gz.cells:=by kernel_rfl
 rw[qY]
 unfold fy
 refine bG 0 l.length (λi w'=>ah w [] w' []/\qT l i=true) rfl (by omega) ⟨ah.start w,rfl⟩ ?_ ?_
 ·rintro again i w1 _ hi ⟨H,ho⟩ aB
  refine ite_true (decide_eq_true (by omega)) ((hx.av H.mod).ld hi rfl (H.nw λp w2 H _=>H.pP 0 rfl rfl λw3 H=>?_))
  have cr:=LM (l:=l) hi
  have oZ:qT l (i+1)=(qT l i&&(decide ((l.getD i gz).n0=(i:Int)+1)&&jl (l.getD i gz))):=rfl
  generalize l.getD i gz=g at*
  refine H.au 0 rfl (ai p 0) rfl ⟨⟨by omega,by omega⟩,H.lU 0 rfl (aZ (λh=>?_) (λh=>?_))⟩
  ·have h:decide (g.n0=(i:Int)+1)=false:=by simpa using h
   rw[cr (by rw[h];rfl)]
   exact⟨rfl,H.mod⟩
  ·have h:decide (g.n0=(i:Int)+1)=true:=by simpa using h
   refine an (PT g _) ?_
   rintro _ w4 ⟨rfl,m4⟩
   have H:=H.frame m4
   refine aN (aZ (λh2=>?_) (λh2=>?_))
   ·have h2:jl g=false:=by simpa using h2
    rw[cr (by rw[h2,Bool.and_false])]
    exact⟨rfl,H.mod⟩
   ·have h2:jl g=true:=by simpa using h2
    refine⟨⟨by omega,by omega⟩,aB w4 ⟨H.take 0,?_⟩⟩
    rw[oZ,ho,h,h2];rfl
 ·rintro again w1 ⟨H,ho⟩
  refine ite_false (decide_eq_false (by omega)) ⟨?_,H.mod⟩
  rw[ho,Bool.true_and]
  congr 1
  exact decide_eq_decide.2 (by omega)
theorem Gn(x:ag)(l:List bu)(hf:∀g∈l,g.fit)(hl:l.length<=1000000)(w:World)(hx:fN w x l):Ok Pr ac7 [.slice x.a x.n x.c] w λv w'=>v=.bool (fy l)/\Mod [] w w':=by
 refine aC Tryz.func49 (L:=[(2,[(3,.int .i64)])]) ?_
 have aT:=hx.len
 unfold fy
 refine bG 0 l.length (λi w'=>ah w [] w' []/\qT l i=true) rfl (by omega) ⟨ah.start w,rfl⟩ ?_ ?_
 ·rintro again i w1 _ hi ⟨H,ho⟩ aB
  refine aZ (λhc=>?_) (λhc=>?_)
  ·have za:=hx.av H.mod
   have iz:=za.cell (i:=i) (j:=0) hi rfl
   refine⟨⟨Sl.pre hx (by omega),by omega,by omega⟩,(l.getD i gz).n0,by rw[Int.toNat_natCast];exact iz,⟨by omega,by omega⟩,?_⟩
   have cr:=LM (l:=l) hi
   have oZ:qT l (i+1)=(qT l i&&(decide ((l.getD i gz).n0=(i:Int)+1)&&jl (l.getD i gz))):=rfl
   have CM:=hf (l.getD i gz) (by simp[hi])
   refine aZ (λh=>?_) (λh=>za.ld hi rfl ?_)
   ·have h:decide ((l.getD i gz).n0=(i:Int)+1)=false:=by simpa using h
    rw[cr (by rw[h];rfl)]
    exact⟨rfl,H.mod⟩
   ·have h:decide ((l.getD i gz).n0=(i:Int)+1)=true:=by simpa using h
    refine an (QL (l.getD i gz) CM _) ?_
    rintro _ w4 ⟨rfl,m4⟩
    have H:=H.frame m4
    refine aN (aZ (λh2=>?_) (λh2=>?_))
    ·have h2:jl (l.getD i gz)=false:=by simpa using h2
     rw[cr (by rw[h2,Bool.and_false])]
     exact⟨rfl,H.mod⟩
    ·have h2:jl (l.getD i gz)=true:=by simpa using h2
     refine⟨⟨by omega,by omega⟩,aB w4 ⟨H,?_⟩⟩
     rw[oZ,ho,h,h2];rfl
  ·have h8:¬l.length<=8:=by
    intro h8
    simp only[Bool.and_eq_false_iff,decide_eq_false_iff_not]at hc
    omega
   refine⟨?_,H.mod⟩
   rw[decide_eq_false h8,Bool.and_false]
   congr 1
   exact decide_eq_false (by omega)
 ·rintro again w1 ⟨H,ho⟩
  refine ite_false (by rw[decide_eq_false (show ¬((l.length:Nat):Int)<((x.n:Nat):Int) by omega)];rfl) ⟨?_,H.mod⟩
  rw[ho,Bool.true_and]
  congr 1
  exact decide_eq_decide.2 (by omega)
theorem F5(x:ag)(l:List bu)(hl:l.length<=1000000)(w:World)(hx:fN w x l):Ok Pr XR [.slice x.a x.n x.c] w λv w'=>∃y:ag,v=.slice y.a y.n y.c/\Own w' w.heap.size cc 6 y (cw l)/\y.n=x.n/\Mod [] w w':=by
 refine aC Tryz.func79 ?_
 have aT:=hx.len
 refine aZ (λh=>?_) (λh=>?_)
 ·have h0:x.n=0:=by
   rcases Nat.eq_zero_or_pos x.n with e|e
   ·exact e
   ·have:=Sl.pre hx e
    cases ha:x.a with
    |none=>rw[ha]at this;cases this
    |some a=>rw[ha]at h;cases h
  obtain rfl:l=[]:=List.eq_nil_of_length_eq_zero (by omega)
  exact⟨⟨none,0,0⟩,rfl,Own.nil _ _ _ _,h0.symm,Mod.refl _ _⟩
 ·refine(ah.start w).nw λp w1 H _=>?_
  have H:=H.qI 0 6 0 0 rfl rfl (Nat.le_refl _) (by simp only[maxLen];omega)
  refine H.app (s:=⟨some ⟨p,0,none⟩,0,0⟩) (vs:=[]) 0 Ae rfl (hx.av H.mod) (B4 l) (by show(0+x.n)*48<=_;omega) (by show 0+x.n<=_;omega) λy w2 H hy=>?_
  exact⟨y,rfl,H.cm 0 rfl,by rw[hy];exact Nat.zero_add _,H.mod⟩
structure aR where
 n:Int
 st:Int
 due:Int
 ak:List B8
def vz:aR:=⟨0,0,0,[]⟩
def aR.cs(v:aR)(x:ag):List Value:=vu v.n v.st v.due x
theorem aR.bA(v:aR)(x:ag):(v.cs x).length=4:=rfl
def jb(w:World)(x:ag)(v:aR):Prop:=Bytes w x v.ak
theorem jb.av{w w':World}{x:ag}{v:aR}(m:Mod [] w w')(h:jb w x v):jb w' x v:=Bytes.av h m
def dD(w:World)(s:ag)(vs:List aR):Prop:=Dv aR.cs 4 jb w s vs
theorem dD.av{w w':World}{s:ag}{vs:List aR}(h:dD w s vs)(m:Mod [] w w'):dD w' s vs:=Dv.av (E:=jb) (λm h=>jb.av m h) h m
theorem dD.len{w:World}{s:ag}{vs:List aR}(h:dD w s vs):vs.length=s.n:=Dv.len aR.bA (by omega) h
structure aI where
 id:Int
 ten:Int
 set:Int
 ay:List aR
def kz:aI:=⟨0,0,0,[]⟩
def aI.cs(k:aI)(x:ag):List Value:=bY k.id k.ten k.set x
theorem aI.bA(k:aI)(x:ag):(k.cs x).length=4:=rfl
def e6(w:World)(x:ag)(v:aR):Prop:=Own w 0 aE 1 x (aG v.ak)
theorem e6.r{w:World}{x:ag}{v:aR}(h:e6 w x v):jb w x v:=Own.bytes h
theorem Tv{w:World}{xs:List ag}{vs:List aR}(h:aM e6 w xs vs):aM jb w xs vs:=⟨h.1,λi x v hx hv=>(h.2 i x v hx hv).r⟩
def fI(w:World)(s:ag)(vs:List aR):Prop:=∃ys,Own w 0 cR 4 s (aO aR.cs vs ys)/\aM e6 w ys vs
theorem fI.ay{w:World}{s:ag}{vs:List aR}(h:fI w s vs):dD w s vs:=by
 obtain⟨ys,h1,h2⟩:=h
 exact⟨ys,h1.sl,Tv h2⟩
def IQ(w w':World)(y:ag)(vs:List aR):Prop:=∃ys fp,ah w [] w' [.row cR 4 y (aO aR.cs vs ys),.box fp λw=>aM e6 w ys vs]
theorem IQ.box{w w':World}{y:ag}{vs:List aR}(h:IQ w w' y vs):dU w w' λw=>fI w y vs:=by
 obtain⟨ys,fp,H⟩:=h
 refine H.boxed λw' k=>⟨ys,k 0 _ rfl,?_⟩
 have h2:(aA.box fp λw=>aM e6 w ys vs).ok w':=k 1 _ rfl
 exact h2.2 w' λ_ _=>rfl
theorem Bt(c:Int)(hc:c≠0)(w:World):Ok Pr Gi [.int .i64 c] w λv w'=>cA w w' v c/\Mod [] w w':=by
 refine aC Tryz.func158 ?_
 exact qE λb w' hb h1 h2 _=>⟨cA.mk h1 (by omega) hc,h2⟩
theorem zH(n lo hi:Int)(w:World):Ok Pr af6 [.int .i64 n,.int .i64 lo,.int .i64 hi] w λv w'=>v=.bool (aF lo hi n)/\w'=w:=by
 refine aC Tryz.func127 ?_
 exact⟨rfl,rfl⟩
def gy(v:aR)(n:Int):Bool:=decide (v.n=n)&&(if v.st=3 then aF 1 1099511627776 v.due&&decide (v.ak.length=64) else if v.st=4 then decide (v.due=0)&&decide (v.ak.length=0) else if v.st=1\/v.st=2 then decide (v.due=0)&&decide (v.ak.length=64) else false)
theorem aet(v:aR)(x:ag)(n:Int)(w:World)(hx:jb w x v):Ok Pr aeN [.agg ⟨v.cs x⟩,.int .i64 n] w λr w'=>r=.bool (gy v n)/\Mod [] w w':=by
 refine aC Tryz.func128 (J:=[(10,[(5,.bool),(6,.bool)])]) (N:=[6]) ?_
 have aT:=Bytes.len hx
 refine(ah.start w).nw λp w1 H _=>?_
 have H:ah w [] w1.drew [.aj p (vu v.n v.st v.due x) cR]:=H.drew
 refine H.au 0 rfl (ai p 2) rfl (H.az 0 rfl (ai p 3) rfl (nD (vN λgo aV=>H.au 0 rfl (ai p 1) rfl ?_)))
 have fin:∀(d s:Bool),gy v n=(decide (v.n=n)&&(d&&s))->go d s w1.drew:=λd s e=>by
  refine aV _ _ _ (H.au 0 rfl (ai p 0) rfl ⟨?_,H.mod⟩)
  rw[e,Bool.and_assoc]
 have Ot:decide (((x.n:Nat):Int)=64)=decide (v.ak.length=64):=decide_eq_decide.2 (by omega)
 have e0:decide (((x.n:Nat):Int)=0)=decide (v.ak.length=0):=decide_eq_decide.2 (by omega)
 rw[Ot]
 refine aZ (λhc=>?_) (λhc=>?_)
 ·have hc:=of_decide_eq_true hc
  refine H.au 0 rfl (ai p 2) rfl (an (zH _ _ _ _) ?_)
  rintro _ w2 ⟨rfl,hw⟩
  subst hw
  exact aN (fin _ _ (by unfold gy;rw[if_pos hc]))
 ·have h3:=of_decide_eq_false hc
  refine aZ (λhc=>?_) (λhc=>?_)
  ·have hc:=of_decide_eq_true hc
   refine H.az 0 rfl (ai p 3) rfl (nD ?_)
   rw[e0]
   exact fin _ _ (by unfold gy;rw[if_neg h3,if_pos hc])
  ·have h4:=of_decide_eq_false hc
   have no:¬(v.st=1\/v.st=2)->gy v n=false:=λh=>by unfold gy;rw[if_neg h3,if_neg h4,if_neg h,Bool.and_false]
   refine aZ (λhc=>?_) (λhc=>?_)
   ·refine ite_true hc ?_
    have hc:=of_decide_eq_true hc
    exact fin _ _ (by unfold gy;rw[if_neg h3,if_neg h4,if_pos (.inl hc)])
   ·have h1:=of_decide_eq_false hc
    refine aZ (λhc=>?_) (λhc=>?_)
    ·have hc:=of_decide_eq_true hc
     exact fin _ _ (by unfold gy;rw[if_neg h3,if_neg h4,if_pos (.inr hc)])
    ·have h2:=of_decide_eq_false hc
     exact⟨by rw[no (λh=>h.elim h1 h2)],H.mod⟩
def nh(vs:List aR):Nat->Bool
 |0=>true
 |i+1=>nh vs i&&gy (vs.getD i vz) ((i:Int)+1)
theorem Mf{vs:List aR}{i:Nat}(h:gy (vs.getD i vz) ((i:Int)+1)=false):∀n,i<n->nh vs n=false
 |0,hn=>by omega
 |n+1,hn=>by
  show(nh vs n&&_)=false
  rcases Nat.lt_or_ge i n with h2|h2
  ·rw[Mf h n h2,Bool.false_and]
  ·rw[show n=i by omega,h,Bool.and_false]
def bK(k:aI):Bool:=aF 1 6 k.id&&(aF 1 8 k.ten&&(aF 1 3 k.set&&(aF 1 5 (k.ay.length:Int)&&nh k.ay k.ay.length)))
theorem xF(k:aI)(x:ag)(hl:k.ay.length<=1000000)(w:World)(hx:dD w x k.ay):Ok Pr aeJ [.agg ⟨k.cs x⟩] w λr w'=>r=.bool (bK k)/\Mod [] w w':=by
 refine aC Tryz.func72 (J:=[(3,[])]) (L:=[(4,[(31,.int .i64)])]) ?_
 have aT:=hx.len
 refine(ah.start w).nw λp w1 H _=>?_
 have H:ah w [] w1 [.aj p (bY k.id k.ten k.set x) aW]:=H
 refine gi λgo aV=>H.au 0 rfl (ai p 0) rfl (an (zH _ _ _ _) ?_)
 rintro _ w2 ⟨rfl,hw⟩
 subst hw
 refine aN (H.au 0 rfl (ai p 1) rfl ?_)
 unfold bK
 cases h1:aF 1 6 k.id with
 |false=>exact ite_true rfl (H.au 0 rfl (ai p 2) rfl (H.az 0 rfl (ai p 3) rfl ⟨rfl,H.mod⟩))
 |true=>
  refine ite_false rfl (an (zH _ _ _ _) ?_)
  rintro _ w2 ⟨rfl,hw⟩
  subst hw
  refine aN (H.au 0 rfl (ai p 2) rfl ?_)
  cases h2:aF 1 8 k.ten with
  |false=>exact ite_true rfl (H.az 0 rfl (ai p 3) rfl ⟨rfl,H.mod⟩)
  |true=>
   refine ite_false rfl (an (zH _ _ _ _) ?_)
   rintro _ w2 ⟨rfl,hw⟩
   subst hw
   refine aN (H.az 0 rfl (ai p 3) rfl ?_)
   cases h3:aF 1 3 k.set with
   |false=>exact ite_true rfl ⟨rfl,H.mod⟩
   |true=>
    refine ite_false rfl (an (zH _ _ _ _) ?_)
    rintro _ w2 ⟨rfl,hw⟩
    subst hw
    rw[show((x.n:Nat):Int)=(k.ay.length:Int) by omega]
    refine aN ?_
    cases h4:aF 1 5 (k.ay.length:Int)with
    |false=>exact ite_true rfl ⟨rfl,H.mod⟩
    |true=>
     have eK:bK k=nh k.ay k.ay.length:=by unfold bK;rw[h1,h2,h3,h4];rfl
     refine ite_false rfl (aV _ (H.az 0 rfl (ai p 3) rfl ?_))
     refine bG 0 k.ay.length (λi w'=>nh k.ay i=true/\Mod [] w w') rfl (by omega) ⟨rfl,H.mod⟩ ?_ ?_
     ·rintro again i w3 _ hi ⟨cI,m⟩ aB
      have ha:k.ay[i]? = some (k.ay.getD i vz):=by rw[List.getD_eq_getElem?_getD,List.getElem?_eq_getElem hi];rfl
      obtain⟨bF,y,hy,hc⟩:=Dv.at aR.bA (by omega) (hx.av m) ha
      have hs:nh k.ay (i+1)=(nh k.ay i&&gy (k.ay.getD i vz) ((i:Int)+1)):=rfl
      have cr:=Mf (vs:=k.ay) (i:=i)
      generalize k.ay.getD i vz=v at*
      have D:=ah.start w3
      refine ite_true (decide_eq_true (by omega)) ⟨bF,xp hc (D.nw λp2 w4 D _=>D.gU 0 rfl rfl λw5 D=>D.nj 0 rfl ⟨⟨by omega,by omega⟩,an (aet v y _ _ (jb.av D.mod hy)) ?_⟩)⟩
      ·rintro _ w6 ⟨rfl,m6⟩
       refine aN ?_
       cases hv:gy v ((i:Int)+1)with
       |false=>exact ite_true rfl ⟨by rw[eK,cr hv _ hi],m.trans (D.mod.trans m6)⟩
       |true=>exact ite_false rfl ⟨⟨by omega,by omega⟩,aB _ ⟨by rw[hs,cI,hv];rfl,m.trans (D.mod.trans m6)⟩⟩
     ·rintro again w3 ⟨cI,m⟩
      exact ite_false (decide_eq_false (by omega)) ⟨by rw[eK,cI],m⟩
theorem HD:ew Pr JK cR 4 48:=ew.of (by kernel_rfl)
theorem aR.jE(v:aR)(x:ag):∀u∈v.cs x,dQ u=true:=by
 intro u hu
 simp only[aR.cs,vu,List.mem_cons,List.not_mem_nil,or_false]at hu
 rcases hu with rfl|rfl|rfl|rfl<;>rfl
theorem O1(x:ag)(vs:List aR)(xs:List ag)(iQ:xs.length=vs.length)(hl:vs.length<=1000000)(w:World)(hx:Sl w x 4 (aO aR.cs vs xs)):Ok Pr XO [.slice x.a x.n x.c] w λv w'=>∃y:ag,v=.slice y.a y.n y.c/\Own w' w.heap.size cR 4 y (aO aR.cs vs xs)/\y.n=x.n/\Mod [] w w':=by
 refine aC Tryz.func80 ?_
 have aT:=hx.len
 rw[gw aR.bA vs xs iQ]at aT
 refine aZ (λh=>?_) (λh=>?_)
 ·have h0:x.n=0:=by
   rcases Nat.eq_zero_or_pos x.n with e|e
   ·exact e
   ·have:=Sl.pre hx e
    cases ha:x.a with
    |none=>rw[ha]at this;cases this
    |some a=>rw[ha]at h;cases h
  obtain rfl:vs=[]:=List.eq_nil_of_length_eq_zero (by omega)
  exact⟨⟨none,0,0⟩,rfl,Own.nil _ _ _ _,h0.symm,Mod.refl _ _⟩
 ·refine(ah.start w).nw λp w1 H _=>?_
  have H:=H.qI 0 4 0 0 rfl rfl (Nat.le_refl _) (by simp only[maxLen];omega)
  refine H.app (s:=⟨some ⟨p,0,none⟩,0,0⟩) (vs:=[]) 0 HD rfl (hx.av H.mod) (ug aR.jE vs xs) (by show(0+x.n)*48<=_;omega) (by show 0+x.n<=_;omega) λy w2 H hy=>?_
  exact⟨y,rfl,H.cm 0 rfl,by rw[hy];exact Nat.zero_add _,H.mod⟩
theorem kN:zc Pr aW=[.int .i64 0,.int .i64 0,.int .i64 0,.slice none 0 0]:=by kernel_rfl
theorem oA:zc Pr cR=[.int .i64 0,.int .i64 0,.int .i64 0,.slice none 0 0]:=by kernel_rfl
theorem Lp(a:aR)(x z:ag):a.cs z=(a.cs x).set 3 z.v:=rfl
theorem iN.Nl{w w':World}{v:Value}{l:List B8}(h:iN w w' v l):∃y:ag,v=.slice y.a y.n y.c/\dU w w' λw=>Own w 0 aE 1 y (aG l):=by
 obtain⟨y,rfl,hy,m⟩:=h
 exact⟨y,rfl,dU.yf hy m λw2 h=>h⟩
theorem GD(k:aI)(x:ag)(hl:k.ay.length<=1000)(hs:∀v∈k.ay,v.ak.length<=1000000)(w:World)(hx:dD w x k.ay):Ok Pr aeK [.agg ⟨k.cs x⟩] w λr w'=>∃y:ag,r=.agg ⟨k.cs y⟩/\IQ w w' y k.ay:=by
 refine aC Tryz.func81 (L:=[(3,[(11,.int .i64)])]) ?_
 rw[kN]
 have aT:=hx.len
 obtain⟨xs,bZ,bO⟩:=hx
 refine(ah.start w).nw λp w1 H _=>H.nw λp1 w2 H _=>?_
 have H:ah w [] w2 [.aj p (bY k.id k.ten k.set x) aW,.aj p1 [.int .i64 0,.int .i64 0,.int .i64 0,.slice none 0 0] aW]:=H
 refine H.az 0 rfl (ai p 3) rfl (an (O1 x k.ay xs bO.1 (by omega) _ (bZ.av H.mod)) ?_)
 rintro _ w3 ⟨y,rfl,hy,j3,m3⟩
 have H:=H.bg m3 hy
 refine aS (H.st 0 rfl (ai p 3) (by show 3<4;omega) rfl λw4 H=>H.az 0 rfl (ai p 3) rfl ?_)
 have H:ah w [] w4 ([.aj p (bY k.id k.ten k.set y) aW,.aj p1 [.int .i64 0,.int .i64 0,.int .i64 0,.slice none 0 0] aW]++[.row cR 4 y (aO aR.cs k.ay xs)]):=H
 refine bG 0 k.ay.length (λi w'=>gI aR.cs 4 e6 cR w [] [.aj p (bY k.id k.ten k.set y) aW,.aj p1 [.int .i64 0,.int .i64 0,.int .i64 0,.slice none 0 0] aW] w' y k.ay xs i) rfl (by omega) (gI.start H) ?_ ?_
 ·intro again i w5 _ hi R aB
  have R:=R.frame (Mod.drew [] w5)
  have ha:k.ay[i]? = some k.ay[i]:=List.getElem?_eq_getElem hi
  have cu:xs[i]? = some (xs[i]'(by rw[bO.1];exact hi)):=List.getElem?_eq_getElem _
  have fZ:=hs _ (List.getElem_mem hi)
  have tM:=bO.2 i _ _ cu ha
  obtain⟨bF,hc⟩:=R.at aR.bA (by omega) bO.1 ha cu
  generalize k.ay[i]=v at*
  generalize xs[i]'(by rw[bO.1];exact hi)=z at*
  have F:=R.front
  refine ite_true (decide_eq_true (by omega)) (F.az 0 rfl (ai p 3) rfl (F.az 0 rfl (ai p 3) rfl ⟨bF,z,hc 3 z.v rfl,an (Dj z v.ak fZ _ (Bytes.av tM F.mod)) ?_⟩))
  rintro _ w6 h6
  obtain⟨u,rfl,hu⟩:=h6.Nl
  refine aS ⟨F.jk 0 rfl hu.mod 3,bF,R.step aR.bA bO.1 ha cu (hu:dU _ _ λw=>e6 w u v) (by omega:3<4) (Lp v z u) λw7 R=>⟨⟨by omega,by omega⟩,aB w7 R⟩⟩
 ·intro again w5 R
  obtain⟨ys,fp,H⟩:=R.done rfl bO.1
  refine ite_false (decide_eq_false (by omega)) (H.bD 0 rfl (H.cO 1 rfl rfl λw8 H=>H.bD 1 rfl ⟨y,rfl,ys,fp,H.drop 2⟩))
theorem Qn(n:Int)(x:ag)(ak:List B8)(hs:ak.length<=1000000)(w:World)(hx:Bytes w x ak):Ok Pr acf [.int .i64 n,.slice x.a x.n x.c] w λr w'=>∃y:ag,r=.agg ⟨(aR.mk n 1 0 ak).cs y⟩/\dU w w' λw=>Own w 0 aE 1 y (aG ak):=by
 refine aC Tryz.func157 ?_
 rw[oA]
 refine(ah.start w).nw λp w1 H _=>an (Dj x ak hs _ (hx.av H.mod)) ?_
 rintro _ w2 ⟨y,rfl,hy,m2⟩
 have H:=H.bg m2 hy
 refine aS (H.gU 0 rfl rfl λw3 H=>H.nj 0 rfl ⟨y,rfl,?_⟩)
 exact H.boxed λw' h=>h 1 _ rfl
def mO(id ten set:Int)(ak:List B8):aI:=⟨id,ten,set,[⟨1,1,0,ak⟩]⟩
def jd(id ten set:Int)(ak:List B8):Int:=if bK (mO id ten set ak)=true then 0 else 2
def kY(id ten set:Int)(ak:List B8):aI:=if jd id ten set ak=0 then mO id ten set ak else kz
def Cs(w w':World)(v:Value)(k:aI)(c:Int):Prop:=∃(y:ag) (er:Value),v=.tuple ⟨[.agg ⟨k.cs y⟩,er]⟩/\(dU w w' λw=>fI w y k.ay)/\cA w w' er c
theorem sL{w w':World}{Q:World->Prop}(m:Mod [] w w')(h:∀w,Q w):dU w w' Q:=((ah.start w).frame m).boxed λw' _=>h w'
theorem dD.one{w:World}{p:Nat}{y:ag}{v:aR}{t:TypeId}(h:bp w p (v.cs y) t)(hy:jb w y v):dD w ⟨some ⟨p,0,none⟩,1,1⟩ [v]:=by
 refine⟨[y],?_,rfl,λi x l hx hl=>?_⟩
 ·have:=h.sl 4 1 1 (by rw[aR.bA];decide) (by omega)
  rw[sJ]
  simpa[aR.cs,vu]using this
 ·cases i with
  |zero=>
   simp only[List.getElem?_cons_zero,Option.some.injEq]at hx hl
   subst hx hl;exact hy
  |succ i=>simp at hx
theorem fI.nil(w:World):fI w ⟨none,0,0⟩ []:=⟨[],Own.nil w 0 cR 4,rfl,λi x l h=>by simp at h⟩
theorem fI.one{w:World}{p:Nat}{y:ag}{v:aR}(h:bp w p (v.cs y) cR)(hy:e6 w y v):fI w ⟨some ⟨p,0,none⟩,1,1⟩ [v]:=by
 refine⟨[y],?_,rfl,λi x l hx hl=>?_⟩
 ·have:=h.own 4 1 1 (by rw[aR.bA]) (by omega) (by simp only[maxLen];omega)
  rw[sJ]
  exact this
 ·cases i with
  |zero=>
   simp only[List.getElem?_cons_zero,Option.some.injEq]at hx hl
   subst hx hl;exact hy
  |succ i=>simp at hx
theorem Ri(id ten set:Int)(x:ag)(ak:List B8)(hs:ak.length<=1000000)(w:World)(hx:Bytes w x ak):Ok Pr aeL [.int .i64 id,.int .i64 ten,.int .i64 set,.slice x.a x.n x.c] w λr w'=>Cs w w' r (kY id ten set ak) (jd id ten set ak):=by
 refine aC Tryz.func112 ?_
 rw[kN]
 have hC:jd id ten set ak=if bK (mO id ten set ak)=true then 0 else 2:=rfl
 have hR:kY id ten set ak=if jd id ten set ak=0 then mO id ten set ak else kz:=rfl
 generalize jd id ten set ak=C at*
 generalize kY id ten set ak=R at*
 refine(ah.start w).nw λp w1 H _=>an (Qn 1 x ak hs _ (hx.av H.mod)) ?_
 rintro _ w2 ⟨y,rfl,hy⟩
 obtain⟨fp,H⟩:=H.dz hy
 refine om (H.nw λp1 w3 H _=>H.nw λp2 w4 H _=>H.cO 3 rfl rfl λw5 H=>H.bD 3 rfl ?_)
 have H:ah w [] w5 [.aj p [.int .i64 0,.int .i64 0,.int .i64 0,.slice none 0 0] aW,.box fp λw=>Own w 0 aE 1 y (aG ak),.aj p1 ((aR.mk 1 1 0 ak).cs y) cR,.aj p2 (bY id ten set ⟨some ⟨p1,0,none⟩,1,1⟩) aW]:=H
 refine an (xF (mO id ten set ak) ⟨some ⟨p1,0,none⟩,1,1⟩ (by show 1<=1000000;omega) _ (dD.one (H.aj 2 rfl) (e6.r (v:=⟨1,1,0,ak⟩) (H.box 1 rfl)))) ?_
 rintro _ w6 ⟨rfl,m6⟩
 have H:=H.frame m6
 refine aN ?_
 cases hm:bK (mO id ten set ak)with
 |false=>
  rw[hm,if_neg (by decide)]at hC
  rw[hC,if_neg (by decide)]at hR
  subst hR
  rw[hC]
  refine ite_true rfl (an (Bt 2 (by decide) w6) ?_)
  rintro e w7 ⟨h,m7⟩
  have H:=H.gW m7 h
  refine H.cO 0 rfl rfl λw8 H=>H.bD 0 rfl ⟨⟨none,0,0⟩,e,rfl,sL H.mod λw=>fI.nil w,?_⟩
  exact⟨H.ok 4 _ rfl,λb hb=>(H.own 4 _ rfl b hb).resolve_left (by simp)⟩
 |true=>
  rw[hm,if_pos rfl]at hC
  rw[hC,if_pos rfl]at hR
  subst hR
  rw[hC]
  refine ite_false rfl (H.bD 3 rfl (H.cO 0 rfl rfl λw8 H=>H.bD 0 rfl ⟨⟨some ⟨p1,0,none⟩,1,1⟩,.nilIface,rfl,?_,rH _ _⟩))
  refine H.boxed λw' h=>fI.one (h 2 _ rfl) ?_
  have h2:(aA.box fp λw=>Own w 0 aE 1 y (aG ak)).ok w':=h 1 _ rfl
  exact h2.2 w' λ_ _=>rfl
theorem U9{vs:List aR}:∀n,nh vs n=true->∀i,i<n->gy (vs.getD i vz) ((i:Int)+1)=true
 |0,_,i,hi=>by omega
 |n+1,h,i,hi=>by
  change (nh vs n&&gy (vs.getD n vz) ((n:Int)+1))=true at h
  rw[Bool.and_eq_true]at h
  rcases Nat.lt_or_ge i n with h2|h2
  ·exact U9 n h.1 i h2
  ·rw[show i=n by omega];exact h.2
theorem Cd{v:aR}{n:Int}(h:gy v n=true):v.n=n/\1<=v.st/\v.st<=4/\(v.st=4->v.ak.length=0)/\(v.st≠4->v.ak.length=64)/\(v.st≠3->v.due=0)/\(v.st=3->1<=v.due/\v.due<=1099511627776):=by
 unfold gy at h
 rw[Bool.and_eq_true,decide_eq_true_eq]at h
 obtain⟨h1,h2⟩:=h
 refine⟨h1,?_⟩
 split at h2
 ·rename_i h3
  unfold aF at h2
  simp only[Bool.and_eq_true,decide_eq_true_eq]at h2
  exact⟨by omega,by omega,λh=>by omega,λ_=>h2.2,λh=>absurd h3 h,λ_=>h2.1⟩
 ·rename_i h3
  split at h2
  ·rename_i h4
   simp only[Bool.and_eq_true,decide_eq_true_eq]at h2
   exact⟨by omega,by omega,λ_=>h2.2,λh=>absurd h4 h,λ_=>h2.1,λh=>absurd h h3⟩
  ·rename_i h4
   split at h2
   ·rename_i h5
    simp only[Bool.and_eq_true,decide_eq_true_eq]at h2
    exact⟨by omega,by omega,λh=>absurd h h4,λ_=>h2.2,λ_=>h2.1,λh=>absurd h h3⟩
   ·cases h2
theorem rE{k:aI}(h:bK k=true):(1<=k.id/\k.id<=6)/\(1<=k.ten/\k.ten<=8)/\(1<=k.set/\k.set<=3)/\(1<=k.ay.length/\k.ay.length<=5)/\∀i,i<k.ay.length->gy (k.ay.getD i vz) ((i:Int)+1)=true:=by
 unfold bK aF at h
 simp only[Bool.and_eq_true,decide_eq_true_eq]at h
 obtain⟨h1,h2,h3,h4,h5⟩:=h
 exact⟨h1,h2,h3,⟨by omega,by omega⟩,U9 _ h5⟩
theorem Tw{k:aI}(h:bK k=true):isSet k.set=true:=by
 obtain⟨_,_,h3,_⟩:=rE h
 unfold isSet
 have:k.set=1\/k.set=2\/k.set=3:=by omega
 rcases this with e|e|e<;>rw[e]<;>rfl
theorem xN{k:aI}(h:bK k=true):k.ay.length<=1000/\∀v∈k.ay,v.ak.length<=64:=by
 obtain⟨_,_,_,h4,h5⟩:=rE h
 refine⟨by omega,λv hv=>?_⟩
 obtain⟨i,hi,rfl⟩:=List.getElem_of_mem hv
 have:=h5 i hi
 rw[List.getD_eq_getElem?_getD,List.getElem?_eq_getElem hi]at this
 change gy k.ay[i] _=true at this
 obtain⟨_,_,_,h6,h7,_⟩:=Cd this
 by_cases h:(k.ay[i]).st=4
 ·have:=h6 h;omega
 ·have:=h7 h;omega
def di(k:aI)(n:Int):Option aR:=if (bK k&&aF 1 (k.ay.length:Int) n)=true then some (k.ay.getD (n - 1).toNat vz) else none
def Ep(w w':World)(v:Value)(o:Option aR):Prop:=∃y:ag,v=.tuple ⟨[.agg ⟨(o.getD vz).cs y⟩,.bool o.isSome]⟩/\dU w w' λw=>jb w y (o.getD vz)
theorem HE(w:World):jb w ⟨none,0,0⟩ vz:=Sl.nil w 1
theorem BK{k:aI}{n:Int}{v:aR}(h:di k n=some v):bK k=true/\1<=n/\n<=k.ay.length/\v=k.ay.getD (n - 1).toNat vz/\gy v n=true:=by
 unfold di at h
 split at h
 ·rename_i hc
  rw[Bool.and_eq_true]at hc
  obtain⟨h1,h2⟩:=hc
  unfold aF at h2
  simp only[Bool.and_eq_true,decide_eq_true_eq]at h2
  have e:v=k.ay.getD (n - 1).toNat vz:=(Option.some.inj h).symm
  refine⟨h1,h2.1,h2.2,e,?_⟩
  obtain⟨_,_,_,_,h5⟩:=rE h1
  have:=h5 (n - 1).toNat (by omega)
  rw[<- e,show(((n - 1).toNat:Nat):Int)+1=n by omega]at this
  exact this
 ·cases h
theorem Dw(k:aI)(x:ag)(n:Int)(hl:k.ay.length<=1000000)(w:World)(hx:dD w x k.ay):Ok Pr adf [.agg ⟨k.cs x⟩,.int .i64 n] w λr w'=>Ep w w' r (di k n):=by
 refine aC Tryz.func107 (J:=[(3,[]),(2,[(16,.bool)])]) ?_
 rw[oA]
 have aT:=hx.len
 refine(ah.start w).nw λp w1 H _=>H.nw λp1 w2 H _=>?_
 have H:ah w [] w2 [.aj p (bY k.id k.ten k.set x) aW,.aj p1 [.int .i64 0,.int .i64 0,.int .i64 0,.slice none 0 0] cR]:=H
 refine gi λgo aV=>fo λgB fu=>H.bD 0 rfl (an (xF k x hl _ (hx.av H.mod)) ?_)
 rintro _ w3 ⟨rfl,m3⟩
 have H:=H.frame m3
 have no:∀w4,ah w [] w4 [.aj p (bY k.id k.ten k.set x) aW,.aj p1 [.int .i64 0,.int .i64 0,.int .i64 0,.slice none 0 0] cR]->di k n=none->gB true w4:=λw4 H e=>by
  refine fu _ _ (ite_true rfl (H.gU 1 rfl rfl λw5 H=>H.nj 1 rfl ?_))
  rw[e]
  exact⟨⟨none,0,0⟩,rfl,sL H.mod λw=>HE w⟩
 refine aN (H.az 0 rfl (ai p 3) rfl ?_)
 cases hm:bK k with
 |false=>exact ite_true rfl (no _ H (by unfold di;rw[hm];rfl))
 |true=>
  refine ite_false rfl (an (zH _ _ _ _) ?_)
  rintro _ w4 ⟨rfl,hw⟩
  subst hw
  rw[show((x.n:Nat):Int)=(k.ay.length:Int) by omega]
  refine aN ?_
  cases hi:aF 1 (k.ay.length:Int) n with
  |false=>exact no _ H (by unfold di;rw[hm,hi];rfl)
  |true=>
   have e:di k n=some (k.ay.getD (n - 1).toNat vz):=by unfold di;rw[hm,hi];rfl
   unfold aF at hi
   simp only[Bool.and_eq_true,decide_eq_true_eq]at hi
   obtain⟨h1,h2⟩:=xN hm
   refine fu _ _ (ite_false rfl (aV _ (H.bD 0 rfl (an (GD k x (by omega) (λv hv=>Nat.le_trans (h2 v hv) (by omega)) _ (hx.av H.mod)) ?_))))
   rintro _ w5 ⟨y,rfl,hy⟩
   have hb:=hy.box
   refine jz ⟨⟨by omega,by omega⟩,?_⟩
   obtain⟨j,hj⟩:∃j:Nat,n - 1=(j:Int):=⟨(n - 1).toNat,by omega⟩
   rw[e]
   rw[hj]at e⊢
   rw[Int.toNat_natCast]at e⊢
   have ha:k.ay[j]? = some (k.ay.getD j vz):=by rw[List.getD_eq_getElem?_getD,List.getElem?_eq_getElem (by omega)];rfl
   obtain⟨ys,fp,D⟩:=hy
   have hv:dD w5 y k.ay:=hb.now.ay
   obtain⟨bF,z,hz,hc⟩:=Dv.at aR.bA (by omega) hv ha
   generalize k.ay.getD j vz=v at*
   have gb:=hb.now.ay.len
   have tN:∃u,ys[j]? = some u:=by
    have hE:aM e6 w5 ys k.ay:=D.box 1 rfl
    exact⟨_,List.getElem?_eq_getElem (by rw[hE.1];omega)⟩
   obtain⟨u,hu⟩:=tN
   have Ou:∀(q:Nat) (t:Value),(v.cs u)[q]? = some t->w5.cell? (Addr.add (Addr.add (base y.a) (j*4)) q)=some t:=λq t ht=>(D.cG 0 rfl).oH aR.bA ha hu ht
   have H:=H.join D
   refine⟨bF,?_⟩
   refine xp Ou (H.gU 1 rfl rfl λw6 H=>H.nj 1 rfl ⟨u,rfl,?_⟩)
   refine H.boxed λw' h=>?_
   have h2:(aA.box fp λw=>aM e6 w ys k.ay).ok w':=h 3 _ rfl
   exact((h2.2 w' λ_ _=>rfl).2 j u v hu ha).r
def iT(op st:Int):Option Int:=if op=5 then (if st=2 then some 1 else none) else if op=7 then (if st=1\/st=2 then some 3 else none) else if op=6 then (if st=1 then some 2 else none) else if op=8 then (if st=3 then some 2 else none) else none
theorem acL(op st:Int)(w:World):Ok Pr ado [.int .i64 op,.int .i64 st] w λv w'=>∃z:Int,v=.tuple ⟨[.int .i64 z,.bool (iT op st).isSome]⟩/\(∀s,iT op st=some s->z=s)/\w'=w:=by
 refine aC Tryz.func168 (J:=[(11,[(1,.int .i64)])]) ?_
 refine fo λgo aV=>?_
 unfold iT
 refine aZ (λhc=>?_) (λhc=>?_)
 ·have hc:=of_decide_eq_true hc
  rw[if_pos hc]
  by_cases h:st=2
  ·rw[if_pos h,decide_eq_true h];exact⟨1,rfl,λs h=>Option.some.inj h,rfl⟩
  ·rw[if_neg h,decide_eq_false h];exact⟨1,rfl,λs h=>(by cases h),rfl⟩
 ·have hc:=of_decide_eq_false hc
  rw[if_neg hc]
  refine aZ (λhd=>?_) (λhd=>?_)
  ·have hd:=of_decide_eq_true hd
   rw[if_pos hd]
   refine aZ (λh=>?_) (λh=>?_)
   ·have h:st=1\/st=2:=by simpa using h
    rw[if_pos h];exact⟨3,rfl,λs h=>Option.some.inj h,rfl⟩
   ·have h:¬(st=1\/st=2):=by simpa using h
    rw[if_neg h];exact⟨0,rfl,λs h=>(by cases h),rfl⟩
  ·have hd:=of_decide_eq_false hd
   rw[if_neg hd]
   refine aZ (λhe=>?_) (λhe=>?_)
   ·have he:=of_decide_eq_true he
    rw[if_pos he]
    by_cases h:st=1
    ·have e:iT op st=some 2:=by unfold iT;rw[if_neg hc,if_neg hd,if_pos he,if_pos h]
     exact ite_false (by rw[decide_eq_true h];rfl) (aV _ _ ⟨2,by rw[e];rfl,λs h=>by rw[e]at h;exact Option.some.inj h,rfl⟩)
    ·rw[if_neg h]
     exact ite_true (by rw[decide_eq_false h];rfl) ⟨0,rfl,λs h=>(by cases h),rfl⟩
   ·have he:=of_decide_eq_false he
    rw[if_neg he]
    refine aZ (λhf=>?_) (λhf=>?_)
    ·have hf:=of_decide_eq_true hf
     refine aV _ _ ?_
     by_cases h:st=3
     ·have e:iT op st=some 2:=by unfold iT;rw[if_neg hc,if_neg hd,if_neg he,if_pos hf,if_pos h]
      rw[e,decide_eq_true h];exact⟨2,rfl,λs h=>Option.some.inj h,rfl⟩
     ·have e:iT op st=none:=by unfold iT;rw[if_neg hc,if_neg hd,if_neg he,if_pos hf,if_neg h]
      rw[e,decide_eq_false h];exact⟨2,rfl,λs h=>(by cases h),rfl⟩
    ·have hf:=of_decide_eq_false hf
     rw[if_neg hf];exact⟨0,rfl,λs h=>(by cases h),rfl⟩
end Go.Proofs.YtgjoehgomjgckaaGreatDoor
end
section
set_option linter.unusedVariables false
set_option linter.unusedSimpArgs false
namespace Go.Ev
open Go Go.RowKit
theorem ah.D9{w0 w:World}{S:List Nat}{L:List aA}(H:ah w0 S w L)(k:Nat){fp:List Nat}{Q Q':World->Prop}(hk:L[k]? = some (.box fp Q))(h:∀w,Q w->Q' w):ah w0 S w (L.set k (.box fp Q')):=
 H.less k hk (by
  have h2:(aA.box fp Q).ok w:=H.ok k _ hk
  exact⟨h2.1,λw' hw=>h w' (h2.2 w' hw)⟩) λb hb=>hb
end Go.Ev
namespace Go.Proofs.YtgjoehgomjgckaaGreatDoor
open Go Go.Ev
set_option maxRecDepth 20000
set_option linter.unusedVariables false
def kZ(k:aI)(n:Nat):Int:=if bK k=true then (if n=64 then (if k.ay.length=5 then 12 else 0) else 3) else 2
def fK(k:aI)(ak:List B8):aI:=if kZ k ak.length=0 then ⟨k.id,k.ten,k.set,k.ay++[⟨(k.ay.length:Int)+1,1,0,ak⟩]⟩ else kz
theorem Wg{w w7:World}{p1:Nat}{L:List aA}{K:Nat}{e:Value}{c:Int}{t:TypeId}{cs:List Value}(H:ah w [] w7 L)(hK:L[K]? = some (.aj p1 cs t))(fY:cs.length=4){w8:World}(h:cA w7 w8 e c)(m:Mod [] w7 w8):
  cO ⟨p1,0,none⟩ 0 0 0 ⟨none,0,0⟩ w8 λw8=>bD ⟨p1,0,none⟩ w8 λa b c' d=>Cs w w8 (.tuple ⟨[.agg ⟨[.int .i64 a,.int .i64 b,.int .i64 c',.slice d.a d.n d.c]⟩,e]⟩) kz c:=by
 have hKl:K<L.length:=(List.getElem?_eq_some_iff.1 hK).1
 have H:=H.gW m h
 refine H.cO K (by rw[List.getElem?_append_left hKl];exact hK) fY λw9 H=>?_
 have hg:((L++[aA.err e c]).set K (.aj p1 (bY 0 0 0 ⟨none,0,0⟩) t))[K]? = some (.aj p1 (bY 0 0 0 ⟨none,0,0⟩) t):=by
  rw[List.getElem?_set,if_pos rfl,if_pos (by simp;omega)]
 have he:((L++[aA.err e c]).set K (.aj p1 (bY 0 0 0 ⟨none,0,0⟩) t))[L.length]? = some (aA.err e c):=by
  rw[List.getElem?_set,if_neg (by omega),List.getElem?_append_right (Nat.le_refl _),Nat.sub_self];rfl
 refine H.bD K hg ⟨⟨none,0,0⟩,e,rfl,sL H.mod λw=>fI.nil w,?_⟩
 exact⟨H.ok L.length _ he,λb hb=>(H.own L.length _ he b hb).resolve_left (by simp)⟩
theorem aav(k:aI)(x xs:ag)(ak:List B8)(hl:k.ay.length<=1000000)(w:World)(hx:dD w x k.ay)(hs:Bytes w xs ak):Ok Pr aaZ [.agg ⟨k.cs x⟩,.slice xs.a xs.n xs.c] w λr w'=>Cs w w' r (fK k ak) (kZ k ak.length):=by
 refine aC Tryz.func119 ?_
 rw[kN]
 have aT:=hx.len
 have bZ:=hs.len
 have hC:kZ k ak.length=if bK k=true then (if ak.length=64 then (if k.ay.length=5 then 12 else 0) else 3) else 2:=rfl
 have hR:fK k ak=if kZ k ak.length=0 then ⟨k.id,k.ten,k.set,k.ay++[⟨(k.ay.length:Int)+1,1,0,ak⟩]⟩ else kz:=rfl
 generalize kZ k ak.length=C at*
 generalize fK k ak=R at*
 refine(ah.start w).nw λp w1 H _=>H.nw λp1 w2 H _=>?_
 have H:ah w [] w2 [.aj p (bY k.id k.ten k.set x) aW,.aj p1 [.int .i64 0,.int .i64 0,.int .i64 0,.slice none 0 0] aW]:=H
 refine H.bD 0 rfl (an (xF k x hl _ (hx.av H.mod)) ?_)
 rintro _ w3 ⟨rfl,m3⟩
 have H:=H.frame m3
 have no:∀c:Int,c≠0->C=c->ek Pr Gi [.int .i64 c] w3 λv w4=>cO ⟨p1,0,none⟩ 0 0 0 ⟨none,0,0⟩ w4 λw8=>bD ⟨p1,0,none⟩ w8 λa b c' d=>Cs w w8 (.tuple ⟨[.agg ⟨[.int .i64 a,.int .i64 b,.int .i64 c',.slice d.a d.n d.c]⟩,v]⟩) R C:=by
  intro c hc cX
  rw[cX,if_neg hc]at hR
  subst hR
  rw[cX]
  refine an (Bt c hc w3) ?_
  rintro e w4 ⟨h,m⟩
  exact Wg H (K:=1) rfl rfl h m
 refine aN ?_
 cases hm:bK k with
 |false=>
  rw[hm,if_neg (by decide)]at hC
  exact ite_true rfl (no 2 (by decide) hC)
 |true=>
  rw[hm,if_pos rfl]at hC
  refine ite_false rfl ?_
  by_cases dX:ak.length=64
  case neg=>
   rw[if_neg dX]at hC
   exact ite_true (by rw[decide_eq_false (show ¬((xs.n:Nat):Int)=64 by omega)];rfl) (no 3 (by decide) hC)
  rw[if_pos dX]at hC
  refine ite_false (by rw[decide_eq_true (show((xs.n:Nat):Int)=64 by omega)];rfl) (H.az 0 rfl (ai p 3) rfl ?_)
  by_cases h5:k.ay.length=5
  case pos=>
   rw[if_pos h5]at hC
   exact ite_true (decide_eq_true (by omega)) (no 12 (by decide) hC)
  rw[if_neg h5]at hC
  rw[hC,if_pos rfl]at hR
  subst hR
  rw[hC]
  obtain⟨h1,h2⟩:=xN hm
  refine ite_false (decide_eq_false (by omega)) (H.bD 0 rfl (an (GD k x (by omega) (λv hv=>Nat.le_trans (h2 v hv) (by omega)) _ (hx.av H.mod)) ?_))
  rintro _ w4 ⟨y,rfl,hy⟩
  have gb:=hy.box.now.ay.len
  obtain⟨ys,fp,D⟩:=hy
  have hE:aM e6 w4 ys k.ay:=D.box 1 rfl
  have H:=H.join D
  refine jz (H.cO 0 rfl rfl λw5 H=>?_)
  have H:ah w [] w5.drew [.aj p (bY k.id k.ten k.set y) aW,.aj p1 [.int .i64 0,.int .i64 0,.int .i64 0,.slice none 0 0] aW,.row cR 4 y (aO aR.cs k.ay ys),.box fp λw=>aM e6 w ys k.ay]:=H.drew
  refine H.az 0 rfl (ai p 3) rfl (H.az 0 rfl (ai p 3) rfl ⟨⟨by omega,by omega⟩,an (Qn _ xs ak (by omega) _ (hs.av H.mod)) ?_⟩)
  rintro _ w6 ⟨u,rfl,hu⟩
  obtain⟨f2,H1⟩:=H.dz hu
  refine om ⟨H.jk 0 rfl hu.mod 3,H1.nw λp2 w7 H2 _=>⟨gm (H1.aj 0 rfl) (H2.aj 0 rfl) (fS _ _),?_⟩⟩
  rw[show((y.n:Nat):Int)+1=(k.ay.length:Int)+1 by omega]at H2
  have gZ:bp w7 p2 ((aR.mk ((k.ay.length:Int)+1) 1 0 ak).cs u) cR:=H2.aj 5 rfl
  have bZ:=gZ.sl 4 1 1 (by rw[aR.bA];decide) (by omega)
  rw[show((aR.mk ((k.ay.length:Int)+1) 1 0 ak).cs u).take (1*4)=(aR.mk ((k.ay.length:Int)+1) 1 0 ak).cs u from rfl]at bZ
  refine H2.app (x:=⟨some ⟨p2,0,none⟩,1,1⟩) 2 HD rfl bZ (aR.jE _ _) (by show(y.n+1)*48<=_;omega) (by show y.n+1<=_;omega) λy' w8 H3 _=>?_
  refine H3.st 0 rfl (ai p 3) (by show 3<4;omega) rfl λw9 H4=>?_
  have H4:ah w [] w9 [.aj p (bY k.id k.ten k.set y') aW,.aj p1 [.int .i64 0,.int .i64 0,.int .i64 0,.slice none 0 0] aW,.row cR 4 y' (aO aR.cs k.ay ys++(aR.mk ((k.ay.length:Int)+1) 1 0 ak).cs u),.box fp λw=>aM e6 w ys k.ay,.box f2 λw=>Own w 0 aE 1 u (aG ak),.aj p2 ((aR.mk ((k.ay.length:Int)+1) 1 0 ak).cs u) cR]:=H4
  refine H4.bD 0 rfl (H4.cO 1 rfl rfl λbP H5=>H5.bD 1 rfl ⟨y',.nilIface,rfl,?_,rH _ _⟩)
  refine H5.boxed λw' h=>⟨ys++[u],?_,?_⟩
  ·rw[vG _ _ hE.1,sJ]
   exact h 2 _ rfl
  ·have h3:(aA.box fp λw=>aM e6 w ys k.ay).ok w':=h 3 _ rfl
   have h4:(aA.box f2 λw=>Own w 0 aE 1 u (aG ak)).ok w':=h 4 _ rfl
   exact aM.snoc (h3.2 w' λ_ _=>rfl) (h4.2 w' λ_ _=>rfl)
def uH(vs:List aR):Nat->Option aR
 |0=>none
 |n+1=>if (vs.getD n vz).st=1 then some (vs.getD n vz) else uH vs n
def fW(k:aI):Option aR:=if bK k=true then uH k.ay k.ay.length else none
theorem ZL(k:aI)(x:ag)(hl:k.ay.length<=1000000)(w:World)(hx:dD w x k.ay):Ok Pr Z9 [.agg ⟨k.cs x⟩] w λr w'=>Ep w w' r (fW k):=by
 refine aC Tryz.func163 (L:=[(2,[(4,.int .i64)])]) ?_
 rw[oA]
 have aT:=hx.len
 refine(ah.start w).nw λp w1 H _=>H.nw λp1 w2 H _=>?_
 have H:ah w [] w2 [.aj p (bY k.id k.ten k.set x) aW,.aj p1 [.int .i64 0,.int .i64 0,.int .i64 0,.slice none 0 0] cR]:=H
 refine H.az 0 rfl (ai p 3) rfl ?_
 refine qA (λ(n:Int) w'=>∃j:Nat,n=(j:Int)/\j<=k.ay.length/\(bK k=true->uH k.ay j=fW k)/\ah w [] w' [.aj p (bY k.id k.ten k.set x) aW,.aj p1 [.int .i64 0,.int .i64 0,.int .i64 0,.slice none 0 0] cR]) (λn _=>n.toNat)
  ⟨k.ay.length,by omega,Nat.le_refl _,λh=>by unfold fW;rw[if_pos h],H⟩ ?_
 rintro again _ w3 ⟨j,rfl,hj,qN,H⟩ aB
 refine aZ (λhc=>?_) (λhc=>?_)
 ·have hc:=of_decide_eq_true hc
  obtain⟨i,rfl⟩:∃i,j=i+1:=⟨j - 1,by omega⟩
  have back:∀w6,ah w [] w6 [.aj p (bY k.id k.ten k.set x) aW,.aj p1 [.int .i64 0,.int .i64 0,.int .i64 0,.slice none 0 0] cR]->(bK k=true->uH k.ay i=fW k)->cv (((i+1:Nat):Int) - 1)/\again (((i+1:Nat):Int) - 1) w6:=λw6 H h=>by
   refine⟨⟨by omega,by omega⟩,?_⟩
   rw[show((i+1:Nat):Int) - 1=(i:Int) by omega]
   exact aB _ w6 ⟨i,rfl,by omega,h,H⟩ (by omega)
  refine H.bD 0 rfl (an (Dw k x ((i+1:Nat):Int) hl _ (hx.av H.mod)) ?_)
  rintro _ w4 ⟨y,rfl,hy⟩
  obtain⟨f,H1⟩:=H.dz hy
  have oZ:(bK k=true->uH k.ay (i+1)=fW k):=qN
  refine⟨_,rfl,om ⟨_,rfl,rfl,H1.nw λp2 w5 H2 _=>H2.gU 3 rfl rfl λw6 H2=>H2.au 3 rfl (ai p2 1) rfl ?_⟩⟩
  cases hf:di k ((i+1:Nat):Int)with
  |none=>
   refine ite_false rfl (back w6 (H2.take 2) λh=>?_)
   unfold di aF at hf
   rw[h,if_pos (by simp;omega)]at hf
   cases hf
  |some v=>
   obtain⟨h1,h2,h3,h4,h5⟩:=BK hf
   rw[show(((i+1:Nat):Int) - 1).toNat=i by omega]at h4
   have hs:=oZ h1
   change (if (k.ay.getD i vz).st=1 then some (k.ay.getD i vz) else uH k.ay i)=fW k at hs
   rw[<- h4]at hs
   rw[hf]at hy H2
   by_cases h:v.st=1
   ·rw[if_pos h]at hs
    rw[<- hs]
    refine ite_true (by show(true&&decide (v.st=1))=true;rw[decide_eq_true h];rfl) (H2.nj 3 rfl (H2.gU 1 rfl rfl λw7 H=>H.nj 1 rfl ⟨y,rfl,?_⟩))
    refine H.boxed λw' hh=>?_
    have h2:(aA.box f λw=>jb w y ((some v).getD vz)).ok w':=hh 2 _ rfl
    exact h2.2 w' λ_ _=>rfl
   ·rw[if_neg h]at hs
    exact ite_false (by show(true&&decide (v.st=1))=false;rw[decide_eq_false h];rfl) (back w6 (H2.take 2) λ_=>hs)
 ·have hc:=of_decide_eq_false hc
  obtain rfl:j=0:=by omega
  have e:fW k=none:=by
   by_cases h:bK k=true
   ·exact(qN h).symm
   ·unfold fW;rw[if_neg h]
  rw[e]
  exact H.gU 1 rfl rfl λw8 H=>H.nj 1 rfl ⟨⟨none,0,0⟩,rfl,sL H.mod λw=>HE w⟩
end Go.Proofs.YtgjoehgomjgckaaGreatDoor
end
section
set_option linter.unusedVariables false
set_option linter.unusedSimpArgs false
namespace Go.Proofs.YtgjoehgomjgckaaGreatDoor
open Go Go.Ev
set_option maxRecDepth 20000
set_option linter.unusedVariables false
theorem vA{A:Type}{l:List A}{i:Nat}{a:A}(h:l[i]? = some a):l.set i a=l:=by
 refine List.ext_getElem? λk=>?_
 rw[List.getElem?_set]
 by_cases e:i=k
 ·subst e;rw[if_pos rfl,if_pos (List.getElem?_eq_some_iff.1 h).1,h]
 ·rw[if_neg e]
theorem aM.put{A:Type}{E:World->ag->A->Prop}{w:World}{xs:List ag}{ls:List A}(h:aM E w xs ls){i:Nat}{x:ag}{a:A}(hE:E w x a):aM E w (xs.set i x) (ls.set i a):=by
 refine⟨by rw[List.length_set,List.length_set];exact h.1,λj y b hy hb=>?_⟩
 rw[List.getElem?_set]at hy hb
 by_cases e:i=j
 ·subst e
  rw[if_pos rfl]at hy hb
  split at hy
  ·split at hb
   ·cases hy;cases hb;exact hE
   ·cases hb
  ·cases hy
 ·rw[if_neg e]at hy hb
  exact h.2 j y b hy hb
def qg(k:aI)(op aJ bU clock:Int):Int:=
 if bK k=true/\5<=op/\op<=8 then (match di k aJ with
  |none=>9
  |some v=>match iT op v.st with
   |none=>11
   |some _=>if op=7/\(bU<=clock\/aF 1 1099511627776 bU=false) then 2 else 0) else 2
def yg(k:aI)(op aJ bU:Int):aR:=⟨(k.ay.getD (aJ - 1).toNat vz).n,(iT op (k.ay.getD (aJ - 1).toNat vz).st).getD 0,if op=7 then bU else 0,(k.ay.getD (aJ - 1).toNat vz).ak⟩
def mc(k:aI)(op aJ bU clock:Int):aI:=if qg k op aJ bU clock=0 then ⟨k.id,k.ten,k.set,k.ay.set (aJ - 1).toNat (yg k op aJ bU)⟩ else kz
theorem aeu(k:aI)(x:ag)(op aJ bU clock:Int)(hl:k.ay.length<=1000000)(w:World)(hx:dD w x k.ay):Ok Pr aeM [.agg ⟨k.cs x⟩,.int .i64 op,.int .i64 aJ,.int .i64 bU,.int .i64 clock] w λr w'=>Cs w w' r (mc k op aJ bU clock) (qg k op aJ bU clock):=by
 refine aC Tryz.func120 (J:=[(13,[(3,.int .i64)]),(12,[(53,.bool)])]) ?_
 rw[kN,oA]
 have aT:=hx.len
 have hC:qg k op aJ bU clock=if bK k=true/\5<=op/\op<=8 then (match di k aJ with
  |none=>9
  |some v=>match iT op v.st with
   |none=>11
   |some _=>if op=7/\(bU<=clock\/aF 1 1099511627776 bU=false) then 2 else 0) else 2:=rfl
 have hR:mc k op aJ bU clock=if qg k op aJ bU clock=0 then ⟨k.id,k.ten,k.set,k.ay.set (aJ - 1).toNat (yg k op aJ bU)⟩ else kz:=rfl
 generalize qg k op aJ bU clock=C at*
 generalize mc k op aJ bU clock=R at*
 refine(ah.start w).nw λp w1 H _=>H.nw λp1 w2 H _=>?_
 have H:ah w [] w2 [.aj p (bY k.id k.ten k.set x) aW,.aj p1 [.int .i64 0,.int .i64 0,.int .i64 0,.slice none 0 0] aW]:=H
 refine H.bD 0 rfl (an (xF k x hl _ (hx.av H.mod)) ?_)
 rintro _ w3 ⟨rfl,m3⟩
 have H:=H.frame m3
 have no:∀ {L:List aA} {w3:World} (c:Int),ah w [] w3 L->L[1]? = some (.aj p1 [.int .i64 0,.int .i64 0,.int .i64 0,.slice none 0 0] aW)->c≠0->C=c->ek Pr Gi [.int .i64 c] w3 λv w4=>cO ⟨p1,0,none⟩ 0 0 0 ⟨none,0,0⟩ w4 λw8=>bD ⟨p1,0,none⟩ w8 λa b c' d=>Cs w w8 (.tuple ⟨[.agg ⟨[.int .i64 a,.int .i64 b,.int .i64 c',.slice d.a d.n d.c]⟩,v]⟩) R C:=by
  intro L w3 c H hL hc cX
  rw[cX,if_neg hc]at hR
  subst hR
  rw[cX]
  refine an (Bt c hc w3) ?_
  rintro e w4 ⟨h,m⟩
  exact Wg H (K:=1) hL rfl h m
 refine aN ?_
 by_cases h0:bK k=true/\5<=op/\op<=8
 case neg=>
  rw[if_neg h0]at hC
  refine ite_true ?_ (no 2 H rfl (by decide) hC)
  cases hm:bK k with
  |false=>rfl
  |true=>
   rw[hm]at h0
   by_cases h:op<5
   ·rw[decide_eq_true h];rfl
   ·rw[decide_eq_false h,decide_eq_true (show 8<op from Decidable.byContradiction λhh=>h0 ⟨rfl,by omega,by omega⟩)];rfl
 rw[if_pos h0]at hC
 obtain⟨hm,ho1,ho2⟩:=h0
 obtain⟨b1,b2⟩:=xN hm
 refine ite_false (by rw[hm,decide_eq_false (show ¬op<5 by omega),decide_eq_false (show ¬8<op by omega)];rfl) (H.bD 0 rfl (an (Dw k x aJ hl _ (hx.av H.mod)) ?_))
 rintro _ w4 ⟨y,rfl,hy⟩
 obtain⟨f,H⟩:=H.dz hy
 refine⟨_,rfl,om ⟨_,rfl,rfl,H.nw λp2 w5 H _=>H.gU 3 rfl rfl λw6 H=>?_⟩⟩
 cases hf:di k aJ with
 |none=>
  rw[hf]at hC
  exact ite_true rfl (no 9 H rfl (by decide) hC)
 |some v=>
  rw[hf]at hC
  obtain⟨_,h2,h3,h4,h5⟩:=BK hf
  refine ite_false rfl (H.au 3 rfl (ai p2 1) rfl (an (acL op _ _) ?_))
  rw[hf]
  change _=_ at hC
  rintro _ w7 ⟨z,rfl,hz,hw⟩
  subst hw
  refine⟨_,rfl,_,rfl,_,rfl,rfl,fo λgo aV=>?_⟩
  change C=(match iT op v.st with|none=>11|some _=>if op=7/\(bU<=clock\/aF 1 1099511627776 bU=false) then 2 else 0)at hC
  change ∀s,iT op v.st=some s->z=s at hz
  show dc (!(iT op v.st).isSome) _ _
  cases hn:iT op v.st with
  |none=>
   rw[hn]at hC
   exact ite_true rfl (no 11 H rfl (by decide) hC)
  |some s=>
   rw[hn]at hC
   obtain rfl:z=s:=hz s hn
   change C=if op=7/\(bU<=clock\/aF 1 1099511627776 bU=false) then 2 else 0 at hC
   have rest:C=0->go (if op=7 then bU else 0) w7:=by
    intro Xf
    rw[Xf,if_pos rfl]at hR
    subst hR
    rw[Xf]at aV
    refine aV _ _ (H.bD 0 rfl (an (GD k x (by omega) (λv hv=>Nat.le_trans (b2 v hv) (by omega)) _ (hx.av H.mod)) ?_))
    rintro _ w8 ⟨u,rfl,hu⟩
    have iR:=hu.box.now.ay.len
    obtain⟨ys,fp,D⟩:=hu
    have hE:aM e6 w8 ys k.ay:=D.box 1 rfl
    have H:=(H.join D)
    refine jz (H.cO 0 rfl rfl λw9 H=>?_)
    have H:=H.drew
    obtain⟨j,hj⟩:∃j:Nat,aJ - 1=(j:Int):=⟨(aJ - 1).toNat,by omega⟩
    unfold yg
    rw[hj]at h4⊢
    rw[Int.toNat_natCast]at h4⊢
    rw[<- h4,hn]
    have ha:k.ay[j]? = some v:=by rw[h4,List.getD_eq_getElem?_getD,List.getElem?_eq_getElem (by omega)];rfl
    obtain⟨q,hq⟩:∃q,ys[j]? = some q:=⟨_,List.getElem?_eq_getElem (by rw[hE.1];omega)⟩
    have fZ:jb w8 q v:=(hE.2 j q v hq ha).r
    have zh:=gw aR.bA k.ay ys hE.1
    refine H.az 0 rfl (ai p 3) rfl ⟨⟨by omega,by omega⟩,H.az 0 rfl (ai p 3) rfl ⟨⟨by omega,by omega⟩,⟨(H.cG 4 rfl).pre (by omega),by omega,by omega⟩,?_⟩⟩
    refine H.gx 4 (i:=j*4+1) rfl (by rw[add_add]) (by omega) rfl λbP H2=>?_
    refine⟨gm (H.aj 0 rfl) (H2.aj 0 rfl) (fS _ _),⟨(H.cG 4 rfl).pre (by omega),by omega,by omega⟩,?_⟩
    refine H2.gx 4 (i:=j*4+2) rfl (by rw[add_add]) (by rw[List.length_set];omega) rfl λbQ H3=>?_
    have e1:(aO aR.cs k.ay ys).set (j*4+1) (.int .i64 z)=aO aR.cs (k.ay.set j ⟨v.n,z,v.due,v.ak⟩) (ys.set j q):=rD aR.bA k.ay ys j 1 v ⟨v.n,z,v.due,v.ak⟩ q q _ ha hq (by omega) rfl
    have e2:(aO aR.cs (k.ay.set j ⟨v.n,z,v.due,v.ak⟩) (ys.set j q)).set (j*4+2) (.int .i64 (if op=7 then bU else 0))=aO aR.cs ((k.ay.set j ⟨v.n,z,v.due,v.ak⟩).set j ⟨v.n,z,if op=7 then bU else 0,v.ak⟩) ((ys.set j q).set j q):=
     rD aR.bA _ _ j 2 ⟨v.n,z,v.due,v.ak⟩ ⟨v.n,z,if op=7 then bU else 0,v.ak⟩ q q _ (by rw[List.getElem?_set,if_pos rfl,if_pos (by omega)]) (by rw[vA hq];exact hq) (by omega) rfl
    refine H3.bD 0 rfl (H3.cO 1 rfl rfl λcH H4=>H4.bD 1 rfl ⟨u,.nilIface,rfl,?_,rH _ _⟩)
    refine H4.boxed λw' h=>⟨ys,?_,?_⟩
    ·have ho:Own w' 0 cR 4 u (((aO aR.cs k.ay ys).set (j*4+1) (.int .i64 z)).set (j*4+2) (.int .i64 (if op=7 then bU else 0))):=h 4 _ rfl
     rw[e1,e2,List.set_set,List.set_set,vA hq]at ho
     exact ho
    ·have h5:(aA.box fp λw=>aM e6 w ys k.ay).ok w':=h 5 _ rfl
     have FR:=h5.2 w' λ_ _=>rfl
     have:=aM.put FR (i:=j) (x:=q) (a:=⟨v.n,z,if op=7 then bU else 0,v.ak⟩) (FR.2 j q v hq ha:e6 w' q v)
     rw[vA hq]at this
     exact this
   refine ite_false rfl ?_
   by_cases h7:op=7
   ·rw[if_pos h7]at rest
    refine ite_false (by rw[decide_eq_true h7];rfl) (fo λgB fu=>?_)
    refine aZ (λhc=>?_) (λhc=>?_)
    ·have hc:=of_decide_eq_true hc
     rw[if_pos ⟨h7,.inl hc⟩]at hC
     exact fu _ _ (ite_true rfl (no 2 H rfl (by decide) hC))
    ·have hc:=of_decide_eq_false hc
     refine an (zH _ _ _ _) ?_
     rintro _ w8 ⟨rfl,hw⟩
     subst hw
     refine aN (fu _ _ ?_)
     cases hi:aF 1 1099511627776 bU with
     |false=>
      rw[if_pos ⟨h7,.inr hi⟩]at hC
      exact ite_true rfl (no 2 H rfl (by decide) hC)
     |true=>
      rw[if_neg (by rintro⟨_,h|h⟩;exact hc h;rw[hi]at h;cases h)]at hC
      exact ite_false rfl (rest hC)
   ·rw[if_neg h7]at rest
    rw[if_neg (λh=>h7 h.1)]at hC
    exact ite_true (by rw[decide_eq_false h7];rfl) (rest hC)
theorem _root_.Go.Ev.ah.Va{w0 w:World}{S:List Nat}{L:List aA}(H:ah w0 S w L)(k:Nat){s:ag}{vs:List aR}{xs:List ag}(hk:L[k]? = some (.row cR 4 s (aO aR.cs vs xs)))(iQ:xs.length=vs.length){i:Nat}(hi:i<vs.length)(v':aR)(x':ag){K:World->Prop}
  (h:∀w',ah w0 S w' (L.set k (.row cR 4 s (aO aR.cs (vs.set i v') (xs.set i x'))))->K w'):gU (Addr.add (base s.a) (i*4)) v'.n v'.st v'.due x' w K:=by
 have br:k<L.length:=(List.getElem?_eq_some_iff.1 hk).1
 obtain⟨v,hv⟩:∃v,vs[i]? = some v:=⟨_,List.getElem?_eq_getElem hi⟩
 obtain⟨x,hx⟩:∃x,xs[i]? = some x:=⟨_,List.getElem?_eq_getElem (by omega)⟩
 have zh:=gw aR.bA vs xs iQ
 have g:∀ {l:List Value} {w:World} {L':List aA},(L'.set k (.row cR 4 s l)).length=L'.length:=by simp
 have e0:(aO aR.cs vs xs).set (i*4+0) (.int .i64 v'.n)=aO aR.cs (vs.set i ⟨v'.n,v.st,v.due,v.ak⟩) (xs.set i x):=rD aR.bA vs xs i 0 v ⟨v'.n,v.st,v.due,v.ak⟩ x x _ hv hx (by omega) rfl
 have q1:(vs.set i ⟨v'.n,v.st,v.due,v.ak⟩)[i]? = some ⟨v'.n,v.st,v.due,v.ak⟩:=by rw[List.getElem?_set,if_pos rfl,if_pos hi]
 have p1:(xs.set i x)[i]? = some x:=by rw[vA hx];exact hx
 have e1:=rD aR.bA _ _ i 1 _ ⟨v'.n,v'.st,v.due,v.ak⟩ x x (.int .i64 v'.st) q1 p1 (by omega) rfl
 rw[List.set_set,List.set_set]at e1
 have q2:(vs.set i ⟨v'.n,v'.st,v.due,v.ak⟩)[i]? = some ⟨v'.n,v'.st,v.due,v.ak⟩:=by rw[List.getElem?_set,if_pos rfl,if_pos hi]
 have e2:=rD aR.bA _ _ i 2 _ ⟨v'.n,v'.st,v'.due,v.ak⟩ x x (.int .i64 v'.due) q2 p1 (by omega) rfl
 rw[List.set_set,List.set_set]at e2
 have q3:(vs.set i ⟨v'.n,v'.st,v'.due,v.ak⟩)[i]? = some ⟨v'.n,v'.st,v'.due,v.ak⟩:=by rw[List.getElem?_set,if_pos rfl,if_pos hi]
 have e3:=rD aR.bA _ _ i 3 _ v' x x' x'.v q3 p1 (by omega) rfl
 rw[List.set_set,List.set_set]at e3
 have gk:∀(r:aA) (M:List aA),k<M.length->(M.set k r)[k]? = some r:=λr M h=>by rw[List.getElem?_set,if_pos rfl,if_pos h]
 refine H.gx k (i:=i*4+0) hk (by rw[add_add]) (by omega) rfl λw1 H1=>?_
 rw[e0]at H1
 refine H1.gx k (i:=i*4+1) (gk _ _ br) (by rw[add_add]) (by rw[gw aR.bA _ _ (by simp[iQ])];simp;omega) rfl λw2 H2=>?_
 rw[e1,List.set_set]at H2
 refine H2.gx k (i:=i*4+2) (gk _ _ br) (by rw[add_add]) (by rw[gw aR.bA _ _ (by simp[iQ])];simp;omega) rfl λw3 H3=>?_
 rw[e2,List.set_set]at H3
 refine H3.gx k (i:=i*4+3) (v:=x'.v) (gk _ _ br) (by rw[add_add]) (by rw[gw aR.bA _ _ (by simp[iQ])];simp;omega) rfl λw4 H4=>?_
 rw[e3,List.set_set]at H4
 exact h w4 H4
def gT(clock:Int)(v:aR):aR:=if v.st=3/\v.due<=clock then ⟨v.n,4,0,[]⟩ else v
def ni(clock:Int)(vs:List aR):Nat:=vs.countP λv=>decide (v.st=3/\v.due<=clock)
def j7(k:aI)(clock:Int):aI:=if bK k=true then ⟨k.id,k.ten,k.set,k.ay.map (gT clock)⟩ else kz
def sw(k:aI)(clock:Int):Nat:=if bK k=true then ni clock k.ay else 0
theorem abJ(k:aI)(x:ag)(clock:Int)(hl:k.ay.length<=1000000)(w:World)(hx:dD w x k.ay):Ok Pr abY [.agg ⟨k.cs x⟩,.int .i64 clock] w λr w'=>∃y:ag,r=.tuple ⟨[.agg ⟨(j7 k clock).cs y⟩,.int .i64 (sw k clock:Int)]⟩/\dU w w' λw=>fI w y (j7 k clock).ay:=by
 refine aC Tryz.func37 (L:=[(6,[(6,.int .i64),(18,.int .i64)])]) ?_
 rw[kN,oA]
 have aT:=hx.len
 refine(ah.start w).nw λp w1 H _=>H.nw λp1 w2 H _=>?_
 have H:ah w [] w2 [.aj p (bY k.id k.ten k.set x) aW,.aj p1 [.int .i64 0,.int .i64 0,.int .i64 0,.slice none 0 0] aW]:=H
 refine H.bD 0 rfl (an (xF k x hl _ (hx.av H.mod)) ?_)
 rintro _ w3 ⟨rfl,m3⟩
 have H:=H.frame m3
 refine aN ?_
 have hR:j7 k clock=if bK k=true then ⟨k.id,k.ten,k.set,k.ay.map (gT clock)⟩ else kz:=rfl
 have hM:sw k clock=if bK k=true then ni clock k.ay else 0:=rfl
 generalize j7 k clock=R at*
 generalize sw k clock=M at*
 cases hm:bK k with
 |false=>
  rw[hm,if_neg (by decide)]at hR hM
  subst hR hM
  exact ite_true rfl (H.cO 1 rfl rfl λw8 H=>H.bD 1 rfl ⟨⟨none,0,0⟩,rfl,sL H.mod λw=>fI.nil w⟩)
 |true=>
  rw[hm,if_pos rfl]at hR hM
  subst hR hM
  obtain⟨b1,b2⟩:=xN hm
  refine ite_false rfl (H.bD 0 rfl (an (GD k x (by omega) (λv hv=>Nat.le_trans (b2 v hv) (by omega)) _ (hx.av H.mod)) ?_))
  rintro _ w4 ⟨u,rfl,hu⟩
  have iR:=hu.box.now.ay.len
  obtain⟨ys,fp,D⟩:=hu
  have hE:aM e6 w4 ys k.ay:=D.box 1 rfl
  have H:=(H.join D)
  refine jz (H.cO 0 rfl rfl λw5 H=>H.az 0 rfl (ai p 3) rfl ?_)
  have H:ah w [] w5 [.aj p (bY k.id k.ten k.set u) aW,.aj p1 [.int .i64 0,.int .i64 0,.int .i64 0,.slice none 0 0] aW,.row cR 4 u (aO aR.cs k.ay ys),.box fp λw=>aM e6 w ys k.ay]:=H
  have xj:∀i,i<k.ay.length->ni clock (k.ay.take (i+1))=ni clock (k.ay.take i)+if (k.ay.getD i vz).st=3/\(k.ay.getD i vz).due<=clock then 1 else 0:=λi hi=>by
   unfold ni
   rw[ic _ _ hi vz,List.countP_append]
   simp[List.countP_cons]
  refine eZ 0 k.ay.length (λi (n:Int) w'=>n=(ni clock (k.ay.take i):Int)/\∃zs,zs.length=k.ay.length/\ah w [] w' [.aj p (bY k.id k.ten k.set u) aW,.aj p1 [.int .i64 0,.int .i64 0,.int .i64 0,.slice none 0 0] aW,.row cR 4 u (aO aR.cs ((k.ay.take i).map (gT clock)++k.ay.drop i) zs),.box fp λw=>aM e6 w zs ((k.ay.take i).map (gT clock)++k.ay.drop i)]) rfl (by omega) ⟨rfl,ys,hE.1,H⟩ ?_ ?_
  ·rintro again i _ w6 _ hi ⟨rfl,zs,gG,H⟩ aB
   have Ov:=xj i hi
   have hle:ni clock (k.ay.take i)<=1000:=Nat.le_trans (List.countP_le_length) (by rw[List.length_take];omega)
   have nI:=Ca (gT clock) k.ay i hi vz
   have mb:=Cb (gT clock) k.ay i hi
   have akn:((k.ay.take i).map (gT clock)++k.ay.drop i).length=k.ay.length:=by simp;omega
   have ha:k.ay[i]? = some (k.ay.getD i vz):=by rw[List.getD_eq_getElem?_getD,List.getElem?_eq_getElem hi];rfl
   rw[ha]at mb
   obtain⟨q,hq⟩:∃q,zs[i]? = some q:=⟨_,List.getElem?_eq_getElem (by omega)⟩
   rw[<- nI,Ov]at aB
   generalize (k.ay.take i).map (gT clock)++k.ay.drop i=MS at*
   generalize k.ay.getD i vz=v at*
   have hc:∀(j:Nat) (t:Value),(v.cs q)[j]? = some t->w6.cell? (Addr.add (Addr.add (base u.a) (Int.toNat (i:Int)*4)) j)=some t:=λj t ht=>by
    rw[Int.toNat_natCast]
    exact(H.cG 2 rfl).oH aR.bA mb hq ht
   refine ite_true (decide_eq_true (by omega)) ⟨⟨(H.cG 2 rfl).pre (by omega),by omega,by omega⟩,xp hc (H.nw λp2 w7 H _=>H.gU 4 rfl rfl λw8 H=>H.au 4 rfl (ai p2 1) rfl (H.au 4 rfl (ai p2 2) rfl ?_))⟩
   by_cases hs:v.st=3/\v.due<=clock
   ·have es:gT clock v=⟨v.n,4,0,[]⟩:=by unfold gT;rw[if_pos hs]
    rw[es,if_pos hs]at aB
    refine ite_true (by rw[decide_eq_true hs.1,decide_eq_true hs.2];rfl) (H.az 0 rfl (ai p 3) rfl (H.au 4 rfl (ai p2 0) rfl ⟨⟨(H.cG 2 rfl).pre (by omega),by omega,by omega⟩,?_⟩))
    rw[Int.toNat_natCast]
    refine H.Va 2 rfl (by omega) (by omega) ⟨v.n,4,0,[]⟩ ⟨none,0,0⟩ λw9 H=>⟨⟨by omega,by omega⟩,⟨by omega,by omega⟩,aB _ w9 ⟨by omega,zs.set i ⟨none,0,0⟩,by rw[List.length_set];exact gG,?_⟩⟩
    exact(H.D9 3 rfl λw h=>aM.put h (i:=i) (x:=⟨none,0,0⟩) (a:=⟨v.n,4,0,[]⟩) (Own.nil w 0 aE 1)).take 4
   ·have es:gT clock v=v:=by unfold gT;rw[if_neg hs]
    rw[es,if_neg hs,vA mb]at aB
    refine ite_false ?_ ⟨⟨by omega,by omega⟩,aB _ w8 ⟨by omega,zs,gG,H.take 4⟩⟩
    show(decide (v.st=3)&&decide (v.due<=clock))=false
    rw[Bool.and_eq_false_iff,decide_eq_false_iff_not,decide_eq_false_iff_not]
    by_cases h:v.st=3
    ·exact .inr λh2=>hs ⟨h,h2⟩
    ·exact .inl h
  ·rintro again _ w6 ⟨rfl,zs,gG,H⟩
   rw[List.take_of_length_le (Nat.le_refl _),List.drop_of_length_le (Nat.le_refl _),List.append_nil]at H
   rw[List.take_of_length_le (Nat.le_refl _)]
   refine ite_false (decide_eq_false (by omega)) (H.bD 0 rfl (H.cO 1 rfl rfl λw7 H=>H.bD 1 rfl ⟨u,rfl,?_⟩))
   refine H.boxed λw' h=>⟨zs,h 2 _ rfl,?_⟩
   have h3:(aA.box fp λw=>aM e6 w zs (k.ay.map (gT clock))).ok w':=h 3 _ rfl
   exact h3.2 w' λ_ _=>rfl
def LN(g:Value)(us:Int->Bool):Prop:=∀(s:Int) (w:World),qH Pr g [.int .i64 s] w λv w'=>v=.bool (us s)/\w'=w
def gj(s:Int):Bool:=!decide (s=4)
def gp(s:Int):Bool:=decide (s=1)
theorem aev:jB Pr PA=true:=by kernel_rfl
theorem ahE:jB Pr Pm=true:=by kernel_rfl
theorem Ty:LN (.func (.func PA) ⟨[]⟩ ⟨[]⟩) gp:=λs w=>by
 refine zP aev (aC Tryz.func161 ?_)
 exact⟨rfl,rfl⟩
theorem afE:LN (.func (.func Pm) ⟨[]⟩ ⟨[]⟩) gj:=λs w=>by
 refine zP ahE (aC Tryz.func160 ?_)
 exact⟨rfl,rfl⟩
def fF(k:aI)(aJ:Int)(us:Int->Bool):Int:=if bK k=true then (match di k aJ with|none=>9|some v=>if us v.st=true then g9 k.set v.ak.length else 11) else 2
def kJ(k:aI)(aJ:Int)(us:Int->Bool):List B8:=if fF k aJ us=0 then ff k.set ((di k aJ).getD vz).ak else []
def rq(k:aI)(aJ:Int)(us:Int->Bool):List B8:=if fF k aJ us=0 then nY k.set ((di k aJ).getD vz).ak else []
theorem Vb{set:Int}{l:List B8}(h:g9 set l.length≠0):ff set l=[]:=by unfold ff;rw[if_neg h]
theorem ajw{set:Int}{l:List B8}(h:g9 set l.length≠0):nY set l=[]:=by unfold nY;rw[if_neg h]
theorem Kk(k:aI)(x:ag)(aJ:Int)(g:Value)(us:Int->Bool)(hg:LN g us)(hl:k.ay.length<=1000000)(w:World)(hx:dD w x k.ay):Ok Pr adn [.agg ⟨k.cs x⟩,.int .i64 aJ,g] w λr w'=>∃(y z:ag) (er:Value),r=.tuple ⟨[.slice y.a y.n y.c,.slice z.a z.n z.c,er]⟩/\
  ah w [] w' [.row aE 1 y (aG (kJ k aJ us)),.row aE 1 z (aG (rq k aJ us)),aA.err er (fF k aJ us)]:=by
 refine aC Tryz.func159 ?_
 rw[oA]
 have aT:=hx.len
 have hC:fF k aJ us=if bK k=true then (match di k aJ with|none=>9|some v=>if us v.st=true then g9 k.set v.ak.length else 11) else 2:=rfl
 have hA:kJ k aJ us=if fF k aJ us=0 then ff k.set ((di k aJ).getD vz).ak else []:=rfl
 have hB:rq k aJ us=if fF k aJ us=0 then nY k.set ((di k aJ).getD vz).ak else []:=rfl
 generalize fF k aJ us=C at*
 generalize kJ k aJ us=A at*
 generalize rq k aJ us=B at*
 refine(ah.start w).nw λp w1 H _=>?_
 have H:ah w [] w1 [.aj p (bY k.id k.ten k.set x) aW]:=H
 refine H.bD 0 rfl (an (xF k x hl _ (hx.av H.mod)) ?_)
 rintro _ w2 ⟨rfl,m2⟩
 have H:=H.frame m2
 have no:∀ {L:List aA} {w3:World} (c:Int),ah w [] w3 L->c≠0->C=c->ek Pr Gi [.int .i64 c] w3 λv w4=>∃(y z:ag) (er:Value),Value.tuple ⟨[.slice none 0 0,.slice none 0 0,v]⟩=.tuple ⟨[.slice y.a y.n y.c,.slice z.a z.n z.c,er]⟩/\
   ah w [] w4 [.row aE 1 y (aG A),.row aE 1 z (aG B),aA.err er C]:=by
  intro L w3 c H hc cX
  rw[cX]at hA hB
  rw[if_neg hc]at hA hB
  subst hA hB
  refine an (Bt c hc w3) ?_
  rintro e w4 ⟨h,m4⟩
  rw[cX]
  exact⟨⟨none,0,0⟩,⟨none,0,0⟩,e,rfl,((((ah.start w).dy aE 1).dy aE 1).frame H.mod).gW m4 h⟩
 refine aN ?_
 cases hm:bK k with
 |false=>
  rw[hm,if_neg (by decide)]at hC
  exact ite_true rfl (no 2 H (by decide) hC)
 |true=>
  rw[hm,if_pos rfl]at hC
  refine ite_false rfl (H.bD 0 rfl (an (Dw k x aJ hl _ (hx.av H.mod)) ?_))
  rintro _ w4 ⟨y,rfl,hy⟩
  obtain⟨f,H⟩:=H.dz hy
  refine⟨_,rfl,om ⟨_,rfl,rfl,H.nw λp1 w5 H _=>H.gU 2 rfl rfl λw6 H=>?_⟩⟩
  cases hf:di k aJ with
  |none=>
   rw[hf]at hC
   exact ite_true rfl (no 9 H (by decide) hC)
  |some v=>
   rw[hf]at hC hA hB H
   change C=(if us v.st=true then g9 k.set v.ak.length else 11)at hC
   change A=(if C=0 then ff k.set v.ak else [])at hA
   change B=(if C=0 then nY k.set v.ak else [])at hB
   refine ite_false rfl (H.au 2 rfl (ai p1 1) rfl (DI (hg _ _) ?_))
   rintro _ w7 ⟨rfl,hw⟩
   subst hw
   refine aN ?_
   show dc (!us v.st) _ _
   cases hu:us v.st with
   |false=>
    rw[hu,if_neg (by decide)]at hC
    exact ite_true rfl (no 11 H (by decide) hC)
   |true=>
    rw[hu,if_pos rfl]at hC
    have hs:jb w7 y v:=H.box 1 rfl
    refine ite_false rfl (H.au 0 rfl (ai p 2) rfl (H.az 2 rfl (ai p1 3) rfl (an (aeq k.set y v.ak _ hs) ?_)))
    rintro _ w8 ⟨a,b,er,rfl,D⟩
    refine⟨_,rfl,a,rfl,b,rfl,rfl,a,b,er,rfl,?_⟩
    have H:=(H.join D).drop 3
    have eA:A=ff k.set v.ak:=by
     rw[hA]
     by_cases h:C=0
     ·rw[if_pos h]
     ·rw[if_neg h,Vb (by rw[<- hC];exact h)]
    have eB:B=nY k.set v.ak:=by
     rw[hB]
     by_cases h:C=0
     ·rw[if_pos h]
     ·rw[if_neg h,ajw (by rw[<- hC];exact h)]
    rw[eA,eB,hC]
    exact H
theorem PU(k:aI)(x:ag)(aJ:Int)(hl:k.ay.length<=1000000)(w:World)(hx:dD w x k.ay):Ok Pr aaY [.agg ⟨k.cs x⟩,.int .i64 aJ] w λr w'=>∃(y:ag) (er:Value),r=.tuple ⟨[.slice y.a y.n y.c,er]⟩/\
  ah w [] w' [.row aE 1 y (aG (kJ k aJ gj)),aA.err er (fF k aJ gj)]:=by
 refine aC Tryz.func113 ?_
 refine(ah.start w).nw λp w1 H _=>?_
 have H:ah w [] w1 [.aj p (bY k.id k.ten k.set x) aW]:=H
 refine H.bD 0 rfl (an (Kk k x aJ _ gj afE hl _ (hx.av H.mod)) ?_)
 rintro _ w2 ⟨y,z,er,rfl,D⟩
 exact⟨_,rfl,y,rfl,z,rfl,rfl,y,er,rfl,(H.join D).two 1 3 rfl rfl (by omega)⟩
theorem RU{vs:List aR}{v:aR}:∀n,uH vs n=some v->∃i,i<n/\v=vs.getD i vz/\v.st=1
 |0,h=>by cases h
 |n+1,h=>by
  change (if (vs.getD n vz).st=1 then some (vs.getD n vz) else uH vs n)=some v at h
  split at h
  ·rename_i hs
   cases h
   exact⟨n,by omega,rfl,hs⟩
  ·obtain⟨i,h1,h2⟩:=RU n h
   exact⟨i,by omega,h2⟩
theorem agC{k:aI}{v:aR}(h:fW k=some v):bK k=true/\v.st=1/\di k v.n=some v/\v.ak.length=64/\g9 k.set v.ak.length=0/\fF k v.n gp=0/\kJ k v.n gp=ff k.set v.ak:=by
 unfold fW at h
 split at h
 ·rename_i hm
  obtain⟨i,h1,h2,h3⟩:=RU _ h
  obtain⟨_,_,_,h4,h5⟩:=rE hm
  have h6:=h5 i h1
  rw[<- h2]at h6
  obtain⟨q1,q2,q3,q4,q5,q6,q7⟩:=Cd h6
  have hf:di k v.n=some v:=by
   unfold di aF
   rw[if_pos (by rw[hm];simp;omega),show(v.n - 1).toNat=i by omega,<- h2]
  have dX:=q5 (by omega)
  have hk:g9 k.set v.ak.length=0:=by unfold g9;rw[Tw hm,if_pos rfl,if_pos dX]
  have hp:fF k v.n gp=0:=by
   unfold fF
   rw[if_pos hm,hf]
   show(if gp v.st=true then g9 k.set v.ak.length else 11)=0
   rw[if_pos (by unfold gp;rw[h3];rfl),hk]
  refine⟨hm,h3,hf,dX,hk,hp,?_⟩
  unfold kJ
  rw[if_pos hp,hf];rfl
 ·cases h
def iI(k:aI)(m:List B8):Int:=if bK k=true then (match fW k with|none=>11|some v=>jL k.set (ff k.set v.ak) m) else 2
def qv(k:aI)(m:List B8):Int:=if iI k m=0 then ((fW k).getD vz).n else 0
def me(k:aI)(m:List B8):List B8:=if iI k m=0 then pL k.set (ff k.set ((fW k).getD vz).ak) m else []
def ju(k:aI)(m:List B8):List B8:=if iI k m=0 then ob k.set (ff k.set ((fW k).getD vz).ak) m else []
theorem acM(k:aI)(x xm:ag)(m:List B8)(hl:k.ay.length<=1000000)(w:World)(hx:dD w x k.ay)(Dd:Bytes w xm m):Ok Pr adh [.agg ⟨k.cs x⟩,.slice xm.a xm.n xm.c] w λr w'=>∃(y z:ag) (er:Value),r=.tuple ⟨[.int .i64 (qv k m),.slice y.a y.n y.c,.slice z.a z.n z.c,er]⟩/\
  ah w [] w' [.row aE 1 y (aG (me k m)),.cut z (ju k m),aA.err er (iI k m)]:=by
 refine aC Tryz.func115 ?_
 rw[oA]
 have hC:iI k m=if bK k=true then (match fW k with|none=>11|some v=>jL k.set (ff k.set v.ak) m) else 2:=rfl
 have hN:qv k m=if iI k m=0 then ((fW k).getD vz).n else 0:=rfl
 have hL:me k m=if iI k m=0 then pL k.set (ff k.set ((fW k).getD vz).ak) m else []:=rfl
 have hS:ju k m=if iI k m=0 then ob k.set (ff k.set ((fW k).getD vz).ak) m else []:=rfl
 generalize iI k m=C at*
 generalize qv k m=N at*
 generalize me k m=V at*
 generalize ju k m=S at*
 refine(ah.start w).nw λp w1 H _=>?_
 have H:ah w [] w1 [.aj p (bY k.id k.ten k.set x) aW]:=H
 refine H.bD 0 rfl (an (xF k x hl _ (hx.av H.mod)) ?_)
 rintro _ w2 ⟨rfl,m2⟩
 have H:=H.frame m2
 have no:∀ {w3:World} (e:Value) (c:Int),c≠0->C=c->cA w w3 e c->Mod [] w w3->∃(y z:ag) (er:Value),Value.tuple ⟨[.int .i64 0,.slice none 0 0,.slice none 0 0,e]⟩=.tuple ⟨[.int .i64 N,.slice y.a y.n y.c,.slice z.a z.n z.c,er]⟩/\
   ah w [] w3 [.row aE 1 y (aG V),.cut z S,aA.err er C]:=by
  intro w3 e c hc cX h m
  rw[cX]at hN hL hS
  rw[if_neg hc]at hN hL hS
  subst hN hL hS
  rw[cX]
  have H1:=((ah.start w).dy aE 1).push (r:=.cut ⟨none,0,0⟩ []) (Mod.refl [] w) (.inl ⟨rfl,rfl⟩) (λb hb=>by simp[aA.cut,ag.row]at hb)
  exact⟨⟨none,0,0⟩,⟨none,0,0⟩,e,rfl,H1.gW m h⟩
 refine aN ?_
 cases hm:bK k with
 |false=>
  rw[hm,if_neg (by decide)]at hC
  refine ite_true rfl (an (Bt 2 (by decide) _) ?_)
  rintro e w3 ⟨h,m3⟩
  exact no e 2 (by decide) hC (Cc h H.mod) (H.mod.trans m3)
 |true=>
  rw[hm,if_pos rfl]at hC
  refine ite_false rfl (H.bD 0 rfl (an (ZL k x hl _ (hx.av H.mod)) ?_))
  rintro _ w4 ⟨y,rfl,hy⟩
  obtain⟨f,H⟩:=H.dz hy
  refine⟨_,rfl,om ⟨_,rfl,rfl,H.nw λp1 w5 H _=>H.gU 2 rfl rfl λw6 H=>?_⟩⟩
  cases hf:fW k with
  |none=>
   rw[hf]at hC
   refine ite_true rfl (an (Bt 11 (by decide) _) ?_)
   rintro e w3 ⟨h,m3⟩
   exact no e 11 (by decide) hC (Cc h H.mod) (H.mod.trans m3)
  |some v=>
   rw[hf]at hC hN hL hS H
   change C=jL k.set (ff k.set v.ak) m at hC
   change N=(if C=0 then v.n else 0)at hN
   change V=(if C=0 then pL k.set (ff k.set v.ak) m else [])at hL
   change S=(if C=0 then ob k.set (ff k.set v.ak) m else [])at hS
   obtain⟨c1,c2,c3,c4,c5,c6,c7⟩:=agC hf
   refine ite_false rfl (H.bD 0 rfl (H.au 2 rfl (ai p1 0) rfl (an (Kk k x v.n _ gp Ty hl _ (hx.av H.mod)) ?_)))
   rw[c6,c7]
   rintro _ w8 ⟨a,b,er,rfl,D⟩
   have H:=H.join D
   have he:ig w8 er 0:=H.err 5 rfl
   refine⟨_,rfl,a,rfl,b,rfl,rfl,he.isNil (ite_false rfl (H.au 0 rfl (ai p 2) rfl (an (aer k.set a xm _ m _ (H.bytes 3 rfl) (Dd.av H.mod)) ?_)))⟩
   rintro _ w9 ⟨c,d,e2,rfl,D2⟩
   have H:=H.join D2
   have xk:ig w9 e2 (jL k.set (ff k.set v.ak) m):=H.err 8 rfl
   refine⟨_,rfl,c,rfl,d,rfl,rfl,xk.isNil ?_⟩
   by_cases h0:jL k.set (ff k.set v.ak) m=0
   ·rw[h0]at hC
    rw[hC,if_pos rfl]at hN hL hS
    refine ite_false (by rw[decide_eq_true h0];rfl) (H.au 2 rfl (ai p1 0) rfl ⟨c,d,.nilIface,?_,?_⟩)
    ·rw[hN];rfl
    ·rw[hL,hS,hC]
     exact((H.two 6 7 rfl rfl (by omega))).gW (Mod.refl _ _) (rH _ _)
   ·refine ite_true (by rw[decide_eq_false h0];rfl) (no e2 _ h0 hC ⟨xk,λb hb=>?_⟩ H.mod)
    exact(H.own 8 (aA.err e2 (jL k.set (ff k.set v.ak) m)) rfl b hb).resolve_left (by simp)
def oC(k:aI)(aJ:Int)(c:List B8):Int:=if fF k aJ gp=0 then rm k.set (rq k aJ gp) c else fF k aJ gp
def oL(k:aI)(aJ:Int)(c:List B8):List B8:=if oC k aJ c=0 then mz k.set (rq k aJ gp) c else []
theorem Vc{set:Int}{l c:List B8}(h:rm set l c≠0):mz set l c=[]:=by unfold mz;rw[if_neg h]
theorem acN(k:aI)(x xc:ag)(aJ:Int)(c:List B8)(hl:k.ay.length<=1000000)(w:World)(hx:dD w x k.ay)(hc:Bytes w xc c):Ok Pr adg [.agg ⟨k.cs x⟩,.int .i64 aJ,.slice xc.a xc.n xc.c] w λr w'=>∃(y:ag) (er:Value),r=.tuple ⟨[.slice y.a y.n y.c,er]⟩/\
  ah w [] w' [.cut y (oL k aJ c),aA.err er (oC k aJ c)]:=by
 refine aC Tryz.func114 ?_
 have hC:oC k aJ c=if fF k aJ gp=0 then rm k.set (rq k aJ gp) c else fF k aJ gp:=rfl
 have hL:oL k aJ c=if oC k aJ c=0 then mz k.set (rq k aJ gp) c else []:=rfl
 generalize oC k aJ c=C at*
 generalize oL k aJ c=V at*
 refine(ah.start w).nw λp w1 H _=>?_
 have H:ah w [] w1 [.aj p (bY k.id k.ten k.set x) aW]:=H
 refine H.bD 0 rfl (an (Kk k x aJ _ gp Ty hl _ (hx.av H.mod)) ?_)
 rintro _ w2 ⟨y,z,er,rfl,D⟩
 have H:=H.join D
 have he:ig w2 er (fF k aJ gp):=H.err 3 rfl
 refine⟨_,rfl,y,rfl,z,rfl,rfl,he.isNil ?_⟩
 by_cases h0:fF k aJ gp=0
 ·rw[if_pos h0]at hC
  refine ite_false (by rw[decide_eq_true h0];rfl) (H.au 0 rfl (ai p 2) rfl (an (aes k.set z xc _ c _ (H.bytes 2 rfl) (hc.av H.mod)) ?_))
  rintro _ w3 ⟨u,e2,rfl,D2⟩
  refine⟨_,rfl,u,rfl,rfl,u,e2,rfl,?_⟩
  have eV:V=mz k.set (rq k aJ gp) c:=by
   rw[hL]
   by_cases h:C=0
   ·rw[if_pos h]
   ·rw[if_neg h,Vc (by rw[<- hC];exact h)]
  rw[eV,hC]
  exact(H.join D2).drop 4
 ·rw[if_neg h0]at hC
  rw[hC,if_neg h0]at hL
  refine ite_true (by rw[decide_eq_false h0];rfl) ⟨⟨none,0,0⟩,er,rfl,?_⟩
  have H1:=(ah.start w).push (r:=.cut ⟨none,0,0⟩ []) (Mod.refl [] w) (.inl ⟨rfl,rfl⟩) (λb hb=>by simp[aA.cut,ag.row]at hb)
  rw[hL,hC]
  exact H1.gW H.mod ⟨he,λb hb=>(H.own 3 (aA.err er (fF k aJ gp)) rfl b hb).resolve_left (by simp)⟩
def bt(u:aD)(k:Nat):aD:=(u>>>k)&&&1
def fz(high:Int)(u:aD):Bool:=if high<0\/1099511627776<high then false else if high=0 then decide (u=0) else decide (high<64->u>>>high.toNat=0)&&decide (u&&&1=1)
def iL(high:Int)(u:aD)(n:Int):Bool:=if fz high u=true/\1<=n/\n<=1099511627776/\high - n<64 then decide (high<n)||decide (bt u (high - n).toNat=0) else false
def iP(high:Int)(u:aD)(n:Int):Int:=if fz high u=true then (if iL high u n=true then 0 else 8) else 2
def oR(high:Int)(u:aD)(n:Int):Int:=if iP high u n=0 then (if high<n then n else high) else 0
def s9(high:Int)(u:aD)(n:Int):aD:=if iP high u n=0 then (if high<n then (u<<<(min (n - high) 64).toNat)|||1 else u|||((1:aD)<<<(high - n).toNat)) else 0
theorem DW{high:Int}{u:aD}(h:fz high u=true):0<=high/\high<=1099511627776:=by
 unfold fz at h
 split at h
 ·cases h
 ·omega
theorem zY{x y:aD}:((x.toNat:Int)=(y.toNat:Int))↔x=y:=by
 rw[Int.ofNat_inj]
 exact⟨BitVec.eq_of_toNat_eq,λh=>by rw[h]⟩
theorem EE:(1:Int)=((1:aD).toNat:Int):=rfl
theorem ajx:(0:Int)=((0:aD).toNat:Int):=rfl
theorem EW(u:aD):nF .u64 (u.toNat:Int) 1=((u&&&1).toNat:Int):=by
 have:=CD u 1
 rw[<- EE]at this
 exact this
theorem JY(high:Int)(u:aD)(w:World):Ok Pr ab5 [.int .i64 high,.int .u64 (u.toNat:Int)] w λr w'=>r=.bool (fz high u)/\w'=w:=by
 refine aC Tryz.func71 (J:=[(7,[])]) ?_
 refine gi λgo aV=>?_
 by_cases h:high<0\/1099511627776<high
 ·exact ite_true (by simpa using h) ⟨by unfold fz;rw[if_pos h],rfl⟩
 refine ite_false (by simpa using h) ?_
 by_cases h0:high=0
 ·refine ite_true (decide_eq_true h0) ⟨?_,rfl⟩
  unfold fz
  rw[if_neg h,if_pos h0]
  congr 1
  exact decide_eq_decide.2 (zY (y:=0))
 refine ite_false (decide_eq_false h0) ?_
 have last:fz high u=decide (u&&&1=1)->go w:=λe=>by
  refine aV _ ⟨?_,rfl⟩
  rw[e,EW]
  congr 1
  exact decide_eq_decide.2 (zY (y:=1))
 by_cases dX:high<64
 ·refine ite_true (decide_eq_true dX) (fG (by omega) ?_)
  obtain⟨k,rfl⟩:∃k:Nat,high=(k:Int):=⟨high.toNat,by omega⟩
  rw[wk]
  have hM:fz (k:Int) u=(decide (u>>>k=0)&&decide (u&&&1=1)):=by
   unfold fz
   rw[if_neg h,if_neg h0,Int.toNat_natCast]
   congr 1
   exact decide_eq_decide.2 ⟨λf=>f dX,λf _=>f⟩
  by_cases hz:u>>>k=0
  ·exact ite_false (by rw[decide_eq_true (show((u>>>k).toNat:Int)=0 by rw[hz];rfl)];rfl) (last (by rw[hM,decide_eq_true hz];rfl))
  ·exact ite_true (by rw[decide_eq_false (show ¬((u>>>k).toNat:Int)=0 from λf=>hz (zY.1 (f.trans ajx)))];rfl) ⟨by rw[hM,decide_eq_false hz];rfl,rfl⟩
 ·refine ite_false (decide_eq_false dX) (last ?_)
  unfold fz
  rw[if_neg h,if_neg h0,decide_eq_true (λf=>absurd f dX),Bool.true_and]
theorem VK{a b:Int}(ha:0<=a/\a<=1099511627776)(hb:1<=b/\b<=1099511627776):IntKind.wrap .i64 (a - b)=a - b:=wrap_i64 (by omega) (by omega)
theorem ZM(high:Int)(u:aD)(n:Int)(w:World):Ok Pr Z3 [.int .i64 high,.int .u64 (u.toNat:Int),.int .i64 n] w λr w'=>r=.bool (iL high u n)/\w'=w:=by
 refine aC Tryz.func106 ?_
 refine an (JY high u w) ?_
 rintro _ w1 ⟨rfl,hw⟩
 subst hw
 refine aN ?_
 by_cases h:fz high u=true/\1<=n/\n<=1099511627776
 case neg=>
  have e:iL high u n=false:=by unfold iL;rw[if_neg λf=>h ⟨f.1,f.2.1,f.2.2.1⟩]
  refine ite_true ?_ ⟨by rw[e],rfl⟩
  cases hm:fz high u with
  |false=>rfl
  |true=>
   rw[hm]at h
   by_cases h1:n<1
   ·rw[decide_eq_true h1];rfl
   ·rw[decide_eq_true (show 1099511627776<n from Decidable.byContradiction λf=>h ⟨rfl,by omega,by omega⟩)];simp
 obtain⟨hm,h1,h2⟩:=h
 rw[VK (DW hm) ⟨h1,h2⟩]
 by_cases dX:high - n<64
 case neg=>
  have e:iL high u n=false:=by unfold iL;rw[if_neg λf=>dX f.2.2.2]
  exact ite_true (by rw[decide_eq_true (show(64:Int)<=high - n by omega)];simp) ⟨by rw[e],rfl⟩
 have e:iL high u n=(decide (high<n)||decide (bt u (high - n).toNat=0)):=by unfold iL;rw[if_pos ⟨hm,h1,h2,dX⟩]
 refine ite_false (by rw[hm,decide_eq_false (show ¬n<1 by omega),decide_eq_false (show ¬1099511627776<n by omega),decide_eq_false (show ¬(64:Int)<=high - n by omega)];rfl) ?_
 by_cases hh:high<n
 ·exact ite_true (decide_eq_true hh) ⟨by rw[e,decide_eq_true hh];rfl,rfl⟩
 ·refine ite_false (decide_eq_false hh) (fG (by omega) ⟨?_,rfl⟩)
  rw[e,decide_eq_false hh,Bool.false_or]
  obtain⟨k,hk⟩:∃k:Nat,high - n=(k:Int):=⟨(high - n).toNat,by omega⟩
  rw[hk,Int.toNat_natCast,wk,EW]
  congr 1
  exact decide_eq_decide.2 (zY (y:=0))
theorem abK(high:Int)(u:aD)(n:Int)(w:World):Ok Pr ab2 [.int .i64 high,.int .u64 (u.toNat:Int),.int .i64 n] w λr w'=>∃er:Value,r=.tuple ⟨[.int .i64 (oR high u n),.int .u64 ((s9 high u n).toNat:Int),er]⟩/\cA w w' er (iP high u n)/\Mod [] w w':=by
 refine aC Tryz.func52 ?_
 have hC:iP high u n=if fz high u=true then (if iL high u n=true then 0 else 8) else 2:=rfl
 have hH:oR high u n=if iP high u n=0 then (if high<n then n else high) else 0:=rfl
 have hU:s9 high u n=if iP high u n=0 then (if high<n then (u<<<(min (n - high) 64).toNat)|||1 else u|||((1:aD)<<<(high - n).toNat)) else 0:=rfl
 generalize iP high u n=C at*
 generalize oR high u n=A at*
 generalize s9 high u n=B at*
 have no:∀c:Int,c≠0->C=c->nw Gs [.int .i64 c,.string ahf] w λp w2=>∃er:Value,Value.tuple ⟨[.int .i64 0,.int .u64 0,.iface ry (.pointer (some p))]⟩=.tuple ⟨[.int .i64 A,.int .u64 (B.toNat:Int),er]⟩/\cA w w2 er C/\Mod [] w w2:=by
  intro c hc cX
  rw[cX,if_neg hc]at hH hU
  subst hH hU
  rw[cX]
  exact qE λb w' hb h1 h2 _=>⟨_,rfl,cA.mk h1 (by omega) hc,h2⟩
 refine an (JY high u w) ?_
 rintro _ w1 ⟨rfl,hw⟩
 subst hw
 refine aN ?_
 cases hm:fz high u with
 |false=>
  rw[hm,if_neg (by decide)]at hC
  exact ite_true rfl (no 2 (by decide) hC)
 |true=>
  rw[hm,if_pos rfl]at hC
  refine ite_false rfl (an (ZM high u n w1) ?_)
  rintro _ w2 ⟨rfl,hw⟩
  subst hw
  refine aN ?_
  cases hf:iL high u n with
  |false=>
   rw[hf,if_neg (by decide)]at hC
   exact ite_true rfl (no 8 (by decide) hC)
  |true=>
   rw[hf,if_pos rfl]at hC
   rw[hC,if_pos rfl]at hH hU
   subst hH hU
   rw[hC]
   have hr:=DW hm
   have hn:1<=n/\n<=1099511627776:=by
    unfold iL at hf
    split at hf
    ·rename_i hc;exact⟨hc.2.1,hc.2.2.1⟩
    ·cases hf
   refine ite_false rfl ?_
   by_cases hh:high<n
   ·rw[if_pos hh,if_pos hh]
    obtain⟨k,hk⟩:∃k:Nat,min (n - high) 64=(k:Int):=⟨(min (n - high) 64).toNat,by omega⟩
    rw[hk,Int.toNat_natCast]
    refine ite_true (decide_eq_true hh) ⟨⟨by omega,by omega⟩,fG (by omega) ⟨.nilIface,?_,cA.zero _ _,Mod.drew _ _⟩⟩
    rw[uB,EE,CK]
   ·rw[if_neg hh,if_neg hh]
    obtain⟨k,hk⟩:∃k:Nat,high - n=(k:Int):=⟨(high - n).toNat,by omega⟩
    rw[hk,Int.toNat_natCast]
    refine ite_false (decide_eq_false hh) ⟨⟨by omega,by omega⟩,fG (by omega) ⟨.nilIface,?_,cA.zero _ _,Mod.drew _ _⟩⟩
    rw[EE,uB,CK]
structure bL where
 id:Int
 par:Int
 name:ByteArray
def tz:bL:=⟨0,0,ByteArray.empty⟩
def bL.cs(t:bL)(_:ag):List Value:=kL t.id t.par t.name
theorem bL.bA(t:bL)(x:ag):(t.cs x).length=3:=rfl
def Ow(_:World)(_:ag)(_:bL):Prop:=True
def fk(w:World)(s:ag)(ts:List bL):Prop:=Dv bL.cs 3 Ow w s ts
theorem fk.av{w w':World}{s:ag}{ts:List bL}(h:fk w s ts)(m:Mod [] w w'):fk w' s ts:=Dv.av (E:=Ow) (λ_ _=>trivial) h m
theorem fk.len{w:World}{s:ag}{ts:List bL}(h:fk w s ts):ts.length=s.n:=Dv.len bL.bA (by omega) h
theorem fk.at{w:World}{s:ag}{ts:List bL}(h:fk w s ts){i:Nat}(hi:i<ts.length):
  (s.a.isSome=true/\(0:Int)<=(i:Int)/\(i:Int)<(s.n:Int))/\∀(j:Nat) (v:Value),(kL (ts.getD i tz).id (ts.getD i tz).par (ts.getD i tz).name)[j]? = some v->w.cell? (Addr.add (Addr.add (base s.a) (Int.toNat (i:Int)*3)) j)=some v:=by
 have ha:ts[i]? = some (ts.getD i tz):=by rw[List.getD_eq_getElem?_getD,List.getElem?_eq_getElem hi];rfl
 obtain⟨h1,x,_,h2⟩:=Dv.at bL.bA (by omega) h ha
 exact⟨h1,h2⟩
theorem Za(c:Int)(hc:c≠0)(w:World):Ok Pr Pk [.int .i64 c] w λv w'=>cA w w' v c/\Mod [] w w':=by
 refine aC Tryz.func155 ?_
 exact qE λb w' hb h1 h2 _=>⟨cA.mk h1 (by omega) hc,h2⟩
def mH(s:ByteArray):Bool:=aF 1 300 (s.size:Int)
theorem Pe(s:ByteArray)(w:World):Ok Pr Zp [.string s] w λv w'=>v=.bool (mH s)/\w'=w:=by
 refine aC Tryz.func123 ?_
 exact⟨rfl,rfl⟩
theorem Pf(x:ag)(ts:List bL)(id:Int)(w:World)(hx:fk w x ts):Ok Pr Zt [.slice x.a x.n x.c,.int .i64 id] w λv w'=>v=.bool (aF 1 (ts.length:Int) id)/\w'=w:=by
 refine aC Tryz.func156 ?_
 have:=hx.len
 refine⟨?_,rfl⟩
 rw[this];rfl
def Vd(w:World)(g:Value)(p:bL->Bool):Prop:=∀(t:bL) (w':World),Mod [] w w'->qH Pr g [.agg ⟨kL t.id t.par t.name⟩] w' λv bS=>v=.bool (p t)/\Mod [] w' bS
theorem X3(g:Value)(p:bL->Bool)(x:ag)(ts:List bL)(hl:ts.length<=1000000000)(w:World)(hx:fk w x ts)(hg:Vd w g p):
  Ok Pr XN [.slice x.a x.n x.c,g] w λv w'=>∃z:Int,v=.int .i64 z/\decide (0<=z)=ts.any p/\Mod [] w w':=by
 refine aC Tryz.func192 (L:=[(2,[(8,.int .i64)])]) ?_
 have aT:=hx.len
 refine bG 0 ts.length (λi w'=>(ts.take i).any p=false/\Mod [] w w') rfl (by omega) ⟨rfl,Mod.refl _ _⟩ ?_ ?_
 ·rintro again i w1 _ hi ⟨hn,m⟩ aB
  obtain⟨bF,hc⟩:=(hx.av m).at hi
  refine ite_true (decide_eq_true (by omega)) ⟨bF,Dm hc (DI (hg _ w1 m) ?_)⟩
  rintro _ w2 ⟨rfl,m2⟩
  refine aN (aZ (λhc=>?_) (λhc=>?_))
  ·exact⟨_,rfl,by rw[vw p ts i hi tz hc];exact decide_eq_true (by omega),m.trans m2⟩
  ·exact⟨⟨by omega,by omega⟩,aB w2 ⟨by rw[vv p ts i hi tz,hn,hc];rfl,m.trans m2⟩⟩
 ·rintro again w1 ⟨hn,m⟩
  rw[List.take_of_length_le (Nat.le_refl _)]at hn
  exact ite_false (decide_eq_false (by omega)) ⟨_,rfl,by rw[hn];rfl,m⟩
theorem XY(g:Value)(p:bL->Bool)(x:ag)(ts:List bL)(hl:ts.length<=1000000000)(w:World)(hx:fk w x ts)(hg:Vd w g p):
  Ok Pr XL [.slice x.a x.n x.c,g] w λv w'=>v=.bool (ts.any p)/\Mod [] w w':=by
 refine aC Tryz.func169 ?_
 refine an (X3 g p x ts hl w hx hg) ?_
 rintro _ w1 ⟨z,rfl,hz,m⟩
 exact bH ⟨by rw[hz],m⟩
def iM(par:Int)(name:ByteArray)(t:bL):Bool:=decide (t.par=par)&&decide (t.name=name)
theorem afF:jB Pr YM=true:=by kernel_rfl
theorem Pg(x:ag)(ts:List bL)(hl:ts.length<=1000000000)(par:Int)(name:ByteArray)(w:World)(hx:fk w x ts):Ok Pr Zq [.slice x.a x.n x.c,.int .i64 par,.string name] w λv w'=>v=.bool (ts.any (iM par name))/\Mod [] w w':=by
 refine aC Tryz.func124 ?_
 refine(ah.start w).nw λp w1 H _=>H.nw λp1 w2 H _=>?_
 refine an (XY _ (iM par name) x ts hl w2 (hx.av H.mod) λt w3 m=>?_) ?_
 ·refine zP afF (aC Tryz.func170 ?_)
  have b1:bp w3 p [.int .i64 par] aU:=(H.frame m).aj 0 rfl
  have b2:bp w3 p1 [.string name] BU:=(H.frame m).aj 1 rfl
  have K:=((ah.start w3).frame (Mod.refl [] w3))
  refine K.nw λq w4 K _=>?_
  have c1:=b1.av K.mod
  have c2:=b2.av K.mod
  exact K.au 0 rfl (ai q 1) rfl (c1.au rfl rfl (K.jX 0 rfl (ai q 2) rfl ⟨_,by rw[c2.cell];rfl,rfl,K.mod⟩))
 ·rintro _ w3 ⟨rfl,m⟩
  exact aN ⟨rfl,H.mod.trans m⟩
theorem Uv:zc Pr cD=[.int .i64 0,.int .i64 0,.string ByteArray.empty]:=by kernel_rfl
def oS(ts:List bL)(i:Nat):Bool:=
 decide ((ts.getD i tz).id=(i:Int)+1)&&(decide (min (i:Int) 1<=(ts.getD i tz).par)&&(decide ((ts.getD i tz).par<=(i:Int))&&(mH (ts.getD i tz).name&&!(ts.take i).any (iM (ts.getD i tz).par (ts.getD i tz).name))))
def oc(ts:List bL):Nat->Bool
 |0=>true
 |i+1=>oc ts i&&oS ts i
def gE(ts:List bL):Bool:=decide (ts.length<=8)&&oc ts ts.length
theorem Mg{ts:List bL}{i:Nat}(h:oS ts i=false):∀n,i<n->oc ts n=false
 |0,hn=>by omega
 |n+1,hn=>by
  show(oc ts n&&_)=false
  rcases Nat.lt_or_ge i n with h2|h2
  ·rw[Mg h n h2,Bool.false_and]
  ·rw[show n=i by omega,h,Bool.and_false]
theorem fk.Ng{w:World}{s:ag}{ts:List bL}(h:fk w s ts)(k:Nat)(hk:k<=ts.length):fk w ⟨s.a,k,s.c⟩ (ts.take k):=by
 have hn:=h.len
 obtain⟨xs,h1,h2⟩:=h
 have aT:=h2.1
 refine⟨xs.take k,?_,by simp[aT],λi x t _ _=>trivial⟩
 have e:aO bL.cs (ts.take k) (xs.take k)=(aO bL.cs ts xs).take (k*3):=by
  have:=vG (C:=bL.cs) (ts.take k) (xs.take k) (by simp[aT]) (ts.drop k) (xs.drop k)
  rw[List.take_append_drop,List.take_append_drop]at this
  have hd:(aO bL.cs (ts.take k) (xs.take k)).length=k*3:=by
   rw[gw bL.bA _ _ (by simp[aT]),List.length_take,Nat.min_eq_left hk]
  rw[this,List.take_append_of_le_length (by omega)]
  exact(List.take_of_length_le (by omega)).symm
 rw[e]
 have hc:=h1.cap
 have hl:=h1.len
 rw[gw bL.bA _ _ aT]at hl
 refine⟨by rw[List.length_take,gw bL.bA _ _ aT];show min (k*3) _=k*3;omega,by show k<=s.c;omega,λh0=>h1.pre (by have:0<k:=h0;omega),λi v hv=>?_⟩
 rw[List.getElem?_take]at hv
 split at hv
 ·exact h1.cell i v hv
 ·cases hv
theorem JS(x:ag)(ts:List bL)(hl:ts.length<=1000000)(w:World)(hx:fk w x ts):Ok Pr aaL [.slice x.a x.n x.c] w λv w'=>v=.bool (gE ts)/\Mod [] w w':=by
 refine aC Tryz.func68 (L:=[(4,[(11,.int .i64)])]) ?_
 rw[Uv]
 have aT:=hx.len
 have nP:x.n<=x.c:=by obtain⟨xs,h1,_⟩:=hx;exact h1.cap
 by_cases h8:ts.length<=8
 case neg=>exact ite_true (decide_eq_true (by omega)) ⟨by unfold gE;rw[decide_eq_false h8];rfl,Mod.refl _ _⟩
 have eM:gE ts=oc ts ts.length:=by unfold gE;rw[decide_eq_true h8];rfl
 refine ite_false (decide_eq_false (by omega)) ?_
 refine bG 0 ts.length (λi w'=>oc ts i=true/\Mod [] w w') rfl (by omega) ⟨rfl,Mod.refl _ _⟩ ?_ ?_
 ·rintro again i w1 _ hi ⟨cI,m⟩ aB
  obtain⟨bF,hc⟩:=(hx.av m).at hi
  have hs:oc ts (i+1)=(oc ts i&&oS ts i):=rfl
  have hF:oS ts i=(decide ((ts.getD i tz).id=(i:Int)+1)&&(decide (min (i:Int) 1<=(ts.getD i tz).par)&&(decide ((ts.getD i tz).par<=(i:Int))&&(mH (ts.getD i tz).name&&!(ts.take i).any (iM (ts.getD i tz).par (ts.getD i tz).name))))):=rfl
  have no:∀ {w2:World},Mod [] w w2->oS ts i=false->(λv w'=>v=Value.bool (gE ts)/\Mod [] w w') (.bool false) w2:=λm h=>⟨by rw[eM,Mg h _ hi],m⟩
  generalize ts.getD i tz=t at*
  refine ite_true (decide_eq_true (by omega)) ⟨bF,Dm hc ((ah.start w1).nw λp w2 D _=>D.Br 0 rfl rfl λw3 D=>?_)⟩
  have D:=D.drew
  refine D.au 0 rfl (ai p 0) rfl ⟨⟨by omega,by omega⟩,D.au 0 rfl (ai p 1) rfl (D.au 0 rfl (ai p 1) rfl (D.jX 0 rfl (ai p 2) rfl ?_))⟩
  by_cases hg:t.id=(i:Int)+1/\min (i:Int) 1<=t.par/\t.par<=(i:Int)
  case neg=>
   refine ite_true ?_ (no (m.trans D.mod) ?_)
   ·simp only[Bool.or_eq_true,Bool.not_eq_true',decide_eq_true_eq,decide_eq_false_iff_not]
    omega
   ·rw[hF]
    simp only[Bool.and_eq_false_iff,decide_eq_false_iff_not]
    by_cases q1:t.id=(i:Int)+1
    ·by_cases q2:min (i:Int) 1<=t.par
     ·exact .inr (.inr (.inl λq3=>hg ⟨q1,q2,q3⟩))
     ·exact .inr (.inl q2)
    ·exact .inl q1
  obtain⟨g1,g2,g3⟩:=hg
  rw[decide_eq_true g1,decide_eq_true g2,decide_eq_true g3,Bool.true_and,Bool.true_and,Bool.true_and]at hF
  refine ite_false ?_ (an (Pe _ _) ?_)
  ·rw[decide_eq_true g1,decide_eq_false (show ¬t.par<min (i:Int) 1 by omega),decide_eq_false (show ¬(i:Int)<t.par by omega)];rfl
  rintro _ w4 ⟨rfl,hw⟩
  subst hw
  refine aN ?_
  cases hn:mH t.name with
  |false=>exact ite_true rfl (no (m.trans D.mod) (by rw[hF,hn];rfl))
  |true=>
   rw[hn,Bool.true_and]at hF
   refine ite_false rfl ⟨⟨by omega,by omega⟩,D.au 0 rfl (ai p 1) rfl (D.jX 0 rfl (ai p 2) rfl ?_)⟩
   rw[Int.toNat_natCast]
   refine an (Pg ⟨x.a,i,x.c⟩ (ts.take i) (by rw[List.length_take];omega) t.par t.name _ ((hx.av (m.trans D.mod)).Ng i (by omega))) ?_
   rintro _ w5 ⟨rfl,m5⟩
   refine aN ?_
   cases ht:(ts.take i).any (iM t.par t.name)with
   |true=>exact ite_true rfl (no (m.trans (D.mod.trans m5)) (by rw[hF,ht];rfl))
   |false=>exact ite_false rfl ⟨⟨by omega,by omega⟩,aB _ ⟨by rw[hs,cI,hF,ht];rfl,m.trans (D.mod.trans m5)⟩⟩
 ·rintro again w1 ⟨cI,m⟩
  exact ite_false (decide_eq_false (by omega)) ⟨by rw[eM,cI],m⟩
theorem Ce:ew Pr PC cD 3 32:=ew.of (by kernel_rfl)
theorem bL.jE(t:bL)(x:ag):∀u∈t.cs x,dQ u=true:=by
 intro u hu
 simp only[bL.cs,kL,List.mem_cons,List.not_mem_nil,or_false]at hu
 rcases hu with rfl|rfl|rfl<;>rfl
def dJ(ts:List bL):List Value:=aO bL.cs ts (List.replicate ts.length ⟨none,0,0⟩)
theorem Uw{ts:List bL}{xs:List ag}(h:xs.length=ts.length):aO bL.cs ts xs=dJ ts:=by
 unfold dJ
 induction ts generalizing xs with
 |nil=>simp[aO]
 |cons t r ih=>
  cases xs with
  |nil=>simp at h
  |cons x xs=>
   rw[List.length_cons,List.replicate_succ,rA,rA,ih (by simpa using h)]
   rfl
theorem fk.sl{w:World}{s:ag}{ts:List bL}(h:fk w s ts):Sl w s 3 (dJ ts):=by
 obtain⟨xs,h1,h2⟩:=h
 rw[Uw h2.1]at h1
 exact h1
theorem fk.of{w:World}{s:ag}{ts:List bL}(h:Sl w s 3 (dJ ts)):fk w s ts:=⟨_,h,by simp,λ_ _ _ _ _=>trivial⟩
theorem Tz(ts:List bL)(t:bL):dJ (ts++[t])=dJ ts++kL t.id t.par t.name:=by
 have:=vG (C:=bL.cs) ts (List.replicate ts.length ⟨none,0,0⟩) (by simp) [t] [⟨none,0,0⟩]
 rw[Uw (by simp)]at this
 rw[this,sJ];rfl
theorem O2(x:ag)(ts:List bL)(hl:ts.length<=1000000)(w:World)(hx:fk w x ts):Ok Pr XP [.slice x.a x.n x.c] w λv w'=>∃y:ag,v=.slice y.a y.n y.c/\Own w' w.heap.size cD 3 y (dJ ts)/\y.n=x.n/\Mod [] w w':=by
 refine aC Tryz.func76 ?_
 have aT:=hx.len
 have hs:=hx.sl
 refine aZ (λh=>?_) (λh=>?_)
 ·have h0:x.n=0:=by
   rcases Nat.eq_zero_or_pos x.n with e|e
   ·exact e
   ·have:=Sl.pre hs e
    cases ha:x.a with
    |none=>rw[ha]at this;cases this
    |some a=>rw[ha]at h;cases h
  obtain rfl:ts=[]:=List.eq_nil_of_length_eq_zero (by omega)
  exact⟨⟨none,0,0⟩,rfl,Own.nil _ _ _ _,h0.symm,Mod.refl _ _⟩
 ·refine(ah.start w).nw λp w1 H _=>?_
  have H:=H.qI 0 3 0 0 rfl rfl (Nat.le_refl _) (by simp only[maxLen];omega)
  refine H.app (s:=⟨some ⟨p,0,none⟩,0,0⟩) (vs:=[]) 0 Ce rfl (hs.av H.mod) (ug bL.jE _ _) (by show(0+x.n)*32<=_;omega) (by show 0+x.n<=_;omega) λy w2 H hy=>?_
  exact⟨y,rfl,H.cm 0 rfl,by rw[hy];exact Nat.zero_add _,H.mod⟩
def k5(ts:List bL)(par:Int)(name:ByteArray):Int:=if gE ts=true then (if aF 1 (ts.length:Int) par=true then (if mH name=true then (if ts.any (iM par name)=true then 13 else if ts.length=8 then 12 else 0) else 2) else 9) else 2
def qh(ts:List bL)(par:Int)(name:ByteArray):List bL:=if k5 ts par name=0 then ts++[⟨(ts.length:Int)+1,par,name⟩] else []
def yH(ts:List bL)(par:Int)(name:ByteArray):Int:=if k5 ts par name=0 then (ts.length:Int)+1 else 0
theorem aaw(x:ag)(ts:List bL)(hl:ts.length<=1000000)(par:Int)(name:ByteArray)(w:World)(hx:fk w x ts):Ok Pr aaX [.slice x.a x.n x.c,.int .i64 par,.string name] w λv w'=>∃(y:ag) (er:Value),v=.tuple ⟨[.slice y.a y.n y.c,.int .i64 (yH ts par name),er]⟩/\ah w [] w' [.row cD 3 y (dJ (qh ts par name)),aA.err er (k5 ts par name)]:=by
 refine aC Tryz.func111 (N:=[9]) ?_
 have aT:=hx.len
 have hC:k5 ts par name=if gE ts=true then (if aF 1 (ts.length:Int) par=true then (if mH name=true then (if ts.any (iM par name)=true then 13 else if ts.length=8 then 12 else 0) else 2) else 9) else 2:=rfl
 have hT:qh ts par name=if k5 ts par name=0 then ts++[⟨(ts.length:Int)+1,par,name⟩] else []:=rfl
 have hI:yH ts par name=if k5 ts par name=0 then (ts.length:Int)+1 else 0:=rfl
 generalize k5 ts par name=C at*
 generalize qh ts par name=T at*
 generalize yH ts par name=I at*
 have no:∀ {w3:World} (c:Int),Mod [] w w3->c≠0->C=c->ek Pr Pk [.int .i64 c] w3 λv w4=>∃(y:ag) (er:Value),Value.tuple ⟨[.slice none 0 0,.int .i64 0,v]⟩=.tuple ⟨[.slice y.a y.n y.c,.int .i64 I,er]⟩/\ah w [] w4 [.row cD 3 y (dJ T),aA.err er C]:=by
  intro w3 c m hc cX
  rw[cX,if_neg hc]at hT hI
  subst hT hI
  rw[cX]
  refine an (Za c hc w3) ?_
  rintro e w4 ⟨h,m4⟩
  exact⟨⟨none,0,0⟩,e,rfl,(((ah.start w).dy cD 3).frame m).gW m4 h⟩
 refine an (JS x ts hl w hx) ?_
 rintro _ w1 ⟨rfl,m1⟩
 refine aN ?_
 cases h1:gE ts with
 |false=>
  rw[h1,if_neg (by decide)]at hC
  exact ite_true rfl (no 2 m1 (by decide) hC)
 |true=>
  rw[h1,if_pos rfl]at hC
  refine ite_false rfl (an (Pf x ts par _ (hx.av m1)) ?_)
  rintro _ w2 ⟨rfl,hw⟩
  subst hw
  refine aN ?_
  cases h2:aF 1 (ts.length:Int) par with
  |false=>
   rw[h2,if_neg (by decide)]at hC
   exact ite_true rfl (no 9 m1 (by decide) hC)
  |true=>
   rw[h2,if_pos rfl]at hC
   refine ite_false rfl (an (Pe name _) ?_)
   rintro _ w3 ⟨rfl,hw⟩
   subst hw
   refine aN ?_
   cases h3:mH name with
   |false=>
    rw[h3,if_neg (by decide)]at hC
    exact ite_true rfl (no 2 m1 (by decide) hC)
   |true=>
    rw[h3,if_pos rfl]at hC
    refine ite_false rfl (an (Pg x ts (by omega) par name _ (hx.av m1)) ?_)
    rintro _ w4 ⟨rfl,m4⟩
    have m4:=m1.trans m4
    refine aN ?_
    cases h4:ts.any (iM par name)with
    |true=>
     rw[h4,if_pos rfl]at hC
     exact ite_true rfl (no 13 m4 (by decide) hC)
    |false=>
     rw[h4,if_neg (by decide)]at hC
     refine ite_false rfl ?_
     by_cases h8:ts.length=8
     ·rw[if_pos h8]at hC
      exact ite_true (decide_eq_true (by omega)) (no 12 m4 (by decide) hC)
     rw[if_neg h8]at hC
     rw[hC,if_pos rfl]at hT hI
     subst hT hI
     rw[hC]
     refine ite_false (decide_eq_false (by omega)) ⟨⟨by omega,by omega⟩,nD (an (O2 x ts hl _ (hx.av m4)) ?_)⟩
     rintro _ w5 ⟨y,rfl,hy,j3,m5⟩
     have H:=((ah.start w).frame m4).bg m5 hy
     rw[show((x.n:Nat):Int)+1=(ts.length:Int)+1 by omega]
     refine aS (H.uL 0 Ce rfl rfl (by intro u hu;exact bL.jE ⟨(ts.length:Int)+1,par,name⟩ ⟨none,0,0⟩ u hu) (by omega) (by omega) λy' w6 H _=>⟨y',.nilIface,rfl,?_⟩)
     rw[Tz]
     exact H.gW (Mod.refl _ _) (cA.zero _ _)
theorem Ve{ts:List bL}:∀n,oc ts n=true->∀i,i<n->oS ts i=true
 |0,_,i,hi=>by omega
 |n+1,h,i,hi=>by
  change (oc ts n&&oS ts n)=true at h
  rw[Bool.and_eq_true]at h
  rcases Nat.lt_or_ge i n with h2|h2
  ·exact Ve n h.1 i h2
  ·rw[show i=n by omega];exact h.2
theorem LO{ts:List bL}(h:gE ts=true):ts.length<=8/\∀i,i<ts.length->(ts.getD i tz).id=(i:Int)+1/\0<=(ts.getD i tz).par/\(ts.getD i tz).par<=(i:Int):=by
 unfold gE at h
 rw[Bool.and_eq_true,decide_eq_true_eq]at h
 refine⟨h.1,λi hi=>?_⟩
 have:=Ve _ h.2 i hi
 unfold oS at this
 simp only[Bool.and_eq_true,decide_eq_true_eq]at this
 obtain⟨a,b,c,_⟩:=this
 exact⟨a,by omega,c⟩
def ko(ts:List bL):Nat->Int->List Int
 |0,_=>[]
 |f+1,a=>if aF 1 (ts.length:Int) a=true then a::ko ts f (ts.getD (a - 1).toNat tz).par else []
def oK(ts:List bL)(a:Int):List Int:=if gE ts=true then ko ts (ts.length+1) a else []
theorem G6(ts:List bL):∀(f:Nat) (a:Int),(ko ts f a).length<=f
 |0,_=>by simp[ko]
 |f+1,a=>by
  unfold ko
  split
  ·have:=G6 ts f (ts.getD (a - 1).toNat tz).par
   rw[List.length_cons];omega
  ·simp
theorem ZN(x:ag)(ts:List bL)(hl:ts.length<=1000000)(a:Int)(w:World)(hx:fk w x ts):Ok Pr Z8 [.slice x.a x.n x.c,.int .i64 a] w λv w'=>kR w w' v (oK ts a):=by
 refine aC Tryz.func150 (L:=[(4,[(1,.int .i64),(5,.sl)])]) ?_
 have aT:=hx.len
 refine an (JS x ts hl w hx) ?_
 rintro _ w1 ⟨rfl,m1⟩
 refine aN ?_
 cases hm:gE ts with
 |false=>exact ite_true rfl ⟨⟨none,0,0⟩,rfl,by unfold oK;rw[hm];exact Own.nil _ _ _ _,m1⟩
 |true=>
  obtain⟨h8,CM⟩:=LO hm
  have hP:oK ts a=ko ts (ts.length+1) a:=by unfold oK;rw[if_pos hm]
  have hPl:=G6 ts (ts.length+1) a
  rw[hP]
  generalize MH:ko ts (ts.length+1) a=full at*
  refine ite_false rfl ?_
  refine lV (λ(b:Int) (out:ag) w'=>∃(f:Nat) (pre:List Int),pre++ko ts f b=full/\(aF 1 (ts.length:Int) b=true->b.toNat<f)/\ah w [] w' [.row aU 1 out (bf pre)]) (λb _ _=>b.toNat)
   ⟨ts.length+1,[],MH,λh=>by unfold aF at h;simp only[Bool.and_eq_true,decide_eq_true_eq]at h;omega,by simpa[bf]using ((ah.start w).frame m1).dy aU 1⟩ ?_
  rintro again b out w2 ⟨f,pre,kC,hf,H⟩ aB
  refine an (Pf x ts b _ (hx.av H.mod)) ?_
  rintro _ w3 ⟨rfl,hw⟩
  subst hw
  refine aN ?_
  cases dw:aF 1 (ts.length:Int) b with
  |false=>
   have e:ko ts f b=[]:=by
    cases f with
    |zero=>rfl
    |succ f=>unfold ko;rw[dw];rfl
   rw[e,List.append_nil]at kC
   subst kC
   exact ite_false rfl ⟨out,rfl,H.cm 0 rfl,H.mod⟩
  |true=>
   have bB:=hf dw
   obtain⟨g,rfl⟩:∃g,f=g+1:=⟨f - 1,by omega⟩
   have e:ko ts (g+1) b=b::ko ts g (ts.getD (b - 1).toNat tz).par:=by
    show(if aF 1 (ts.length:Int) b=true then b::ko ts g (ts.getD (b - 1).toNat tz).par else [])=_
    rw[if_pos dw]
   rw[e]at kC
   unfold aF at dw
   simp only[Bool.and_eq_true,decide_eq_true_eq]at dw
   obtain⟨j,hj⟩:∃j:Nat,b - 1=(j:Int):=⟨(b - 1).toNat,by omega⟩
   rw[hj,Int.toNat_natCast]at kC
   obtain⟨q1,q2,q3⟩:=CM j (by omega)
   have k7:=(H.bq 0 rfl).len
   have ako:pre.length<=full.length:=by rw[<- kC];simp
   refine ite_true rfl (H.rK 0 ou rfl (by omega) λfJ w4 H _=>⟨⟨by omega,by omega⟩,?_⟩)
   rw[hj]
   obtain⟨bF,hc⟩:=(hx.av H.mod).at (i:=j) (by omega)
   refine⟨bF,_,hc 1 _ rfl,aB _ fJ w4 ⟨g,pre++[b],by rw[List.append_assoc];exact kC,λh=>?_,H⟩ ?_⟩
   ·omega
   ·show((ts.getD j tz).par).toNat<b.toNat
    omega
theorem Yk(x:ag)(l:List Int)(hl:l.length<=1000000)(v:Int)(w:World)(hx:cl w x l):Ok Pr X5 [.slice x.a x.n x.c,.int .i64 v] w λr w'=>∃z:Int,r=.int .i64 z/\decide (0<=z)=l.any (λy=>decide (v=y))/\w'=w:=by
 refine aC Tryz.func180 (L:=[(2,[(8,.int .i64)])]) ?_
 have aT:=hx.len
 refine bG 0 l.length (λi w'=>(l.take i).any (λy=>decide (v=y))=false/\w'=w) rfl (by omega) ⟨rfl,rfl⟩ ?_ ?_
 ·rintro again i w1 _ hi ⟨hn,rfl⟩ aB
  refine ite_true (decide_eq_true (by omega)) (hx.ld (i:=i) hi rfl (aZ (λhc=>?_) (λhc=>?_)))
  ·exact⟨_,rfl,by rw[vw (λy=>decide (v=y)) l i hi 0 hc];exact decide_eq_true (by omega),rfl⟩
  ·exact⟨⟨by omega,by omega⟩,aB w1 ⟨by rw[vv (λy=>decide (v=y)) l i hi 0,hn,hc];rfl,rfl⟩⟩
 ·rintro again w1 ⟨hn,rfl⟩
  rw[List.take_of_length_le (Nat.le_refl _)]at hn
  exact ite_false (decide_eq_false (by omega)) ⟨_,rfl,by rw[hn];rfl,rfl⟩
def ux(ts:List bL)(a b:Int):Bool:=(oK ts b).any λy=>decide (a=y)
theorem SG(ts:List bL)(a:Int)(h:ts.length<=1000):(oK ts a).length<=1001:=by
 unfold oK
 split
 ·have:=G6 ts (ts.length+1) a;omega
 ·simp
theorem Zb(x:ag)(ts:List bL)(hl:ts.length<=1000)(a b:Int)(w:World)(hx:fk w x ts):Ok Pr Zm [.slice x.a x.n x.c,.int .i64 a,.int .i64 b] w λv w'=>v=.bool (ux ts a b)/\Mod [] w w':=by
 refine aC Tryz.func108 ?_
 refine an (ZN x ts (by omega) b w hx) ?_
 rintro _ w1 ⟨y,rfl,hy,m1⟩
 have qn:=SG ts b hl
 refine aS (an (R:=λv w'=>v=.bool (ux ts a b)/\w'=w1) (aC Tryz.func149 ?_) ?_)
 ·refine an (Yk y (oK ts b) (by omega) a w1 hy.bq) ?_
  rintro _ w2 ⟨z,rfl,hz,hw⟩
  subst hw
  exact bH ⟨by rw[hz];rfl,rfl⟩
 ·rintro _ w2 ⟨rfl,hw⟩
  subst hw
  exact aN ⟨rfl,m1⟩
def iY(l:List bu)(g:bu):bu:=⟨(l.length:Int)+1,g.n1,g.n2,g.n3,g.n4,false⟩
def kD(l:List bu)(g:bu):Int:=if fy l=true/\jl g=true then (if l.length=8 then 12 else 0) else 2
def iB(l:List bu)(g:bu):List bu:=if kD l g=0 then l++[iY l g] else []
def mP(l:List bu)(g:bu):Int:=if kD l g=0 then (l.length:Int)+1 else 0
def akp(e:TypeId)(sz:Nat)(w w':World)(v:Value)(vs:List Value)(n c:Int):Prop:=
 ∃(y:ag) (er:Value),v=.tuple ⟨[.slice y.a y.n y.c,.int .i64 n,er]⟩/\Own w' w.heap.size e sz y vs/\cA w w' er c/\(c≠0->y=⟨none,0,0⟩)/\Mod [] w w'
def ajy(e:TypeId)(sz:Nat)(w w':World)(v:Value)(vs:List Value)(n c:Int):Prop:=
 ∃y:ag,v=.tuple ⟨[.slice y.a y.n y.c,.int .i64 n,.int .i64 c]⟩/\Own w' w.heap.size e sz y vs/\Mod [] w w'
theorem LP{l:List bu}(h:fy l=true):l.length<=8:=by
 unfold fy at h
 simp only[Bool.and_eq_true,decide_eq_true_eq]at h
 exact h.2
theorem aiI(g:bu):cw [g]=g.cells:=by simp[cw]
theorem Ip{w0 w:World}{L:List aA}{K:ag->World->Prop}(i j:Nat)(y:ag)(p:Nat)(l:List bu)(g:bu)(H:ah w0 [] w L)(hi:L[i]? = some (.row cc 6 y (cw l)))(hj:L[j]? = some (.aj p g.cells cc))(hl:l.length<=100000)
  (h:∀z w',ah w0 [] w' (L.set i (.row cc 6 z (cw (l++[g]))))->z.n=l.length+1->K z w'):jc Pr [Dr,Dr] Dr [.slice y.a y.n y.c,.slice (some ⟨p,0,none⟩) 1 1] w K:=by
 have bZ:=(H.aj j hj).sl 6 1 1 (Nat.le_refl _) (Nat.le_refl _)
 have gb:=(H.cG i hi).len
 rw[GQ]at gb
 have bZ:Sl w ⟨some ⟨p,0,none⟩,1,1⟩ 6 (cw [g]):=by rw[aiI];exact bZ
 refine H.app (x:=⟨some ⟨p,0,none⟩,1,1⟩) i Ae hi bZ (B4 _) (by show(y.n+1)*48<=_;omega) (by show y.n+1<=_;omega) λz w' H' hz=>h z w' ?_ (by rw[hz];show y.n+1=_;omega)
 rw[afD]
 exact H'
theorem abL(x:ag)(l:List bu)(g:bu)(hl:l.length<=100000)(w:World)(hx:fN w x l):Ok Pr ab6 [.slice x.a x.n x.c,.agg ⟨g.cells⟩] w λv w'=>akp cc 6 w w' v (cw (iB l g)) (mP l g) (kD l g):=by
 refine aC Tryz.func117 (J:=[(6,[]),(3,[(7,.bool)])]) ?_
 have aT:=hx.len
 rw[show((x.n:Nat):Int)=((l.length:Nat):Int) by omega]
 obtain⟨C,hC⟩:∃C,C=kD l g:=⟨_,rfl⟩
 obtain⟨Ls,hL⟩:∃Ls,Ls=iB l g:=⟨_,rfl⟩
 obtain⟨N,hN⟩:∃N,N=mP l g:=⟨_,rfl⟩
 rw[<- hC,<- hL,<- hN]
 refine(ah.start w).nw λp w1 H _=>gi λgo aV=>fo λgB fu=>?_
 have bad:∀w',Mod [] w1 w'->¬(fy l=true/\jl g=true)->gB true w':=by
  intro w' m cr
  have ec:C=2:=by rw[hC];unfold kD;rw[if_neg cr]
  have el:Ls=[]:=by rw[hL];unfold iB;rw[<- hC,ec];rfl
  have en:N=0:=by rw[hN];unfold mP;rw[<- hC,ec];rfl
  subst ec el en
  refine fu true w' (ite_true rfl (an (Dn 2 (by decide) _) ?_))
  rintro e w2 ⟨h2,m2⟩
  exact⟨⟨none,0,0⟩,e,rfl,Own.nil _ _ _ _,h2.from (H.frame m).mod.size,λ_=>rfl,((H.frame m).frame m2).mod⟩
 have mN:∀w',Mod [] w1 w'->fy l=true->jl g=true->gB false w':=by
  intro w' m hm gF
  have H:=H.frame m
  have h8:=LP hm
  refine fu false w' (ite_false rfl (aZ (λh=>?_) (λh=>?_)))
  ·have h:=of_decide_eq_true h
   have ec:C=12:=by rw[hC];unfold kD;rw[if_pos ⟨hm,gF⟩,if_pos (by omega)]
   have el:Ls=[]:=by rw[hL];unfold iB;rw[<- hC,ec];rfl
   have en:N=0:=by rw[hN];unfold mP;rw[<- hC,ec];rfl
   subst ec el en
   refine an (Dn 12 (by decide) _) ?_
   rintro e w2 ⟨h2,m2⟩
   exact⟨⟨none,0,0⟩,e,rfl,Own.nil _ _ _ _,h2.from H.mod.size,λ_=>rfl,(H.frame m2).mod⟩
  ·have h:=of_decide_eq_false h
   have ec:C=0:=by rw[hC];unfold kD;rw[if_pos ⟨hm,gF⟩,if_neg (by omega)]
   have el:Ls=l++[iY l g]:=by rw[hL];unfold iB;rw[<- hC,if_pos ec]
   have en:N=(l.length:Int)+1:=by rw[hN];unfold mP;rw[<- hC,if_pos ec]
   subst ec el en
   refine aV w' ⟨⟨by omega,by omega⟩,H.st 0 rfl (ai p 0) (by simp) rfl λw2 H=>H.st 0 rfl (ai p 5) (by simp) rfl λw3 H=>?_⟩
   change ah w [] w3 [.aj p (iY l g).cells cc]at H
   have H:=H.drew
   refine H.lU 0 rfl (H.au 0 rfl (ai p 0) rfl ⟨?_,?_⟩)
   ·refine an (F5 x l (by omega) _ (hx.av H.mod)) ?_
    rintro _ w5 ⟨y,rfl,hy,j3,m5⟩
    have H5:=H.bg m5 hy
    refine aS ⟨gm (H.aj 0 rfl) (H5.aj 0 rfl) (fS _ _),gm (H.aj 0 rfl) (H5.aj 0 rfl) rfl,H5.nw λp1 w6 H6 _=>⟨gm (H5.aj 0 rfl) (H6.aj 0 rfl) (fS _ _),?_⟩⟩
    refine Ip 1 2 y p1 l (iY l g) H6 rfl rfl (by omega) λz w7 H7 _=>⟨gm (H6.aj 0 rfl) (H7.aj 0 rfl) (fS _ _),z,.nilIface,rfl,H7.cm 1 rfl,cA.zero _ _,λh=>absurd rfl h,H7.mod⟩
   ·refine H.nw λp1 w5 H5 _=>⟨gm (H.aj 0 rfl) (H5.aj 0 rfl) (fS _ _),an (F5 x l (by omega) _ (hx.av H5.mod)) ?_⟩
    rintro _ w6 ⟨y,rfl,hy,j3,m6⟩
    have H6:=H5.bg m6 hy
    refine aS ⟨gm (H5.aj 0 rfl) (H6.aj 0 rfl) (fS _ _),gm (H5.aj 0 rfl) (H6.aj 0 rfl) rfl,?_⟩
    refine Ip 2 1 y p1 l (iY l g) H6 rfl rfl (by omega) λz w7 H7 _=>⟨gm (H6.aj 0 rfl) (H7.aj 0 rfl) (fS _ _),z,.nilIface,rfl,H7.cm 2 rfl,cA.zero _ _,λh=>absurd rfl h,H7.mod⟩
 refine an (Gf x l (by omega) _ (hx.av H.mod)) ?_
 rintro _ w2 ⟨rfl,m2⟩
 have H:=H.frame m2
 refine aN ?_
 cases hm:fy l with
 |false=>exact ite_true rfl (bad w2 m2 (by rw[hm];simp))
 |true=>
  refine ite_false rfl (H.lU 0 rfl (an (PT g _) ?_))
  rintro _ w3 ⟨rfl,m3⟩
  refine aN ?_
  cases gF:jl g with
  |false=>exact bad w3 (m2.trans m3) (by rw[gF];simp)
  |true=>exact mN w3 (m2.trans m3) hm gF
theorem acO(x:ag)(l:List bu)(g:bu)(hf:∀h∈l,h.fit)(hfg:g.fit)(hl:l.length<=100000)(w:World)(hx:fN w x l):Ok Pr adk [.slice x.a x.n x.c,.agg ⟨g.cells⟩] w λv w'=>ajy cc 6 w w' v (cw (iB l g)) (mP l g) (kD l g):=by
 refine aC Tryz.func137 (J:=[(3,[]),(2,[(14,.bool)])]) ?_
 have aT:=hx.len
 rw[show((x.n:Nat):Int)=((l.length:Nat):Int) by omega]
 obtain⟨C,hC⟩:∃C,C=kD l g:=⟨_,rfl⟩
 obtain⟨Ls,hL⟩:∃Ls,Ls=iB l g:=⟨_,rfl⟩
 obtain⟨N,hN⟩:∃N,N=mP l g:=⟨_,rfl⟩
 rw[<- hC,<- hL,<- hN]
 refine(ah.start w).nw λp w1 H _=>gi λgo aV=>fo λgB fu=>?_
 have bad:∀w',Mod [] w1 w'->¬(fy l=true/\jl g=true)->gB true w':=by
  intro w' m cr
  have ec:C=2:=by rw[hC];unfold kD;rw[if_neg cr]
  have el:Ls=[]:=by rw[hL];unfold iB;rw[<- hC,ec];rfl
  have en:N=0:=by rw[hN];unfold mP;rw[<- hC,ec];rfl
  subst ec el en
  exact fu true w' (ite_true rfl ⟨⟨none,0,0⟩,rfl,Own.nil _ _ _ _,(H.frame m).mod⟩)
 have mN:∀w',Mod [] w1 w'->fy l=true->jl g=true->gB false w':=by
  intro w' m hm gF
  have H:=H.frame m
  have h8:=LP hm
  refine fu false w' (ite_false rfl (aV w' (aZ (λh=>?_) (λh=>?_))))
  ·have h:=of_decide_eq_true h
   have ec:C=12:=by rw[hC];unfold kD;rw[if_pos ⟨hm,gF⟩,if_pos (by omega)]
   have el:Ls=[]:=by rw[hL];unfold iB;rw[<- hC,ec];rfl
   have en:N=0:=by rw[hN];unfold mP;rw[<- hC,ec];rfl
   subst ec el en
   exact⟨⟨none,0,0⟩,rfl,Own.nil _ _ _ _,H.mod⟩
  ·have h:=of_decide_eq_false h
   have ec:C=0:=by rw[hC];unfold kD;rw[if_pos ⟨hm,gF⟩,if_neg (by omega)]
   have el:Ls=l++[iY l g]:=by rw[hL];unfold iB;rw[<- hC,if_pos ec]
   have en:N=(l.length:Int)+1:=by rw[hN];unfold mP;rw[<- hC,if_pos ec]
   subst ec el en
   refine⟨⟨by omega,by omega⟩,H.st 0 rfl (ai p 0) (by simp) rfl λw2 H=>H.st 0 rfl (ai p 5) (by simp) rfl λw3 H=>?_⟩
   change ah w [] w3 [.aj p (iY l g).cells cc]at H
   have H:=H.drew
   refine H.lU 0 rfl (H.au 0 rfl (ai p 0) rfl ⟨?_,?_⟩)
   ·refine H.clone Ae (hx.av H.mod) (B4 l) (by omega) (by omega) λy w5 H5 j3=>?_
    refine⟨gm (H.aj 0 rfl) (H5.aj 0 rfl) (fS _ _),gm (H.aj 0 rfl) (H5.aj 0 rfl) rfl,H5.nw λp1 w6 H6 _=>⟨gm (H5.aj 0 rfl) (H6.aj 0 rfl) (fS _ _),?_⟩⟩
    refine Ip 1 2 y p1 l (iY l g) H6 rfl rfl (by omega) λz w7 H7 _=>⟨gm (H6.aj 0 rfl) (H7.aj 0 rfl) (fS _ _),z,rfl,H7.cm 1 rfl,H7.mod⟩
   ·refine H.nw λp1 w5 H5 _=>⟨gm (H.aj 0 rfl) (H5.aj 0 rfl) (fS _ _),H5.clone Ae (hx.av H5.mod) (B4 l) (by omega) (by omega) λy w6 H6 j3=>?_⟩
    refine⟨gm (H5.aj 0 rfl) (H6.aj 0 rfl) (fS _ _),gm (H5.aj 0 rfl) (H6.aj 0 rfl) rfl,?_⟩
    refine Ip 2 1 y p1 l (iY l g) H6 rfl rfl (by omega) λz w7 H7 _=>⟨gm (H6.aj 0 rfl) (H7.aj 0 rfl) (fS _ _),z,rfl,H7.cm 2 rfl,H7.mod⟩
 refine an (Gn x l hf (by omega) _ (hx.av H.mod)) ?_
 rintro _ w2 ⟨rfl,m2⟩
 have H:=H.frame m2
 refine aN (H.lU 0 rfl ?_)
 cases hm:fy l with
 |false=>exact ite_true rfl (bad w2 m2 (by rw[hm];simp))
 |true=>
  refine ite_false rfl (an (QL g hfg _) ?_)
  rintro _ w3 ⟨rfl,m3⟩
  refine aN ?_
  cases gF:jl g with
  |false=>exact bad w3 (m2.trans m3) (by rw[gF];simp)
  |true=>exact mN w3 (m2.trans m3) hm gF
def wF(g:bu):bu:=⟨g.n0,g.n1,g.n2,g.n3,g.n4,true⟩
def jF(l:List bu)(id:Int):Int:=if fy l=true then (if 1<=id/\id<=(l.length:Int) then (if (l.getD (id - 1).toNat gz).rev=true then 11 else 0) else 9) else 2
def jq(l:List bu)(id:Int):List bu:=if jF l id=0 then l.set (id - 1).toNat (wF (l.getD (id - 1).toNat gz)) else []
theorem Ux:∀(l:List bu) (i:Nat),i<l.length->(cw l).set (i*6+5) (.bool true)=cw (l.set i (wF (l.getD i gz)))
 |[],i,h=>by simp at h
 |a::r,0,_=>by
  show(a.cells++cw r).set (0*6+5) _=(wF a).cells++cw r
  rw[List.set_append_left _ _ (by show 5<6;omega)]
  rfl
 |a::r,i+1,h=>by
  show(a.cells++cw r).set ((i+1)*6+5) _=a.cells++cw (r.set i (wF (r.getD i gz)))
  have hl:a.cells.length=6:=rfl
  rw[List.set_append_right _ _ (by omega),hl,show(i+1)*6+5 - 6=i*6+5 by omega,Ux r i (by simpa using h)]
theorem Vf{w0 w:World}{L:List aA}{K:World->Prop}(k:Nat)(y:ag)(l:List bu)(i:Nat)(x:Int)(H:ah w0 [] w L)(hk:L[k]? = some (.row cc 6 y (cw l)))(hi:i<l.length)(hx:x=(i:Int))
  (h:∀w',ah w0 [] w' (L.set k (.row cc 6 y (cw (l.set i (wF (l.getD i gz))))))->K w'):ij y.a x y.n (Ev.st (Addr.add (Addr.add (base y.a) (Int.toNat x*6)) 5) (.bool true) w K):=by
 subst hx
 have gb:l.length=y.n:=fN.len (H.cG k hk)
 refine⟨⟨Sl.pre (H.cG k hk) (by omega),by omega,by omega⟩,?_⟩
 refine H.gx k hk (i:=i*6+5) (by rw[Int.toNat_natCast,add_add]) (by rw[GQ];omega) rfl λw' H'=>h w' ?_
 rw[<- Ux l i hi]
 exact H'
theorem Zc(x:ag)(l:List bu)(id:Int)(hl:l.length<=100000)(w:World)(hx:fN w x l):Ok Pr Zo [.slice x.a x.n x.c,.int .i64 id] w λv w'=>jC cc 6 w w' v (cw (jq l id)) (jF l id):=by
 refine aC Tryz.func116 ?_
 have aT:=hx.len
 rw[show((x.n:Nat):Int)=((l.length:Nat):Int) by omega]
 refine an (Gf x l (by omega) _ hx) ?_
 rintro _ w1 ⟨rfl,m1⟩
 have H:=(ah.start w).frame m1
 refine aN ?_
 have no:∀(c:Int) (w':World),Mod [] w w'->c≠0->jF l id=c->ek Pr JP [.int .i64 c] w' λv w2=>jC cc 6 w w2 (.tuple ⟨[.slice none 0 0,v]⟩) (cw (jq l id)) (jF l id):=by
  intro c w' m hc ec
  have el:jq l id=[]:=by unfold jq;rw[ec,if_neg hc]
  rw[ec,el]
  refine an (Dn c hc _) ?_
  rintro e w2 ⟨h2,m2⟩
  exact jC.no (h2.from m.size) (m.trans m2)
 cases hm:fy l with
 |false=>exact ite_true rfl (no 2 w1 m1 (by decide) (by unfold jF;rw[hm];rfl))
 |true=>
  refine ite_false rfl (an (Du _ _ _ _) ?_)
  rintro _ w2 ⟨rfl,hw⟩
  subst hw
  refine aN ?_
  by_cases sx:1<=id/\id<=(l.length:Int)
  ·have so:aF 1 (l.length:Int) id=true:=by unfold aF;rw[decide_eq_true sx.1,decide_eq_true sx.2];rfl
   rw[so]
   obtain⟨i,hi⟩:∃i:Nat,id - 1=(i:Int):=⟨(id - 1).toNat,by omega⟩
   have Bi:i<l.length:=by omega
   have iz:=(hx.av m1).cell (i:=i) (j:=5) Bi rfl
   have Bj:(id - 1).toNat=i:=by omega
   refine ite_false rfl ⟨⟨by omega,by omega⟩,⟨⟨Sl.pre hx (by omega),by omega,by omega⟩,?_⟩⟩
   rw[hi]
   refine⟨(l.getD i gz).rev,by rw[Int.toNat_natCast];exact iz,?_⟩
   cases hr:(l.getD i gz).rev with
   |true=>exact ite_true rfl (no 11 _ m1 (by decide) (by unfold jF;rw[if_pos hm,if_pos sx,Bj,hr];rfl))
   |false=>
    have ec:jF l id=0:=by unfold jF;rw[if_pos hm,if_pos sx,Bj,hr];rfl
    have el:jq l id=l.set i (wF (l.getD i gz)):=by unfold jq;rw[if_pos ec,Bj]
    rw[ec,el]
    refine ite_false rfl (an (F5 x l (by omega) _ (hx.av m1)) ?_)
    rintro _ w3 ⟨y,rfl,hy,j3,m3⟩
    have H:=H.bg m3 hy
    refine aS ⟨⟨by omega,by omega⟩,Vf 0 y l i _ H rfl Bi rfl λw4 H=>?_⟩
    exact jC.yes (H.cm 0 rfl) H.mod
  ·have so:aF 1 (l.length:Int) id=false:=by
    unfold aF
    rw[Bool.and_eq_false_iff,decide_eq_false_iff_not,decide_eq_false_iff_not]
    omega
   rw[so]
   exact ite_true rfl (no 9 _ m1 (by decide) (by unfold jF;rw[if_pos hm,if_neg sx]))
theorem ZO(x:ag)(l:List bu)(id:Int)(hf:∀h∈l,h.fit)(hl:l.length<=100000)(w:World)(hx:fN w x l):Ok Pr Z0 [.slice x.a x.n x.c,.int .i64 id] w λv w'=>oG cc 6 w w' v (cw (jq l id)) (jF l id):=by
 refine aC Tryz.func84 ?_
 have aT:=hx.len
 rw[show((x.n:Nat):Int)=((l.length:Nat):Int) by omega]
 refine an (Gn x l hf (by omega) _ hx) ?_
 rintro _ w1 ⟨rfl,m1⟩
 have H:=(ah.start w).frame m1
 refine aN ?_
 have no:∀(c:Int) (w':World),Mod [] w w'->c≠0->jF l id=c->oG cc 6 w w' (.tuple ⟨[.slice none 0 0,.int .i64 c]⟩) (cw (jq l id)) (jF l id):=by
  intro c w' m hc ec
  have el:jq l id=[]:=by unfold jq;rw[ec,if_neg hc]
  rw[ec,el]
  exact⟨⟨none,0,0⟩,rfl,Own.nil _ _ _ _,m⟩
 cases hm:fy l with
 |false=>exact ite_true rfl (no 2 w1 m1 (by decide) (by unfold jF;rw[hm];rfl))
 |true=>
  refine ite_false rfl ?_
  by_cases sx:1<=id/\id<=(l.length:Int)
  ·obtain⟨i,hi⟩:∃i:Nat,id - 1=(i:Int):=⟨(id - 1).toNat,by omega⟩
   have Bi:i<l.length:=by omega
   have iz:=(hx.av m1).cell (i:=i) (j:=5) Bi rfl
   have Bj:(id - 1).toNat=i:=by omega
   refine ite_false ?_ ⟨⟨by omega,by omega⟩,⟨⟨Sl.pre hx (by omega),by omega,by omega⟩,?_⟩⟩
   ·rw[decide_eq_false (by omega),decide_eq_false (by omega)];rfl
   rw[hi]
   refine⟨(l.getD i gz).rev,by rw[Int.toNat_natCast];exact iz,?_⟩
   cases hr:(l.getD i gz).rev with
   |true=>exact ite_true rfl (no 11 _ m1 (by decide) (by unfold jF;rw[if_pos hm,if_pos sx,Bj,hr];rfl))
   |false=>
    have ec:jF l id=0:=by unfold jF;rw[if_pos hm,if_pos sx,Bj,hr];rfl
    have el:jq l id=l.set i (wF (l.getD i gz)):=by unfold jq;rw[if_pos ec,Bj]
    rw[ec,el]
    refine ite_false rfl (H.clone Ae (hx.av m1) (B4 l) (by omega) (by omega) λy w3 H j3=>?_)
    refine⟨⟨by omega,by omega⟩,Vf 0 y l i _ H rfl Bi rfl λw4 H=>?_⟩
    exact⟨y,rfl,H.cm 0 rfl,H.mod⟩
  ·refine ite_true ?_ (no 9 _ m1 (by decide) (by unfold jF;rw[if_pos hm,if_neg sx]))
   rw[Bool.or_eq_true,decide_eq_true_eq,decide_eq_true_eq]
   omega
def bu.five(g:bu):List Int:=[g.n0,g.n1,g.n2,g.n3,g.n4]
@[irreducible] def tok(s:List B8)(g:bu):List B8:=BitVec.ofInt 8 g.n0::cj 136 31 (laid s++ey g.five) 32
theorem GF(l:List B8):(cj 136 31 l 32).length=32:=by
 have:=ot 136 31 l 32 (by omega)
 exact this
theorem afG(s:List B8)(g:bu):(tok s g).length=33:=by
 unfold tok
 rw[List.length_cons,GF]
theorem Pw(x:ag)(s:List B8)(g:bu)(hs:s.length<=1000)(w:World)(hx:Bytes w x s):Ok Pr Z5 [.slice x.a x.n x.c,.agg ⟨g.cells⟩] w λv w'=>iN w w' v (tok s g):=by
 refine aC Tryz.func118 ?_
 have et:tok s g=[BitVec.ofInt 8 g.n0]++cj 136 31 (laid s++ey g.five) 32:=by unfold tok;rfl
 have fe:=GF (laid s++ey g.five)
 rw[et]
 have bZ:(laid s).length=s.length+8:=by unfold laid;rw[List.length_append,BO];omega
 have h5:(ey g.five).length=40:=BJ _
 refine(ah.start w).nw λp w1 H _=>?_
 refine H.au 0 rfl (ai p 0) rfl (H.au 0 rfl (ai p 1) rfl (H.au 0 rfl (ai p 2) rfl (H.au 0 rfl (ai p 3) rfl (H.au 0 rfl (ai p 4) rfl (H.nw λp1 w2 H _=>?_)))))
 refine an (PS ⟨none,0,0⟩ [] ⟨some ⟨p1,0,none⟩,5,5⟩ g.five (by simp) (by show 5<=1000000;omega) _ (Bytes.nil _) (H.HC 1 (l:=g.five) rfl)) ?_
 rintro _ w3 ⟨f,rfl,hf,m3⟩
 rw[List.nil_append]at hf
 have H:=H.bg m3 hf
 have H:=H.drew
 refine aS (H.au 0 rfl (ai p 0) rfl ?_)
 have k0:∀ {w' bS:World} {L L':List aA},ah w [] w' L->ah w [] bS L'->L[0]? = some (.aj p g.cells cc)->L'[0]? = some (.aj p g.cells cc)->kept (Addr.add ⟨p,0,none⟩ 0) 1 w' bS:=λH H' h h'=>gm (H.aj 0 h) (H'.aj 0 h') (fS _ _)
 have cC:∀ {w':World} {L:List aA} {K:ag->World->Prop} (b p3:Nat),ah w [] w' L->L[b]? = some (.aj p3 [x.v] jh)->(∀y bS,ah w [] bS (L++[.row aE 1 y (aG (laid s))])->K y bS)->ek Pr Qt [.slice none 0 0,.slice (some ⟨p3,0,none⟩) 1 1] w' λv bS=>iU v λt=>K t bS:=by
  intro w' L K b p3 H hb hK
  refine an (abI ⟨none,0,0⟩ [] ⟨some ⟨p3,0,none⟩,1,1⟩ [s] (by simp) (by simp) (λq hq=>by rw[List.mem_singleton.1 hq];omega) _ (Bytes.nil _) (dZ.Fk (H.aj b hb) (by simp) (hx.av H.mod) (jQ _))) ?_
  rintro _ bS ⟨y,rfl,hy,m⟩
  rw[show[]++jD [s]=laid s by simp[jD]]at hy
  exact aS (hK y bS (H.bg m hy))
 have cE:∀ {w':World} {L:List aA} {K:ag->World->Prop} (b p4 c:Nat) (y:ag),ah w [] w' L->L[b]? = some (.aj p4 [y.v,f.v] jh)->L[c]? = some (.row aE 1 y (aG (laid s)))->L[2]? = some (.row aE 1 f (aG (ey g.five)))->
   (∀z bS,ah w [] bS (L++[.row aE 1 z (aG (cj 136 31 (laid s++ey g.five) 32))])->K z bS)->ek Pr O5 [.int .i64 32,.slice (some ⟨p4,0,none⟩) 2 2] w' λv bS=>iU v λt=>K t bS:=by
  intro w' L K b p4 c y H hb hc h2 hK
  refine an (JE 32 ⟨some ⟨p4,0,none⟩,2,2⟩ [laid s,ey g.five] _ (dZ.As (H.aj b hb) (by simp) (H.bytes c hc) (jQ _) (H.bytes 2 h2) (jQ _)) (zV rfl (by omega) (by omega))) ?_
  rintro _ bS ⟨z,rfl,hz,m⟩
  rw[show[laid s,ey g.five].flatten=laid s++ey g.five by simp]at hz
  exact aS (hK z bS (H.bg m hz))
 generalize cj 136 31 (laid s++ey g.five) 32=o at*
 have fin:∀ {w':World} {L:List aA} (a e p2:Nat) (z:ag),ah w [] w' L->L[a]? = some (.aj p2 [.int .u8 (IntKind.wrap .u8 g.n0)] aE)->L[e]? = some (.row aE 1 z (aG o))->
   jc Pr [jh,jh] jh [.slice (some ⟨p2,0,none⟩) 1 1,.slice z.a z.n z.c] w' λt bS=>iN w bS (.slice t.a t.n t.c) ([BitVec.ofInt 8 g.n0]++o):=by
  intro w' L a e p2 z H ha he
  have hz:=H.bytes e he
  have gR:=hz.len
  have nX:a<L.length:=(List.getElem?_eq_some_iff.1 ha).1
  have H:=H.qI a 1 1 1 ha rfl (Nat.le_refl _) (by simp only[maxLen];omega)
  rw[oo]at H
  refine H.iX (s:=⟨some ⟨p2,0,none⟩,1,1⟩) (vs:=[BitVec.ofInt 8 g.n0]) a cg (by rw[List.getElem?_set_self nX];rfl) hz (by show 1+z.n<=_;omega) λt bS H _=>⟨t,rfl,?_,H.mod⟩
  exact H.cm a (by rw[List.getElem?_set_self (by simpa using nX)])
 refine⟨?_,?_⟩
 ·refine H.nw λp2 w4 H4 _=>H4.nw λp3 w5 H5 _=>⟨k0 H4 H5 rfl rfl,cC 4 p3 H5 rfl λy w6 H6=>⟨k0 H5 H6 rfl rfl,H6.nw λp4 w7 H7 _=>⟨k0 H6 H7 rfl rfl,cE 6 p4 5 y H7 rfl rfl rfl λz w8 H8=>⟨k0 H7 H8 rfl rfl,?_⟩⟩⟩⟩
  exact fin 3 7 p2 z H8 rfl rfl
 ·refine H.nw λp3 w4 H4 _=>⟨k0 H H4 rfl rfl,?_,?_⟩
  ·refine H4.nw λp2 w5 H5 _=>cC 3 p3 H5 rfl λy w6 H6=>⟨k0 H5 H6 rfl rfl,H6.nw λp4 w7 H7 _=>⟨k0 H6 H7 rfl rfl,cE 6 p4 5 y H7 rfl rfl rfl λz w8 H8=>⟨k0 H7 H8 rfl rfl,?_⟩⟩⟩
   exact fin 4 7 p2 z H8 rfl rfl
  ·refine cC 3 p3 H4 rfl λy w5 H5=>⟨k0 H4 H5 rfl rfl,?_,?_⟩
   ·refine H5.nw λp2 w6 H6 _=>H6.nw λp4 w7 H7 _=>⟨k0 H6 H7 rfl rfl,cE 6 p4 4 y H7 rfl rfl rfl λz w8 H8=>⟨k0 H7 H8 rfl rfl,?_⟩⟩
    exact fin 5 7 p2 z H8 rfl rfl
   ·refine H5.nw λp4 w6 H6 _=>⟨k0 H5 H6 rfl rfl,?_,?_⟩
    ·refine H6.nw λp2 w7 H7 _=>cE 5 p4 4 y H7 rfl rfl rfl λz w8 H8=>⟨k0 H7 H8 rfl rfl,?_⟩
     exact fin 6 7 p2 z H8 rfl rfl
    ·refine cE 5 p4 4 y H6 rfl rfl rfl λz w7 H7=>⟨k0 H6 H7 rfl rfl,H7.nw λp2 w8 H8 _=>?_⟩
     exact fin 7 6 p2 z H8 rfl rfl
theorem PV(x:ag)(s:List B8)(g:bu)(hs:s.length<=1000)(w:World)(hx:Bytes w x s):Ok Pr Qa [.slice x.a x.n x.c,.agg ⟨g.cells⟩] w λv w'=>iN w w' v (tok s g):=by
 refine aC Tryz.func138 (J:=[(2,[(5,.sl)])]) ?_
 have et:tok s g=[BitVec.ofInt 8 g.n0]++cj 136 31 (laid s++ey g.five) 32:=by unfold tok;rfl
 have fe:=GF (laid s++ey g.five)
 rw[et]
 have bZ:(laid s).length=s.length+8:=by unfold laid;rw[List.length_append,BO];omega
 have h5:(ey g.five).length=40:=BJ _
 refine(ah.start w).nw λp w1 H _=>fo λgo aV=>?_
 have k0:∀ {w' bS:World} {L L':List aA} {i:Nat},ah w [] w' L->ah w [] bS L'->L[0]? = some (.aj p g.cells cc)->L'[0]? = some (.aj p g.cells cc)->kept (Addr.add ⟨p,0,none⟩ i) 1 w' bS:=λH H' h h'=>gm (H.aj 0 h) (H'.aj 0 h') (fS _ _)
 have rest:∀(b:ag) (w':World) (L:List aA) (k:Nat),ah w [] w' L->L[0]? = some (.aj p g.cells cc)->L[k]? = some (.row aE 1 b (aG (laid s++ey g.five)))->0<k->go b w':=by
  intro b w' L k H h0 hk FO
  have H:ah w [] w' [.aj p g.cells cc,.row aE 1 b (aG (laid s++ey g.five))]:=H.two 0 k h0 hk (by omega)
  refine aV b w' ?_
  have H:=H.drew
  refine H.au 0 rfl (ai p 0) rfl ?_
  have cE:∀ {w':World} {L:List aA} {K:ag->World->Prop},ah w [] w' L->L[1]? = some (.row aE 1 b (aG (laid s++ey g.five)))->
    (∀z bS,ah w [] bS (L++[.row aE 1 z (aG (cj 136 31 (laid s++ey g.five) 32))])->K z bS)->ek Pr Pn [.int .i64 32,.slice b.a b.n b.c] w' λv bS=>iU v λt=>K t bS:=by
   intro w' L K H hb hK
   refine an (JI 32 b _ _ (H.bytes 1 hb) (by rw[List.length_append];omega)) ?_
   rintro _ bS ⟨z,rfl,hz,m⟩
   exact aS (hK z bS (H.bg m hz))
  have fin:∀ {w':World} {L:List aA} (a e p2:Nat) (z:ag),ah w [] w' L->L[a]? = some (.aj p2 [.int .u8 (IntKind.wrap .u8 g.n0)] aE)->L[e]? = some (.row aE 1 z (aG (cj 136 31 (laid s++ey g.five) 32)))->
    jc Pr [jh,jh] jh [.slice (some ⟨p2,0,none⟩) 1 1,.slice z.a z.n z.c] w' λt bS=>iN w bS (.slice t.a t.n t.c) ([BitVec.ofInt 8 g.n0]++cj 136 31 (laid s++ey g.five) 32):=by
   intro w' L a e p2 z H ha he
   generalize cj 136 31 (laid s++ey g.five) 32=o at*
   have hz:=H.bytes e he
   have gR:=hz.len
   have nX:a<L.length:=(List.getElem?_eq_some_iff.1 ha).1
   have H:=H.qI a 1 1 1 ha rfl (Nat.le_refl _) (by simp only[maxLen];omega)
   rw[oo]at H
   refine H.iX (s:=⟨some ⟨p2,0,none⟩,1,1⟩) (vs:=[BitVec.ofInt 8 g.n0]) a cg (by rw[List.getElem?_set_self nX];rfl) hz (by show 1+z.n<=_;omega) λt bS H _=>⟨t,rfl,?_,H.mod⟩
   exact H.cm a (by rw[List.getElem?_set_self (by simpa using nX)])
  refine⟨?_,?_⟩
  ·refine H.nw λp2 w4 H4 _=>cE H4 rfl λz w5 H5=>⟨k0 H4 H5 rfl rfl,?_⟩
   exact fin 2 3 p2 z H5 rfl rfl
  ·refine cE H rfl λz w5 H5=>⟨k0 H H5 rfl rfl,H5.nw λp2 w6 H6 _=>?_⟩
   exact fin 3 2 p2 z H6 rfl rfl
 have H:=H.drew
 refine H.au 0 rfl (ai p 0) rfl (H.au 0 rfl (ai p 1) rfl (H.au 0 rfl (ai p 2) rfl (H.au 0 rfl (ai p 3) rfl (H.au 0 rfl (ai p 4) rfl ?_))))
 have cC:∀ {w':World} {L:List aA} {K:ag->World->Prop} (b p3:Nat),ah w [] w' L->L[b]? = some (.aj p3 [x.v] jh)->(∀y bS,ah w [] bS (L++[.row aE 1 y (aG (laid s))])->K y bS)->ek Pr Qb [.slice none 0 0,.slice (some ⟨p3,0,none⟩) 1 1] w' λv bS=>iU v λt=>K t bS:=by
  intro w' L K b p3 H hb hK
  refine an (aas ⟨none,0,0⟩ [] ⟨some ⟨p3,0,none⟩,1,1⟩ [s] (by simp) (by simp) (λq hq=>by rw[List.mem_singleton.1 hq];omega) _ (Bytes.nil _) (dZ.Fk (H.aj b hb) (by simp) (hx.av H.mod) (jQ _))) ?_
  rintro _ bS ⟨y,rfl,hy,m⟩
  rw[show[]++jD [s]=laid s by simp[jD]]at hy
  exact aS (hK y bS (H.bg m hy))
 have cN:∀ {w':World} {L:List aA} {K:ag->World->Prop} (b p4 c:Nat) (y:ag),ah w [] w' L->L[b]? = some (.aj p4 (bf g.five) aU)->L[c]? = some (.row aE 1 y (aG (laid s)))->
   (∀z bS,ah w [] bS (L++[.row aE 1 z (aG (laid s++ey g.five))])->K z bS)->ek Pr PB [.slice y.a y.n y.c,.slice (some ⟨p4,0,none⟩) 5 5] w' λv bS=>iU v λt=>K t bS:=by
  intro w' L K b p4 c y H hb hc hK
  refine an (Pv y _ ⟨some ⟨p4,0,none⟩,5,5⟩ g.five (by omega) (by show 5<=1000000;omega) _ (H.bytes c hc) (H.HC b (l:=g.five) hb)) ?_
  rintro _ bS ⟨z,rfl,hz,m⟩
  exact aS (hK z bS (H.bg m hz))
 refine⟨?_,?_⟩
 ·refine H.nw λp3 w2 H2 _=>⟨k0 H H2 rfl rfl,k0 H H2 rfl rfl,k0 H H2 rfl rfl,k0 H H2 rfl rfl,k0 H H2 rfl rfl,?_,?_⟩
  ·refine cC 1 p3 H2 rfl λy w3 H3=>⟨k0 H2 H3 rfl rfl,k0 H2 H3 rfl rfl,k0 H2 H3 rfl rfl,k0 H2 H3 rfl rfl,k0 H2 H3 rfl rfl,H3.nw λp4 w4 H4 _=>cN 3 p4 2 y H4 rfl rfl λz w5 H5=>?_⟩
   exact rest z w5 _ 4 H5 rfl rfl (by omega)
  ·refine H2.nw λp4 w3 H3 _=>cC 1 p3 H3 rfl λy w4 H4=>⟨k0 H3 H4 rfl rfl,k0 H3 H4 rfl rfl,k0 H3 H4 rfl rfl,k0 H3 H4 rfl rfl,k0 H3 H4 rfl rfl,cN 2 p4 3 y H4 rfl rfl λz w5 H5=>?_⟩
   exact rest z w5 _ 4 H5 rfl rfl (by omega)
 ·refine H.nw λp4 w2 H2 _=>H2.nw λp3 w3 H3 _=>⟨k0 H2 H3 rfl rfl,k0 H2 H3 rfl rfl,k0 H2 H3 rfl rfl,k0 H2 H3 rfl rfl,k0 H2 H3 rfl rfl,cC 2 p3 H3 rfl λy w4 H4=>⟨k0 H3 H4 rfl rfl,k0 H3 H4 rfl rfl,k0 H3 H4 rfl rfl,k0 H3 H4 rfl rfl,k0 H3 H4 rfl rfl,cN 1 p4 3 y H4 rfl rfl λz w5 H5=>?_⟩⟩
  exact rest z w5 _ 4 H5 rfl rfl (by omega)
end Go.Proofs.YtgjoehgomjgckaaGreatDoor
end
