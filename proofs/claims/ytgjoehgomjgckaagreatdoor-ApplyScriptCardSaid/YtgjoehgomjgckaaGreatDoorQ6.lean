/- Texts of this claim, packed and shortened. -/
import Derived.Test.YtgjoehgomjgckaaGreatDoorQ5
import Derived.Test.YtgjoehgomjgckaaGreatDoorQ1
import Derived.Test.YtgjoehgomjgckaaGreatDoorQ2
section
set_option linter.unusedVariables false
set_option linter.unusedSimpArgs false
namespace Go.Proofs.YtgjoehgomjgckaaGreatDoor
open Go Go.Ev
set_option maxRecDepth 20000
set_option linter.unusedVariables false
variable{w0:World}{fp:List Nat}{ow:Int}
def mh(l s:List B8)(i:Nat):List B8:=(List.range s.length).map λj=>if j<i then s.getD j 0^^^l.getD j 0 else s.getD j 0
theorem xV(l s:List B8)(i:Nat):(mh l s i).length=s.length:=by simp[mh]
theorem Hi(l s:List B8)(i j:Nat)(hj:j<s.length):(mh l s i)[j]? = some (if j<i then s.getD j 0^^^l.getD j 0 else s.getD j 0):=by
 unfold mh
 rw[List.getElem?_map,List.getElem?_range hj];rfl
theorem SJ(l s:List B8):mh l s 0=s:=by
 refine List.ext_getElem? λj=>?_
 rcases Nat.lt_or_ge j s.length with h|h
 ·rw[Hi l s 0 j h,if_neg (by omega),List.getD_eq_getElem?_getD,List.getElem?_eq_getElem h];rfl
 ·rw[List.getElem?_eq_none (by rw[xV];exact h),List.getElem?_eq_none h]
theorem agF(l s:List B8)(i:Nat)(hi:i<s.length):(mh l s i).set i (s.getD i 0^^^l.getD i 0)=mh l s (i+1):=by
 refine List.ext_getElem? λj=>?_
 rw[List.getElem?_set]
 rcases Nat.lt_or_ge j s.length with h|h
 ·rw[Hi l s (i+1) j h]
  by_cases e:i=j
  ·subst e
   rw[if_pos rfl,if_pos (by rw[xV];exact hi),if_pos (by omega)]
  ·rw[if_neg e,Hi l s i j h]
   by_cases h2:j<i
   ·rw[if_pos h2,if_pos (by omega)]
   ·rw[if_neg h2,if_neg (by omega)]
 ·rw[if_neg (by omega),List.getElem?_eq_none (by rw[xV];exact h),List.getElem?_eq_none (by rw[xV];exact h)]
theorem Vk{k:aI}{aJ:Int}{c:List B8}(h:oC k aJ c=0):(oL k aJ c).length=32:=by
 unfold oL
 rw[if_pos h]
 unfold oC at h
 split at h
 ·unfold mz
  rw[if_pos h]
  split
  ·have hg:(j6 k.set (rq k aJ gp) c).length=64:=by unfold j6;exact ot 72 6 _ 64 (by omega)
   rw[List.length_take,hg];rfl
  ·exact ot 136 31 _ 32 (by omega)
 ·omega
theorem LV{k:aI}{m:List B8}(h:iI k m=0):(ju k m).length=32:=by
 unfold ju
 rw[if_pos h]
 unfold iI at h
 split at h
 ·cases hc:fW k with
  |none=>rw[hc]at h;cases h
  |some v=>
   rw[hc]at h
   unfold ob
   rw[if_pos (show jL k.set (ff k.set ((some v).getD vz).ak) m=0 from h),List.length_take,LL];rfl
 ·cases h
def ru(q:aY)(lb ak:List B8)(t:aH):Int:=
 if q.n2=9 then iI (bh q t) ak else (if oC (bh q t) q.n5 lb=0 then (if q.n2=10 then 0 else iI (bh q t) ak) else oC (bh q t) q.n5 lb)
def qx(q:aY)(lb ak:List B8)(t:aH):mg:=
 if q.n2=9 then ⟨qv (bh q t) ak,me (bh q t) ak,ju (bh q t) ak⟩ else if q.n2=10 then ⟨0,oL (bh q t) q.n5 lb,[]⟩
 else ⟨qv (bh q t) ak,me (bh q t) ak,mh (oL (bh q t) q.n5 lb) (ju (bh q t) ak) 32⟩
theorem _root_.Go.Ev.ah.akE{w:World}{S:List Nat}{L:List aA}(H:ah w0 S w L)(k:Nat){y:ag}{l:List B8}(hk:L[k]? = some (.cut y l)){i:Nat}(hi:i<l.length)(x:B8){K:World->Prop}
  (h:∀w',ah w0 S w' (L.set k (.cut y (l.set i x)))->K w'):Ev.st (Addr.add (base y.a) (Int.toNat (i:Int)*1)) (.int .u8 (x.toNat:Int)) w K:=by
 rcases H.ok k _ hk with ⟨rfl,rfl⟩|⟨g,cur,t,h1,h2,h3,h4,h5,h6⟩
 ·simp at hi
 ·have ze:i<cur.length:=by
   have:=congrArg List.length h6
   rw[List.length_take,zF]at this
   omega
  rw[h1]
  show Ev.st (Addr.add ⟨g,0,none⟩ _) _ w K
  rw[Int.toNat_natCast,Nat.mul_one,ai]
  refine HX h2 ze rfl λw' h7 h8 _=>h w' (H.iq k hk h8 (λc hc=>.inl (by simp[aA.cut,ag.row,h1];simpa using hc)) (.inr ⟨g,cur.set i (.int .u8 (x.toNat:Int)),t,h1,h7,by rw[List.length_set];exact h3,h4,⟨h5.1,h5.2.1,by rw[List.length_set];exact h5.2.2⟩,?_⟩) (λb hb=>.inl hb))
  rw[List.take_set,h6]
  show(aG l).set i (.int .u8 (x.toNat:Int))=_
  rw[T9]
theorem Zf{w:World}{S:List Nat}{b:Nat}{q:aY}{t:aH}{s:bW}{sd:ag}{ys zs:List ag}{fq:List Nat}(H:ah w0 S w (cB b q t s ow sd ys zs fp fq))(hs:t.small)(hu:fj q.n2=true)(hk:aF 1 (t.keys.length:Int) q.n4=true)(lb ak:List B8)(hb:∀ {w'},Mod S w0 w'->Bytes w' q.cM lb)(fZ:∀ {w'},Mod S w0 w'->Bytes w' sd ak):
  Ok Pr Zl [.pointer (some ⟨b,0,none⟩)] w λv w'=>jw w0 S w' v b t (qx q lb ak t) (ru q lb ak t):=by
 refine aC Tryz.func58 (J:=[(16,[(6,.sl)]),(13,[(6,.sl)]),(8,[])]) (L:=[(17,[(78,.int .i64)])]) ?_
 rw[pZ,kN]
 have hC:ru q lb ak t=if q.n2=9 then iI (bh q t) ak else (if oC (bh q t) q.n5 lb=0 then (if q.n2=10 then 0 else iI (bh q t) ak) else oC (bh q t) q.n5 lb):=rfl
 have kK:qx q lb ak t=if q.n2=9 then ⟨qv (bh q t) ak,me (bh q t) ak,ju (bh q t) ak⟩ else if q.n2=10 then ⟨0,oL (bh q t) q.n5 lb,[]⟩ else ⟨qv (bh q t) ak,me (bh q t) ak,mh (oL (bh q t) q.n5 lb) (ju (bh q t) ak) 32⟩:=rfl
 obtain⟨i,ei,en,hi⟩:=mD hk
 have tS:bh q t=t.keys.getD i kz:=by unfold bh;rw[en]
 have br:=sM hs hi
 rw[<- tS]at br
 have nS:=hs.key
 generalize ru q lb ak t=C at*
 generalize qx q lb ak t=R at*
 refine H.nw λp w1 H _=>?_
 have D:=H.drew
 obtain⟨ja,bF,x,cu,og⟩:=LU (M:=[_]) D hi
 refine nc (D.az 0 rfl (bz b 14 4) rfl (nc (D.au 0 rfl (bz b 0 4) rfl ⟨by unfold cv;omega,?_⟩)))
 show ij s.key.a (q.n4 - 1) s.key.n _
 rw[ei]
 rw[<- tS]at ja og
 refine⟨bF,mC og (D.gL λp1 w2 E m2=>⟨vM m2 (og 0 _ rfl),D.kept m2 0 rfl (bz b 0 4) 1,D.kept m2 0 rfl (bz b 14 4) 1,E.cO 9 rfl rfl λw3 E=>E.nw λp2 w4 E _=>?_⟩)⟩
 have E:ah w0 S w4 (cB b q t s ow sd ys zs fp fq++[.aj p (bR 0 0 ⟨none,0,0⟩ ⟨none,0,0⟩) ct,.aj p1 (bY (bh q t).id (bh q t).ten (bh q t).set x) aW,.aj p2 (bR 0 0 ⟨none,0,0⟩ ⟨none,0,0⟩) ct]):=E
 have aJ:∀ {w':World} {M:List aA},ah w0 S w' (cB b q t s ow sd ys zs fp fq++M)->dD w' x (bh q t).ay:=λG=>(Mh G cu ja).ay
 generalize Fo:bh q t=k at*
 refine fo λgo aV=>?_
 have loop:∀(old y z:ag) (n:Int) (l lL lS:List B8) (w5:World),C=0->l.length<=32->l.length<=lS.length->R=⟨n,lL,mh l lS l.length⟩->ah w0 S w5 (cB b q t s ow sd ys zs fp fq++[.aj p (bR 0 0 ⟨none,0,0⟩ ⟨none,0,0⟩) ct,.aj p2 (bR 0 n y z) ct,.cut old l,.cut y lL,.cut z lS])->go old w5:=by
  intro old y z n l lL lS w5 hc fe FL hr K
  refine aV _ _ ?_
  have FA:l.length=old.n:=(Cut.bytes (K.ok 10 _ rfl)).len
  refine bG 0 l.length (λi w'=>ah w0 S w' (cB b q t s ow sd ys zs fp fq++[.aj p (bR 0 0 ⟨none,0,0⟩ ⟨none,0,0⟩) ct,.aj p2 (bR 0 n y z) ct,.cut old l,.cut y lL,.cut z (mh l lS i)])) rfl (by omega) (by rw[SJ];exact K) ?_ ?_
  ·intro again i w6 _ hi K aB
   have h1:Bytes w6 old l:=Cut.bytes (K.ok 10 _ rfl)
   have h2:Bytes w6 z (mh l lS i):=Cut.bytes (K.ok 12 _ rfl)
   have vi:=h2.len
   rw[xV]at vi
   have IE:z.a.isSome=true/\(0:Int)<=(i:Int)/\(i:Int)<(z.n:Int):=⟨h2.pre (by omega),by omega,by omega⟩
   have hg:(mh l lS i).getD i 0=lS.getD i 0:=by
    rw[List.getD_eq_getElem?_getD,Hi l lS i i (by omega),if_neg (by omega)];rfl
   refine ite_true (decide_eq_true (by omega)) (h1.ld hi (K.az 9 rfl (ai p2 3) rfl (h2.ld (by rw[xV];omega) ⟨IE,?_⟩)))
   rw[hg,MT]
   refine K.akE 12 rfl (by rw[xV];omega) _ λw7 K=>⟨⟨by omega,by omega⟩,aB w7 ?_⟩
   rw[agF l lS i (by omega)]at K
   exact K
  ·intro again w6 K
   refine ite_false (decide_eq_false (by omega)) (K.dO 9 rfl (K.dm 8 rfl rfl λw8 K=>K.dO 8 rfl ?_))
   refine⟨0,n,y,z,.nilIface,rfl,λh=>absurd hc h,λ_=>⟨rfl,rfl,by rw[hr],q,s,ow,sd,ys,zs,fp,fq,?_⟩⟩
   rw[hr]
   exact K.bX [0,1,2,3,4,5,6,7,11,12] (by decide) rfl
 refine nc (E.au 0 rfl (bz b 0 2) rfl (fo λgB fu=>?_))
 have VM:∀(old:ag) (l:List B8) (w9:World),C=iI k ak->(iI k ak=0->l.length<=32/\R=⟨qv k ak,me k ak,mh l (ju k ak) l.length⟩)->ah w0 S w9 (cB b q t s ow sd ys zs fp fq++[.aj p (bR 0 0 ⟨none,0,0⟩ ⟨none,0,0⟩) ct,.aj p1 (bY k.id k.ten k.set x) aW,.aj p2 (bR 0 0 ⟨none,0,0⟩ ⟨none,0,0⟩) ct,.cut old l])->gB old w9:=by
  intro old l w9 hc hr K
  refine fu _ _ ?_
  have K:=K.drew
  refine K.bD 9 rfl (nc (K.az 0 rfl (ai b 21) rfl (an (acM k x sd ak (by omega) _ (aJ K) (fZ K.mod)) ?_)))
  rintro _ bP ⟨y,z,er,rfl,G⟩
  have K:=K.join G
  refine⟨_,rfl,_,rfl,_,rfl,_,rfl,rfl,K.st 10 rfl (ai p2 1) (by show 1<4;omega) rfl λbQ K=>K.st 10 rfl (ai p2 2) (by show 2<4;omega) rfl λcH K=>K.st 10 rfl (ai p2 3) (by show 3<4;omega) rfl λeg K=>?_⟩
  have he:ig eg er (iI k ak):=K.ok 14 _ rfl
  refine he.isNil ?_
  by_cases e1:iI k ak=0
  ·obtain⟨hl,hr⟩:=hr e1
   rw[e1]at hc
   have K:=K.qF 12 rfl
   refine ite_false (by rw[decide_eq_true e1];rfl) (loop old y z (qv k ak) l (me k ak) (ju k ak) eg hc hl (by rw[LV e1];exact hl) hr ?_)
   exact K.bX [0,1,2,3,4,5,6,7,8,10,11,12,13] (by decide) rfl
  ·refine ite_true (by rw[decide_eq_false e1];rfl) (K.dm 8 rfl rfl λfQ K=>K.dO 8 rfl ?_)
   rw[hc]
   exact jw.no 14 e1 K rfl rfl
 refine gi λgo2 oN=>?_
 have op:q.n2≠9->go2 w4:=by
  intro h9
  rw[if_neg h9]at hC kK
  have K:=E.drew
  refine oN w4 (K.bD 9 rfl (nc (K.au 0 rfl (bz b 0 5) rfl (nc (K.az 0 rfl (bz b 0 12) rfl (an (acN k x q.cM q.n5 lb (by omega) _ (aJ K) (hb K.mod)) ?_))))))
  rintro _ gH ⟨y,er,rfl,G⟩
  have K:=K.join G
  have he:ig gH er (oC k q.n5 lb):=K.ok 12 _ rfl
  refine⟨_,rfl,_,rfl,rfl,he.isNil ?_⟩
  by_cases e1:oC k q.n5 lb=0
  case neg=>
   rw[if_neg e1]at hC
   refine ite_true (by rw[decide_eq_false e1];rfl) (K.dO 10 rfl (K.dm 8 rfl rfl λlI K=>K.dO 8 rfl ?_))
   rw[hC]
   exact jw.no 12 e1 K rfl rfl
  rw[if_pos e1]at hC
  have hl:=Vk e1
  refine ite_false (by rw[decide_eq_true e1];rfl) (nc (K.au 0 rfl (bz b 0 2) rfl ?_))
  show dc (decide (q.n2=10)) _ _
  by_cases jr:q.n2=10
  ·rw[if_pos jr]at hC kK
   refine ite_true (decide_eq_true jr) (K.dm 8 rfl rfl λpF K=>K.dO 8 rfl ?_)
   refine⟨0,0,y,⟨none,0,0⟩,.nilIface,rfl,λh=>absurd hC h,λ_=>⟨rfl,rfl,by rw[kK],q,s,ow,sd,ys,zs,fp,fq,?_⟩⟩
   rw[kK]
   have K:=ah.rI K
   exact K.bX [0,1,2,3,4,5,6,7,11,13] (by decide) rfl
  ·rw[if_neg jr]at hC kK
   refine ite_false (decide_eq_false jr) (VM y (oL k q.n5 lb) gH hC (λ_=>⟨by omega,by rw[kK,hl]⟩) (K.take 12))
 have no9:q.n2=9->gB ⟨none,0,0⟩ w4:=by
  intro h9
  rw[if_pos h9]at hC kK
  exact VM ⟨none,0,0⟩ [] w4 hC (λ_=>⟨by simp,by rw[kK];show _=mg.mk _ _ (mh [] _ 0);rw[SJ]⟩) (ah.rI E)
 show dc (decide (q.n2=11)) (dc (decide (q.n2=11)) _ _) (dc (decide (q.n2=10)) _ _)
 by_cases yP:q.n2=11
 ·exact ite_true (decide_eq_true yP) (ite_true (decide_eq_true yP) (op (by omega)))
 ·refine ite_false (decide_eq_false yP) ?_
  by_cases jr:q.n2=10
  ·exact ite_true (decide_eq_true jr) (op (by omega))
  ·refine ite_false (decide_eq_false jr) (no9 ?_)
   unfold fj at hu
   rw[decide_eq_false yP,decide_eq_false jr,Bool.or_false,Bool.or_false]at hu
   exact of_decide_eq_true hu
def eD(q:aY):bu:=⟨0,q.n4,q.n8,q.n9,q.gS,false⟩
def tf(q:aY)(t:aH):Int:=if q.n2=13 then jF t.aL q.n7 else if q.gS<=t.clock then 2 else kD t.aL (eD q)
def qV(q:aY)(t:aH):aH:={ t with aL:=if q.n2=13 then jq t.aL q.n7 else iB t.aL (eD q) }
def th(q:aY)(t:aH):mg:=if q.n2=13 then ⟨0,[],[]⟩ else ⟨mP t.aL (eD q),tok t.bN (iY t.aL (eD q)),[]⟩
theorem YB{w:World}{S:List Nat}{b:Nat}{q:aY}{t:aH}{s:bW}{sd:ag}{ys zs:List ag}{fq:List Nat}(H:ah w0 S w (cB b q t s ow sd ys zs fp fq))(hs:t.small)(tc:t.bN.length<=1000):
  Ok Pr YK [.pointer (some ⟨b,0,none⟩)] w λv w'=>jw w0 S w' v b (qV q t) (th q t) (tf q t):=by
 refine aC Tryz.func59 ?_
 rw[pZ]
 have sB:=hs.gr
 have hC:tf q t=if q.n2=13 then jF t.aL q.n7 else if q.gS<=t.clock then 2 else kD t.aL (eD q):=rfl
 have hT:qV q t={ t with aL:=if q.n2=13 then jq t.aL q.n7 else iB t.aL (eD q) }:=rfl
 have kK:th q t=if q.n2=13 then ⟨0,[],[]⟩ else ⟨mP t.aL (eD q),tok t.bN (iY t.aL (eD q)),[]⟩:=rfl
 generalize tf q t=C at*
 generalize qV q t=T at*
 generalize th q t=R at*
 refine H.nw λp w1 H _=>?_
 have D:=H.drew
 refine nc (H.au 0 rfl (bz b 0 2) rfl ?_)
 show dc (decide (q.n2=13)) _ _
 by_cases fR:q.n2=13
 ·rw[if_pos fR]at hC hT kK
  have hR:dF _ s t:=wg (D.take 8)
  refine ite_true (decide_eq_true fR) (nc (D.az 0 rfl (bz b 14 5) rfl (nc (D.au 0 rfl (bz b 0 7) rfl (an (Zc s.gr t.aL q.n7 (by omega) _ hR.gr) ?_)))))
  rintro _ w2 ⟨y,er,rfl,hy,he,hn,m⟩
  have K:=D.MX m hy he hn
  refine⟨_,rfl,_,rfl,rfl,nc (K.st 0 rfl (bz b 14 5) (by show 19<22;omega) rfl λw3 K=>K.dm 8 rfl rfl λw4 K=>K.dO 8 rfl ?_)⟩
  refine⟨0,0,⟨none,0,0⟩,⟨none,0,0⟩,er,rfl,λ_=>by rw[hC];exact K.only 10 rfl,λh0=>?_⟩
  have he:ig w4 er (jF t.aL q.n7):=K.ok 10 _ rfl
  rw[hC]at h0
  rw[h0]at he
  refine⟨ur he,rfl,by rw[kK],q,⟨s.sec,s.ten,s.ax,s.key,y⟩,ow,sd,ys,zs,fp,fq,?_⟩
  rw[hT,kK]
  exact wG (K.bX (L':=cB b q { t with aL:=jq t.aL q.n7 } ⟨s.sec,s.ten,s.ax,s.key,y⟩ ow sd ys zs fp fq) [0,1,2,9,4,5,6,7] (by decide) rfl)
 ·rw[if_neg fR]at hC hT kK
  refine ite_false (decide_eq_false fR) (nc (D.au 0 rfl (bz b 0 10) rfl (nc (D.au 0 rfl (bz b 14 0) rfl ?_))))
  show dc (decide (q.gS<=t.clock)) _ _
  by_cases hu:q.gS<=t.clock
  ·rw[if_pos hu]at hC
   refine ite_true (decide_eq_true hu) (an (Bq 2 (by decide) _) ?_)
   rintro er w3 ⟨h,m3⟩
   have K:=D.gW m3 h
   refine K.dm 8 rfl rfl λw4 K=>K.dO 8 rfl ?_
   rw[hC]
   exact jw.no 9 (by decide) K rfl rfl
  rw[if_neg hu]at hC
  have D2:=D.drew
  have hR:dF _ s t:=wg (D2.take 8)
  refine ite_false (decide_eq_false hu) (nc (D2.az 0 rfl (bz b 14 5) rfl (nc (D2.au 0 rfl (bz b 0 4) rfl (nc (D2.au 0 rfl (bz b 0 8) rfl (nc (D2.au 0 rfl (bz b 0 9) rfl (nc (D2.au 0 rfl (bz b 0 10) rfl (an (abL s.gr t.aL (eD q) (by omega) _ hR.gr) ?_)))))))))))
  rintro _ w7 ⟨y,er,rfl,hy,he,hn,m⟩
  have K:=D2.MX m hy he hn
  refine⟨_,rfl,_,rfl,_,rfl,rfl,he.1.isNil ?_⟩
  by_cases e1:kD t.aL (eD q)=0
  case neg=>
   refine ite_true (by rw[decide_eq_false e1];rfl) (K.dm 8 rfl rfl λw8 K=>K.dO 8 rfl ?_)
   rw[hC]
   exact jw.no 10 e1 K rfl rfl
  have eL:iB t.aL (eD q)=t.aL++[iY t.aL (eD q)]:=by unfold iB;rw[if_pos e1]
  have eN:mP t.aL (eD q)=(t.aL.length:Int)+1:=by unfold mP;rw[if_pos e1]
  have rL:er=.nilIface:=ur (e1▸he.1)
  rw[e1]at hC
  refine ite_false (by rw[decide_eq_true e1];rfl) (nc (K.st 0 rfl (bz b 14 5) (by show 19<22;omega) rfl λw9 K=>?_))
  have K:=K.drew
  have hg:fN _ y (t.aL++[iY t.aL (eD q)]):=eL▸K.cG 9 rfl
  refine nc (K.az 0 rfl (bz b 14 1) rfl ⟨by rw[eN];unfold cv;omega,?_⟩)
  rw[eN,Int.add_sub_cancel]
  have gF:(t.aL++[iY t.aL (eD q)]).getD t.aL.length gz=iY t.aL (eD q):=by
   rw[List.getD_eq_getElem?_getD,List.getElem?_append_right (Nat.le_refl _),Nat.sub_self];rfl
  refine hg.ld (i:=t.aL.length) (by simp) rfl ?_
  rw[gF]
  refine an (Pw s.sec t.bN (iY t.aL (eD q)) tc _ (Own.bytes (K.l8 1 rfl))) ?_
  rintro _ bP ⟨z,rfl,hz,o9⟩
  have K:=K.bg o9 hz
  refine aS (K.dm 8 rfl rfl λbQ K=>K.dO 8 rfl ?_)
  refine⟨0,(t.aL.length:Int)+1,z,⟨none,0,0⟩,.nilIface,rfl,λh=>absurd hC h,λ_=>⟨rfl,rfl,by rw[kK,eN],q,⟨s.sec,s.ten,s.ax,s.key,y⟩,ow,sd,ys,zs,fp,fq,?_⟩⟩
  rw[hT,kK]
  have K:=ah.rI (K.qF 11 rfl)
  exact K.bX (L':=cB b q { t with aL:=iB t.aL (eD q) } ⟨s.sec,s.ten,s.ax,s.key,y⟩ ow sd ys zs fp fq++[.cut z (tok t.bN (iY t.aL (eD q))),.cut ⟨none,0,0⟩ []]) [0,1,2,9,4,5,6,7,11,12] (by decide) rfl
def iS(q:aY)(lb ak:List B8)(t:aH):Int:=
 if q.n2=1 then k5 t.bn q.n3 q.name else if q.n2=2 then td lb t else if q.n2=3 then yJ q ak t else if fj q.n2=true then ru q lb ak t
 else if q.n2=12\/q.n2=13 then tf q t else rO q ak t
def hO(q:aY)(lb ak:List B8)(t:aH):aH:=
 if q.n2=1 then wH q t else if q.n2=2 then jG q lb t else if q.n2=3 then mT q ak t else if fj q.n2=true then t
 else if q.n2=12\/q.n2=13 then qV q t else qU q ak t
def jx(q:aY)(lb ak:List B8)(t:aH):mg:=
 if q.n2=1 then CN q t else if q.n2=2 then uQ t else if q.n2=3 then AA q ak t else if fj q.n2=true then qx q lb ak t
 else if q.n2=12\/q.n2=13 then th q t else rP q ak t
structure Fit(q:aY)(t:aH):Prop where
 small:t.small
 ax:t.ax.length<=6
 key:t.keys.length<=6
 sec:t.bN.length=32
 the:fO q.n2=false->aF 1 (t.keys.length:Int) q.n4=true
theorem _root_.Go.Ev.ah.sub{w:World}{S:List Nat}{L M:List aA}(H:ah w0 S w (L++M)):ah w (L.flatMap (·.fp)) w L:=by
 have e:∀ {k:Nat} {r:aA},L[k]? = some r->(L++M)[k]? = some r:=λ{k r} h=>by
  rw[List.getElem?_append_left (List.getElem?_eq_some_iff.1 h).1];exact h
 exact⟨Mod.refl _ _,λk r h=>H.ok k r (e h),λk r h b hb=>.inl (List.mem_flatMap.2 ⟨r,List.mem_of_getElem? h,hb⟩),λj k r s je h1 h2=>H.apart j k r s je (e h1) (e h2)⟩
theorem _root_.Go.Ev.ah.EX{w:World}{S:List Nat}{L M:List aA}(H:ah w0 S w (L++M)):∀b∈L.flatMap (·.fp),b∈S\/w0.heap.size<=b:=λb hb=>by
 obtain⟨r,hr,hb⟩:=List.mem_flatMap.1 hb
 obtain⟨k,hk⟩:=List.getElem?_of_mem hr
 exact H.own k r (by rw[List.getElem?_append_left (List.getElem?_eq_some_iff.1 hk).1];exact hk) b hb
theorem _root_.Go.Ev.ah.back{w w':World}{S:List Nat}{L M L':List aA}(H:ah w0 S w (L++M))(K:ah w (L.flatMap (·.fp)) w' L'):ah w0 S w' (L'++M):=by
 have hL:∀b∈L.flatMap (·.fp),(b∈S\/w0.heap.size<=b)/\∃(k:Nat) (r:aA),L[k]? = some r/\b∈r.fp:=λb hb=>by
  obtain⟨r,hr,hb⟩:=List.mem_flatMap.1 hb
  obtain⟨k,hk⟩:=List.getElem?_of_mem hr
  have kF:(L++M)[k]? = some r:=by rw[List.getElem?_append_left (List.getElem?_eq_some_iff.1 hk).1];exact hk
  exact⟨H.own k r kF b hb,k,r,hk,hb⟩
 have em:∀ {k:Nat} {r:aA},M[k]? = some r->(L++M)[L.length+k]? = some r:=λ{k r} h=>by
  rw[List.getElem?_append_right (Nat.le_add_right _ _),Nat.add_sub_cancel_left];exact h
 have hM:∀ {k:Nat} {r:aA},M[k]? = some r->∀b∈r.fp,b<w.heap.size/\b∉L.flatMap (·.fp):=λ{k r} h b hb=>by
  refine⟨r.lt w (H.ok _ r (em h)) b hb,λh2=>?_⟩
  obtain⟨_,i,s,hi,hs⟩:=hL b h2
  have Bi:=(List.getElem?_eq_some_iff.1 hi).1
  exact H.apart i (L.length+k) s r (by omega) (by rw[List.getElem?_append_left Bi];exact hi) (em h) b hs hb
 have e:∀ {k:Nat} {r:aA},(L'++M)[k]? = some r->(L'[k]? = some r/\k<L'.length)\/(L'.length<=k/\M[k - L'.length]? = some r):=λ{k r} h=>by
  rcases Nat.lt_or_ge k L'.length with hk|hk
  ·rw[List.getElem?_append_left hk]at h;exact .inl ⟨h,hk⟩
  ·rw[List.getElem?_append_right hk]at h;exact .inr ⟨hk,h⟩
 have x:∀ {j k:Nat} {r s:aA},L'[j]? = some r->M[k]? = some s->∀b∈r.fp,b∉s.fp:=λ{j k r s} h1 h2 b h3 h4=>by
  obtain⟨h5,h6⟩:=hM h2 b h4
  rcases K.own j r h1 b h3 with h|h
  ·exact h6 h
  ·omega
 refine⟨H.mod.trans' K.mod λb hb=>(hL b hb).1,λk r h=>?_,λk r h b hb=>?_,λj k r s je h1 h2 b hb gZ=>?_⟩
 ·rcases e h with ⟨h,_⟩|⟨_,h⟩
  ·exact K.ok k r h
  ·exact r.gV w w' (λb hb=>K.mod.block b (hM h b hb).1 (hM h b hb).2) (H.ok _ r (em h))
 ·rcases e h with ⟨h,_⟩|⟨_,h⟩
  ·rcases K.own k r h b hb with h3|h3
   ·exact(hL b h3).1
   ·exact .inr (Nat.le_trans H.mod.size h3)
  ·exact H.own _ r (em h) b hb
 ·rcases e h1 with ⟨g1,l1⟩|⟨l1,g1⟩
  ·rcases e h2 with ⟨g2,_⟩|⟨_,g2⟩
   ·exact K.apart j k r s je g1 g2 b hb gZ
   ·exact x g1 g2 b hb gZ
  ·rcases e h2 with ⟨g2,_⟩|⟨l2,g2⟩
   ·exact x g2 g1 b gZ hb
   ·exact H.apart _ _ r s (by omega) (em g1) (em g2) b hb gZ
theorem ZU{w:World}{S:List Nat}{b:Nat}{q:aY}{t:aH}{s:bW}{sd:ag}{ys zs:List ag}{fq:List Nat}(H:ah w0 S w (cB b q t s ow sd ys zs fp fq))(hf:Fit q t)(lb ak:List B8)(hb:∀ {w'},Mod S w0 w'->Bytes w' q.cM lb)(bZ:ak.length<=1000000)(fZ:∀ {w'},Mod S w0 w'->Bytes w' sd ak):
  Ok Pr Pz [.pointer (some ⟨b,0,none⟩)] w λv w'=>jw w0 S w' v b (hO q lb ak t) (jx q lb ak t) (iS q lb ak t):=by
 refine aC Tryz.func28 (J:=[(15,[]),(11,[(27,.bool)]),(14,[(35,.bool)])]) ?_
 rw[pZ]
 have hC:iS q lb ak t=if q.n2=1 then k5 t.bn q.n3 q.name else if q.n2=2 then td lb t else if q.n2=3 then yJ q ak t else if fj q.n2=true then ru q lb ak t else if q.n2=12\/q.n2=13 then tf q t else rO q ak t:=rfl
 have hT:hO q lb ak t=if q.n2=1 then wH q t else if q.n2=2 then jG q lb t else if q.n2=3 then mT q ak t else if fj q.n2=true then t else if q.n2=12\/q.n2=13 then qV q t else qU q ak t:=rfl
 have hR:jx q lb ak t=if q.n2=1 then CN q t else if q.n2=2 then uQ t else if q.n2=3 then AA q ak t else if fj q.n2=true then qx q lb ak t else if q.n2=12\/q.n2=13 then th q t else rP q ak t:=rfl
 generalize iS q lb ak t=C at*
 generalize hO q lb ak t=T at*
 generalize jx q lb ak t=R at*
 refine H.nw λp w1 H _=>?_
 have H:ah w0 S w1 (cB b q t s ow sd ys zs fp fq++[.aj p (bR 0 0 ⟨none,0,0⟩ ⟨none,0,0⟩) ct]):=H
 have gZ:∀ {w'},Mod ((cB b q t s ow sd ys zs fp fq).flatMap (·.fp)) w1 w'->Bytes w' q.cM lb:=λ{w'} m=>hb (H.mod.trans' m H.EX)
 have Np:∀ {w'},Mod ((cB b q t s ow sd ys zs fp fq).flatMap (·.fp)) w1 w'->Bytes w' sd ak:=λ{w'} m=>fZ (H.mod.trans' m H.EX)
 have D:=H.sub
 have fin:∀ {f:FuncId} (T':aH) (R':mg) (C':Int),Ok Pr f [.pointer (some ⟨b,0,none⟩)] w1 (λv w'=>jw w1 ((cB b q t s ow sd ys zs fp fq).flatMap (·.fp)) w' v b T' R' C')->T'=T->R'=R->C'=C->
   ek Pr f [.pointer (some ⟨b,0,none⟩)] w1 λv w3=>ny.vW v λvs=>bM vs λv_1 r=>zx v_1 λa1 a2 a3 a4=>bM r λv_2 r_1=>(r_1=[]/\dm ⟨p,0,none⟩ a1 a2 a3 a4 w3 λw4=>dO ⟨p,0,none⟩ w4 λc1 c2 c3 c4=>jw w0 S w4 (.tuple ⟨[.agg ⟨[.int .i64 c1,.int .i64 c2,.slice c3.a c3.n c3.c,.slice c4.a c4.n c4.c]⟩,v_2]⟩) b T R C):=by
  intro f T' R' C' h e1 e2 e3
  subst e1 e2 e3
  refine an h ?_
  rintro _ w3 ⟨rc,ri,y,z,er,rfl,h1,h2⟩
  refine⟨_,rfl,tX ⟨rfl,?_⟩⟩
  by_cases hc:C'=0
  ·obtain⟨rfl,rfl,rfl,q',s',jM,OG,tQ,tR,vm,vo,K⟩:=h2 hc
   have K:=H.back K
   refine K.dm 10 rfl rfl λw4 K=>K.dO 10 rfl ?_
   exact⟨0,R'.id,y,z,.nilIface,rfl,λh=>absurd hc h,λ_=>⟨rfl,rfl,rfl,q',s',jM,OG,tQ,tR,vm,vo,K.take 10⟩⟩
  ·have K:=H.back (h1 hc)
   refine K.dm 1 rfl rfl λw4 K=>K.dO 1 rfl ?_
   exact jw.no 0 hc K rfl rfl
 refine gi λgo aV=>nc (H.au 0 rfl (bz b 0 2) rfl ?_)
 show dc (decide (q.n2=1)) _ _
 by_cases e1:q.n2=1
 ·rw[if_pos e1]at hC hT hR
  exact ite_true (decide_eq_true e1) (fin _ _ _ (Yn D hf.small) hT.symm hR.symm hC.symm)
 rw[if_neg e1]at hC hT hR
 refine ite_false (decide_eq_false e1) ?_
 by_cases e2:q.n2=2
 ·rw[if_pos e2]at hC hT hR
  exact ite_true (decide_eq_true e2) (fin _ _ _ (Yo D hf.small hf.ax lb gZ) hT.symm hR.symm hC.symm)
 rw[if_neg e2]at hC hT hR
 refine ite_false (decide_eq_false e2) ?_
 by_cases e3:q.n2=3
 ·rw[if_pos e3]at hC hT hR
  exact ite_true (decide_eq_true e3) (fin _ _ _ (Yp D hf.small hf.key ak bZ Np) hT.symm hR.symm hC.symm)
 rw[if_neg e3]at hC hT hR
 have hm:fO q.n2=false:=by
  unfold fO
  rw[decide_eq_false e1,decide_eq_false e2,decide_eq_false e3];rfl
 have hk:=hf.the hm
 have tc:t.bN.length<=1000:=by have:=hf.sec;omega
 refine ite_false (decide_eq_false e3) (fo λgo2 oN=>?_)
 have G:go2 (fj q.n2) w1:=by
  refine oN _ _ ?_
  cases hu:fj q.n2 with
  |true=>
   rw[hu,if_pos rfl]at hC hT hR
   exact ite_true rfl (fin _ _ _ (Zf D hf.small hu hk lb ak gZ Np) hT.symm hR.symm hC.symm)
  |false=>
   rw[hu,if_neg (by decide)]at hC hT hR
   refine ite_false rfl (fo λFY IS=>?_)
   have g1:q.n2=12\/q.n2=13->FY true w1:=λh=>by
    rw[if_pos h]at hC hT hR
    exact IS _ _ (ite_true rfl (fin _ _ _ (YB D hf.small tc) hT.symm hR.symm hC.symm))
   have g2:¬(q.n2=12\/q.n2=13)->FY false w1:=λh=>by
    rw[if_neg h]at hC hT hR
    exact IS _ _ (ite_false rfl (aV _ (fin _ _ _ (Yq D hf.small hk ak bZ Np) hT.symm hR.symm hC.symm)))
   by_cases iC:q.n2=12
   ·refine ite_true (decide_eq_true iC) ?_
    rw[decide_eq_true iC]
    exact g1 (.inl iC)
   ·refine ite_false (decide_eq_false iC) ?_
    by_cases fR:q.n2=13
    ·rw[decide_eq_true fR];exact g1 (.inr fR)
    ·rw[decide_eq_false fR];exact g2 (λh=>h.elim iC fR)
 have tv:∀ {z:Int},fj z=true->q.n2=z->go2 (decide (q.n2=z)) w1:=λhz e=>by
  rw[e]at G⊢
  rw[hz]at G
  rw[decide_eq_true rfl]
  exact G
 refine aZ (λh=>tv rfl (of_decide_eq_true h)) λh9=>?_
 refine aZ (λh=>tv rfl (of_decide_eq_true h)) λjr=>?_
 have e:fj q.n2=decide (q.n2=11):=by
  unfold fj
  have h9:decide (q.n2=9)=false:=h9
  have jr:decide (q.n2=10)=false:=jr
  rw[h9,jr];rfl
 rw[e]at G
 exact G
def qK(q:aY)(t:aH):aY:={ q with n4:=e8 q t }
def dC(q:aY)(lb lt ak:List B8)(t:aH):Int:=if qi q lt t=0 then iS (qK q t) lb ak (dG q t) else qi q lt t
def dT(q:aY)(lb lt ak:List B8)(t:aH):aH:=if dC q lb lt ak t=0 then hO (qK q t) lb ak (dG q t) else cQ
def dR(q:aY)(lb lt ak:List B8)(t:aH):mg:=if dC q lb lt ak t=0 then jx (qK q t) lb ak (dG q t) else ⟨0,[],[]⟩
theorem GU{t:aH}(h:cP t=true):t.clock<=1099511627776/\0<=t.clock/\t.bN.length=32/\1<=t.bn.length/\gE t.bn=true/\(1<=t.ax.length/\t.ax.length<=6)/\t.keys.length<=6/\fy t.aL=true:=by
 unfold cP Ay aF at h
 simp only[Bool.and_eq_true,decide_eq_true_eq]at h
 obtain⟨⟨h1,h2,h3,h4,h5,h6,h7⟩,_⟩:=h
 exact⟨h1.2,h1.1,h2,h3,h4,⟨by omega,by omega⟩,h6,h7⟩
theorem G7{q:aY}{lt:List B8}{t:aH}(h:qi q lt t=0):cP t=true/\iy q=true/\aF 1 (t.ax.length:Int) q.n0=true/\iP (bI q t).high (bI q t).used q.n1=0/\eH q t=true/\uI q lt t (kO q t)=0:=by
 unfold qi at h
 split at h
 ·rename_i h1
  rw[Bool.and_eq_true]at h1
  split at h
  ·rename_i h2
   split at h
   ·rename_i h3
    split at h
    ·rename_i h4
     exact⟨h1.1,h1.2,h2,h3,h4,h⟩
    ·omega
   ·omega
  ·omega
 ·omega
theorem TI{q:aY}{lt:List B8}{t:aH}(hs:t.small)(h:qi q lt t=0):Fit (qK q t) (dG q t):=by
 obtain⟨h1,_,h2,_,h4,_⟩:=G7 h
 have hp:=GU h1
 exact⟨KS hs h2,by show(t.ax.set _ _).length<=6;rw[List.length_set];exact hp.2.2.2.2.2.1.2,hp.2.2.2.2.2.2.1,hp.2.2.1,λhm=>by
  have hm:fO q.n2=false:=hm
  unfold eH at h4
  rw[if_neg (by rw[hm];decide),Bool.and_eq_true,Bool.and_eq_true]at h4
  exact h4.2.1⟩
theorem acV(e:Value)(c:Int)(hc:c≠0)(w:World)(hg:Laid w)(h:ig w e c):Ok Pr RB [e] w λv w'=>v=.int .i64 c/\Mod [] w w':=by
 rcases h with ⟨_,h⟩|⟨b,s,rfl,hb,_⟩
 ·exact absurd h hc
 ·exact Ra b c w hg (by rw[hb.cell];rfl)
def Xt(w w':World)(v:Value)(T:aH)(c:Int)(R:mg):Prop:=
 ∃s ys zs fp fq y z er,v=.tuple ⟨[.agg ⟨T.cs s⟩,.agg ⟨bR c R.id y z⟩,er]⟩/\ah w [] w' (cJ s T ys zs fp fq++[.cut y R.cM,.cut z R.ex,aA.err er c])
theorem gM{w w':World}{b:Nat}{cs:List Value}{t:TypeId}(h:bp w b cs t)(h':bp w' b cs t)(n:Nat):kept ⟨b,0,none⟩ n w w':=λj _=>by rw[ai,h.cell,h'.cell]
theorem ah.Vl{w:World}{S:List Nat}{L:List aA}(H:ah w0 S w L):ah w0 S w (L++[aA.err .nilIface 0]):=
 H.push (Mod.refl _ _) (.inl ⟨rfl,rfl⟩) (λb hb=>by cases hb)
def FZ(B C:Int):Int:=if B=0 then C else B
theorem acW(s:bW)(t:aH)(q:aY)(sd:ag)(w:World)(hg:Laid w){B C1:Int}{qk:aY}{ow:Int}{t1 T1:aH}{R1:mg}
  (ald:∀ {w1},Mod [] w w1->Ok Pr JU [.agg ⟨t.cs s⟩,.agg ⟨q.cells⟩,.slice sd.a sd.n sd.c] w1 λv w'=>Iq w1 w' v B qk ow t1 sd)
  (N9:B=0->∀ {w0 w1:World} {S:List Nat} {b:Nat} {s:bW} {ys zs:List ag} {fp fq:List Nat},(∀ {w'},Mod S w0 w'->Mod [] w w')->ah w0 S w1 (cB b qk t1 s ow sd ys zs fp fq)->
   Ok Pr Pz [.pointer (some ⟨b,0,none⟩)] w1 λv w'=>jw w0 S w' v b T1 R1 C1) :
  Ok Pr BG [.agg ⟨t.cs s⟩,.agg ⟨q.cells⟩,.slice sd.a sd.n sd.c] w λv w'=>Xt w w' v (if FZ B C1=0 then T1 else cQ) (FZ B C1) (if FZ B C1=0 then R1 else ⟨0,[],[]⟩):=by
 refine aC Tryz.func11 (J:=[(5,[(10,.val)])]) ?_
 rw[oB,pZ]
 have hC:FZ B C1=if B=0 then C1 else B:=rfl
 generalize FZ B C1=C at*
 obtain⟨T,hT⟩:∃T,T=if C=0 then T1 else cQ:=⟨_,rfl⟩
 obtain⟨R,hR⟩:∃R:mg,R=if C=0 then R1 else ⟨0,[],[]⟩:=⟨_,rfl⟩
 rw[<- hT,<- hR]
 refine(ah.start w).nw λp w1 H _=>H.nw λp1 w2 H _=>H.nw λp2 w3 H _=>H.nw λp3 w4 H _=>?_
 have H:ah w [] w4 [.aj p (t.cs s) aQ,.aj p1 q.cells iu,.aj p2 (cQ.cs sZ) aQ,.aj p3 (bR 0 0 ⟨none,0,0⟩ ⟨none,0,0⟩) ct]:=H
 refine H.bC 0 rfl (H.kM 1 rfl (an (ald H.mod) ?_))
 rintro _ w5 ⟨pj,er,rfl,lf,m5,ale⟩
 refine⟨_,rfl,pj,rfl,rfl,?_⟩
 refine qE λp4 w6 hb4 hk4 m6 _=>?_
 refine fo λgo aV=>?_
 have fail:∀ {w7:World} (e:Value),C≠0->ah w [] w7 [.aj p2 (cQ.cs sZ) aQ,.aj p3 (bR 0 0 ⟨none,0,0⟩ ⟨none,0,0⟩) ct,aA.err e C]->go e w7:=by
  intro w7 e hc K
  rw[if_neg hc]at hT hR
  subst hT hR
  have he:ig w7 e C:=K.ok 2 _ rfl
  refine aV _ _ (he.isNil (ite_true (by rw[decide_eq_false hc];rfl) (an (acV e C hc w7 (hg.nH K (by simp)) he) ?_)))
  rintro _ w8 ⟨rfl,m8⟩
  have K:=K.frame m8
  refine⟨_,rfl,K.cF 0 rfl rfl λw9 K=>K.dm 1 rfl rfl λbP K=>K.bC 0 rfl (K.dO 1 rfl ?_)⟩
  refine⟨sZ,[],[],[],[],⟨none,0,0⟩,⟨none,0,0⟩,e,rfl,?_⟩
  exact(wG (DX K)).bX (L':=cJ sZ cQ [] [] [] []++[.cut ⟨none,0,0⟩ [],.cut ⟨none,0,0⟩ [],aA.err e C]) [3,4,5,6,7,8,9,10,11,2] (by decide) rfl
 refine lf.1.isNil ?_
 by_cases h0:B=0
 case neg=>
  rw[if_neg h0]at hC
  refine ite_false (decide_eq_false h0) ?_
  have K:=(H.gW m5 lf).frame m6
  exact fail er (by rw[hC];exact h0) (K.bX [2,3,4] (by decide) (by rw[hC];rfl))
 rw[if_pos h0]at hC
 have rL:er=.nilIface:=ur (h0▸lf.1)
 subst rL
 obtain⟨b,s',ys,zs,fp,fq,rfl,J⟩:=ale h0
 have K:=((H.join J).frame (Mod.refl [] _)).push (r:=.aj p4 (bR 0 0 ⟨none,0,0⟩ ⟨none,0,0⟩) ct) m6 hk4 (by simp[aA.aj,hb4])
 have K:ah w [] w6 (cB b qk t1 s' ow sd ys zs fp fq++[.aj p2 (cQ.cs sZ) aQ,.aj p3 (bR 0 0 ⟨none,0,0⟩ ⟨none,0,0⟩) ct,.aj p4 (bR 0 0 ⟨none,0,0⟩ ⟨none,0,0⟩) ct]):=K.bX [4,5,6,7,8,9,10,11,2,3,12] (by decide) rfl
 refine ite_true (decide_eq_true h0) (an (N9 h0 (λm=>K.mod.trans' m K.EX) K.sub) ?_)
 rintro _ eg ⟨rc,ri,y,z,er,rfl,h1,h2⟩
 refine⟨_,rfl,tX ⟨rfl,?_⟩⟩
 rw[<- hC]at h1 h2
 by_cases hc:C=0
 ·obtain⟨rfl,rfl,rfl,q',s2,jM,OG,tQ,tR,vm,vo,G⟩:=h2 hc
  rw[if_pos hc]at hT hR
  rw[<- hT,<- hR]at G
  rw[<- hR]
  have G:=K.back G
  have G:ah w [] eg [.aj b (Az q' T s2 jM OG) zB,.row aE 1 s2.sec (aG T.bN),.row cD 3 s2.ten (dJ T.bn),.row cc 6 s2.gr (cw T.aL),.row dM 5 s2.ax (aO bE.cs T.ax tQ),.box vm λw=>aM eY w tQ T.ax,.row aW 4 s2.key (aO aI.cs T.keys tR),.box vo λw=>aM cZ w tR T.keys,.cut y R.cM,.cut z R.ex,.aj p2 (cQ.cs sZ) aQ,.aj p3 (bR 0 0 ⟨none,0,0⟩ ⟨none,0,0⟩) ct,.aj p4 (bR 0 0 ⟨none,0,0⟩ ⟨none,0,0⟩) ct]:=G
  refine G.dm 12 rfl rfl λfQ G=>aV _ _ (No ?_)
  have G:=G.drew
  refine UC G 0 rfl (G.dO 12 rfl (G.cF 10 rfl rfl λir E=>⟨gM (G.aj 12 rfl) (E.aj 12 rfl) 4,E.dm 11 rfl rfl λgH E=>E.bC 10 rfl (E.dO 11 rfl ?_)⟩))
  refine⟨s2,tQ,tR,vm,vo,y,z,.nilIface,by rw[hc];rfl,?_⟩
  rw[hc]
  exact(ah.Vl E).bX (L':=cJ s2 T tQ tR vm vo++[.cut y R.cM,.cut z R.ex,aA.err .nilIface 0]) [1,2,3,4,5,6,7,8,9,13] (by decide) rfl
 ·have G:=K.back (h1 hc)
  refine G.dm 3 rfl rfl λfQ G=>fail er hc (G.bX [1,2,0] (by decide) rfl)
theorem KD(s:bW)(t:aH)(q:aY)(lb lt:List B8)(sd:ag)(ak:List B8)(hs:t.small)(bZ:ak.length<=1000000)(w:World)(hg:Laid w)(hx:dF w s t)(hb:Bytes w q.cM lb)(ht:Bytes w q.tok lt)(fZ:Bytes w sd ak):
  Ok Pr BG [.agg ⟨t.cs s⟩,.agg ⟨q.cells⟩,.slice sd.a sd.n sd.c] w λv w'=>Xt w w' v (dT q lb lt ak t) (dC q lb lt ak t) (dR q lb lt ak t):=by
 exact acW s t q sd w hg (λm=>PY s t q lt sd hs _ (hx.av m) (ht.av m)) λh0 _ _ _ _ _ _ _ _ _ m K=>
  ZU K (TI hs h0) lb ak (λm'=>hb.av (m m')) bZ (λm'=>fZ.av (m m'))
def jy(l:List aI)(c:Int)(i:Nat):List aI:=(List.range l.length).map λj=>if j<i then j7 (l.getD j kz) c else l.getD j kz
def vp(l:List aI)(c:Int):Nat->Nat
 |0=>0
 |i+1=>vp l c i+sw (l.getD i kz) c
theorem p7(l:List aI)(c:Int)(i:Nat):(jy l c i).length=l.length:=by simp[jy]
theorem Cf(l:List aI)(c:Int)(i j:Nat)(hj:j<l.length):(jy l c i)[j]? = some (if j<i then j7 (l.getD j kz) c else l.getD j kz):=by
 unfold jy
 rw[List.getElem?_map,List.getElem?_range hj];rfl
theorem TJ(l:List aI)(c:Int):jy l c 0=l:=by
 refine List.ext_getElem? λj=>?_
 rcases Nat.lt_or_ge j l.length with h|h
 ·rw[Cf l c 0 j h,if_neg (by omega),List.getD_eq_getElem?_getD,List.getElem?_eq_getElem h];rfl
 ·rw[List.getElem?_eq_none (by rw[p7];exact h),List.getElem?_eq_none h]
theorem Hj(l:List aI)(c:Int)(i:Nat)(hi:i<l.length):(jy l c i).set i (j7 (l.getD i kz) c)=jy l c (i+1):=by
 refine List.ext_getElem? λj=>?_
 rw[List.getElem?_set]
 rcases Nat.lt_or_ge j l.length with h|h
 ·rw[Cf l c (i+1) j h]
  by_cases e:i=j
  ·subst e
   rw[if_pos rfl,if_pos (by rw[p7];exact hi),if_pos (by omega)]
  ·rw[if_neg e,Cf l c i j h]
   by_cases h2:j<i
   ·rw[if_pos h2,if_pos (by omega)]
   ·rw[if_neg h2,if_neg (by omega)]
 ·rw[if_neg (by omega),List.getElem?_eq_none (by rw[p7];exact h),List.getElem?_eq_none (by rw[p7];exact h)]
theorem Mi(k:aI)(c:Int):sw k c<=k.ay.length:=by
 unfold sw ni
 split
 ·exact List.countP_le_length
 ·exact Nat.zero_le _
theorem Mj{t:aH}(hs:t.small)(c:Int):∀i,i<=t.keys.length->vp t.keys c i<=i*1000
 |0,_=>Nat.le_refl 0
 |i+1,h=>by
  have:=Mj hs c i (by omega)
  have h2:=Mi (t.keys.getD i kz) c
  have h3:=sM hs (i:=i) (by omega)
  show vp t.keys c i+sw (t.keys.getD i kz) c<=_
  omega
def ku(t:aH)(c:Int):Int:=if cP t=true then (if t.clock<=c/\c<=1099511627776 then 0 else 2) else 2
def Bn(t:aH)(c:Int):aH:={ t with clock:=c,keys:=jy t.keys c t.keys.length }
def oM(t:aH)(c:Int):aH:=if ku t c=0 then Bn t c else cQ
def yq(t:aH)(c:Int):Int:=if ku t c=0 then (vp t.keys c t.keys.length:Int) else 0
def Tkd(w w':World)(v:Value)(T:aH)(m c:Int):Prop:=
 ∃s ys zs fp fq er,v=.tuple ⟨[.agg ⟨T.cs s⟩,.int .i64 m,er]⟩/\ah w [] w' (cJ s T ys zs fp fq++[aA.err er c])
theorem Qo(s:bW)(t:aH)(c:Int)(hs:t.small)(w:World)(hx:dF w s t):
  Ok Pr abV [.agg ⟨t.cs s⟩,.int .i64 c] w λv w'=>Tkd w w' v (oM t c) (yq t c) (ku t c):=by
 refine aC Tryz.func16 (L:=[(7,[(7,.int .i64),(34,.int .i64)])]) ?_
 rw[oB,kN]
 have hC:ku t c=if cP t=true then (if t.clock<=c/\c<=1099511627776 then 0 else 2) else 2:=rfl
 have hT:oM t c=if ku t c=0 then Bn t c else cQ:=rfl
 have hM:yq t c=if ku t c=0 then (vp t.keys c t.keys.length:Int) else 0:=rfl
 generalize ku t c=C at*
 generalize oM t c=T at*
 generalize yq t c=M at*
 have nS:=hs.key
 refine(ah.start w).nw λp w1 H _=>H.nw λp1 w2 H _=>?_
 have H:ah w [] w2 [.aj p (t.cs s) aQ,.aj p1 (cQ.cs sZ) aQ]:=H
 refine H.bC 0 rfl (an (QS s t hs _ (hx.av H.mod)) ?_)
 rintro _ w3 ⟨rfl,m3⟩
 have H:=H.frame m3
 refine aN (H.au 0 rfl (ai p 0) rfl ?_)
 have Ez:((!cP t||decide (c<t.clock))||decide ((1099511627776:Int)<c))=!(decide (C=0)):=by
  rw[hC]
  cases cP t with
  |false=>rfl
  |true=>
   by_cases h1:c<t.clock
   ·rw[if_pos rfl,if_neg (by omega),decide_eq_true h1];rfl
   ·rw[if_pos rfl,decide_eq_false h1]
    by_cases h2:(1099511627776:Int)<c
    ·rw[if_neg (by omega),decide_eq_true h2];rfl
    ·rw[if_pos (by omega),decide_eq_false h2];rfl
 show dc ((!cP t||decide (c<t.clock))||decide ((1099511627776:Int)<c)) _ _
 rw[Ez]
 by_cases h0:C=0
 case neg=>
  rw[if_neg h0]at hT hM
  subst hT hM
  have Ji:C=2:=by
   rw[hC]at h0⊢
   split
   ·split
    ·rename_i h1 h2;rw[if_pos h1,if_pos h2]at h0;exact absurd rfl h0
    ·rfl
   ·rfl
  refine ite_true (by rw[decide_eq_false h0];rfl) (an (Bq 2 (by decide) w3) ?_)
  rintro er w4 ⟨he,m4⟩
  have K:=H.gW m4 he
  refine K.cF 1 rfl rfl λw5 K=>K.bC 1 rfl ⟨sZ,[],[],[],[],er,rfl,?_⟩
  rw[Ji]
  exact(DX K).bX (L':=cJ sZ cQ [] [] [] []++[aA.err er 2]) [3,4,5,6,7,8,9,2] (by decide) rfl
 rw[if_pos h0]at hT hM
 subst hT hM
 refine ite_false (by rw[decide_eq_true h0];rfl) (H.bC 0 rfl (an (J7 s t hs _ (hx.av H.mod)) ?_))
 rintro _ w6 ⟨s',ys,zs,fp,fq,rfl,G⟩
 have H:=H.join G
 refine ia (H.cF 0 rfl rfl λw7 H=>H.st 0 rfl (ai p 0) (by show 0<6;omega) rfl λw8 H=>?_)
 have od:=(H.cG 7 rfl).len
 rw[gw aI.bA _ _ (H.box 8 rfl:aM cZ _ zs t.keys).1]at od
 refine H.az 0 rfl (ai p 4) rfl ?_
 refine eZ 0 t.keys.length (λi (m:Int) w'=>m=(vp t.keys c i:Int)/\∃zs fq,ah w [] w' [.aj p ((Bn t c).cs s') aQ,.aj p1 (cQ.cs sZ) aQ,.row aE 1 s'.sec (aG t.bN),.row cD 3 s'.ten (dJ t.bn),.row cc 6 s'.gr (cw t.aL),.row dM 5 s'.ax (aO bE.cs t.ax ys),.box fp λw=>aM eY w ys t.ax,.row aW 4 s'.key (aO aI.cs (jy t.keys c i) zs),.box fq λw=>aM cZ w zs (jy t.keys c i)]) rfl (by omega) ⟨rfl,zs,fq,by rw[TJ];exact H⟩ ?_ ?_
 ·rintro again i m w9 _ hi ⟨rfl,zs,fq,K⟩ aB
  have ja:(jy t.keys c i)[i]? = some (t.keys.getD i kz):=by rw[Cf _ _ _ _ hi,if_neg (by omega)]
  have hE:aM cZ w9 zs (jy t.keys c i):=K.box 8 rfl
  have gR:zs.length=t.keys.length:=by rw[hE.1,p7]
  have cu:zs[i]? = some (zs[i]'(by omega)):=List.getElem?_eq_getElem _
  generalize zs[i]'(by omega)=x at cu
  have hsw:=Mj hs c i (by omega)
  have bZ:=Mi (t.keys.getD i kz) c
  have q8:=sM hs hi
  have og:∀(j:Nat) (v:Value),((t.keys.getD i kz).cs x)[j]? = some v->w9.cell? (Addr.add (Addr.add (base s'.key.a) (Int.toNat (i:Int)*4)) j)=some v:=λj v hv=>by
   rw[Int.toNat_natCast]
   exact(K.cG 7 rfl).oH aI.bA ja cu hv
  have bF:s'.key.a.isSome=true/\(0:Int)<=(i:Int)/\(i:Int)<(s'.key.n:Int):=⟨(K.cG 7 rfl).pre (by omega),by omega,by omega⟩
  refine ite_true (decide_eq_true (by omega)) ⟨bF,mC og (K.nw λp2 bP K _=>K.cO 9 rfl rfl λbQ K=>K.bD 9 rfl ?_)⟩
  have hE:aM cZ bQ zs (jy t.keys c i):=K.box 8 rfl
  refine an (abJ (t.keys.getD i kz) x c (by omega) bQ (hE.2 i x _ cu ja).ay) ?_
  rintro _ cH ⟨y,rfl,hy⟩
  obtain⟨f,K⟩:=K.dz hy
  refine⟨_,rfl,jz ⟨_,rfl,rfl,K.nw λp3 eg K _=>K.cO 11 rfl rfl λfQ K=>K.az 0 rfl (ai p 4) rfl (K.bD 11 rfl ⟨bF,?_⟩)⟩⟩
  refine K.putAt 7 rfl aI.bA (by rw[gR,p7]) (by rw[p7];exact hi) (j7 (t.keys.getD i kz) c) y (aI.jE _ y) λir K=>⟨by unfold cv;omega,by unfold cv;omega,?_⟩
  rw[Hj _ _ _ hi]at K
  refine aB _ _ ⟨by show _=((vp t.keys c i+sw (t.keys.getD i kz) c:Nat):Int);omega,zs.set i y,fq++f,?_⟩
  have K:=K.merge 8 10 (t:=.box (fq++f) λw=>aM cZ w (zs.set i y) (jy t.keys c (i+1))) rfl rfl (by omega) (λh1 h2=>?_) (λb hb=>List.mem_append.1 hb)
  ·exact K.take 9
  ·refine⟨λb hb=>?_,λw2 h3=>?_⟩
   ·rcases List.mem_append.1 hb with h|h
    ·exact h1.1 b h
    ·exact h2.1 b h
   ·have:=aM.put (i:=i) (h1.2 w2 λb hb=>h3 b (List.mem_append_left _ hb)) (h2.2 w2 λb hb=>h3 b (List.mem_append_right _ hb):cZ w2 y (j7 (t.keys.getD i kz) c))
    rwa [Hj _ _ _ hi]at this
 ·rintro again m w9 ⟨rfl,zs,fq,K⟩
  refine ite_false (decide_eq_false (by omega)) (K.bC 0 rfl (K.cF 1 rfl rfl λgH K=>K.bC 1 rfl ⟨s',ys,zs,fp,fq,.nilIface,rfl,?_⟩))
  rw[h0]
  exact(ah.Vl K).drop 2
theorem abN(x:ag)(ts:List bL)(hl:ts.length<=1000000)(a:Int)(w:World)(hx:fk w x ts):Ok Pr acd [.slice x.a x.n x.c,.int .i64 a] w λv w'=>kR w w' v (oK ts a):=by
 refine aC Tryz.func144 (J:=[(3,[])]) (L:=[(2,[(1,.int .i64),(5,.sl)])]) ?_
 have aT:=hx.len
 cases hm:gE ts with
 |false=>
  have e:oK ts a=[]:=by unfold oK;rw[hm];rfl
  rw[e]
  refine lV (λ_ (out:ag) w'=>out=⟨none,0,0⟩/\w'=w) (λ_ _ _=>0) ⟨rfl,rfl⟩ ?_
  rintro again b out w2 ⟨rfl,rfl⟩ aB
  refine gi λgo aV=>an (Gp x ts hl w2 hx) ?_
  rintro _ w3 ⟨rfl,m3⟩
  rw[hm]
  exact aN (ite_false rfl ⟨⟨none,0,0⟩,rfl,Own.nil _ _ _ _,m3⟩)
 |true=>
  obtain⟨h8,CM⟩:=LO hm
  have hP:oK ts a=ko ts (ts.length+1) a:=by unfold oK;rw[if_pos hm]
  have hPl:=G6 ts (ts.length+1) a
  rw[hP]
  generalize MH:ko ts (ts.length+1) a=full at*
  refine lV (λ(b:Int) (out:ag) w'=>∃(f:Nat) (pre:List Int),pre++ko ts f b=full/\(aF 1 (ts.length:Int) b=true->b.toNat<f)/\ah w [] w' [.row aU 1 out (bf pre)]) (λb _ _=>b.toNat)
   ⟨ts.length+1,[],MH,λh=>by unfold aF at h;simp only[Bool.and_eq_true,decide_eq_true_eq]at h;omega,by simpa[bf]using (ah.start w).dy aU 1⟩ ?_
  rintro again b out w2 ⟨f,pre,kC,hf,H⟩ aB
  refine gi λgo aV=>an (Gp x ts hl w2 (hx.av H.mod)) ?_
  rintro _ w3 ⟨rfl,m3⟩
  rw[hm]
  have H:=H.frame m3
  refine aN (ite_true rfl (an (Dp x ts b _ (hx.av H.mod)) ?_))
  rintro _ w4 ⟨rfl,hw⟩
  subst hw
  refine aN ?_
  cases dw:aF 1 (ts.length:Int) b with
  |false=>
   have e:ko ts f b=[]:=by
    cases f with
    |zero=>rfl
    |succ f=>unfold ko;rw[dw];rfl
   rw[e,List.append_nil]at kC
   subst kC
   exact ite_false rfl ⟨out,rfl,H.cm 0 rfl,H.mod⟩
  |true=>
   have bB:=hf dw
   obtain⟨g,rfl⟩:∃g,f=g+1:=⟨f - 1,by omega⟩
   have e:ko ts (g+1) b=b::ko ts g (ts.getD (b - 1).toNat tz).par:=by
    show(if aF 1 (ts.length:Int) b=true then b::ko ts g (ts.getD (b - 1).toNat tz).par else [])=_
    rw[if_pos dw]
   rw[e]at kC
   unfold aF at dw
   simp only[Bool.and_eq_true,decide_eq_true_eq]at dw
   obtain⟨j,hj⟩:∃j:Nat,b - 1=(j:Int):=⟨(b - 1).toNat,by omega⟩
   rw[hj,Int.toNat_natCast]at kC
   obtain⟨q1,q2,q3⟩:=CM j (by omega)
   have k7:=(H.bq 0 rfl).len
   have ako:pre.length<=full.length:=by rw[<- kC];simp
   refine ite_true rfl (aV _ (H.rK 0 ou rfl (by omega) λfJ w5 H _=>⟨⟨by omega,by omega⟩,?_⟩))
   rw[hj]
   obtain⟨bF,hc⟩:=(hx.av H.mod).at (i:=j) (by omega)
   refine⟨bF,_,hc 1 _ rfl,aB _ fJ w5 ⟨g,pre++[b],by rw[List.append_assoc];exact kC,λh=>?_,H⟩ ?_⟩
   ·omega
   ·show((ts.getD j tz).par).toNat<b.toNat
    omega
theorem aaA(x:ag)(ts:List bL)(hl:ts.length<=1000)(a b:Int)(w:World)(hx:fk w x ts):Ok Pr aaR [.slice x.a x.n x.c,.int .i64 a,.int .i64 b] w λv w'=>v=.bool (ux ts a b)/\Mod [] w w':=by
 refine aC Tryz.func89 (L:=[(3,[(8,.int .i64)])]) ?_
 refine an (abN x ts (by omega) b w hx) ?_
 rintro _ w1 ⟨y,rfl,hy,m1⟩
 have qn:=SG ts b hl
 have hy:=hy.bq
 have gb:=hy.len
 have eA:ux ts a b=(oK ts b).any λy=>decide (a=y):=rfl
 rw[eA]
 generalize oK ts b=l at*
 refine aS (bG 0 l.length (λi w'=>(l.take i).any (λy=>decide (a=y))=false/\w'=w1) rfl (by omega) ⟨rfl,rfl⟩ ?_ ?_)
 ·rintro again i w2 _ hi ⟨hn,rfl⟩ aB
  have h1:=vw (λy=>decide (a=y)) l i hi 0
  have h2:=vv (λy=>decide (a=y)) l i hi 0
  refine ite_true (decide_eq_true (by omega)) (hy.ld (i:=i) hi rfl ?_)
  by_cases h:l.getD i 0=a
  ·exact ite_true (decide_eq_true h) ⟨by rw[h1 (decide_eq_true h.symm)],m1⟩
  ·exact ite_false (decide_eq_false h) ⟨⟨by omega,by omega⟩,aB _ ⟨by rw[h2,hn,decide_eq_false λf=>h f.symm];rfl,rfl⟩⟩
 ·rintro again w2 ⟨hn,rfl⟩
  rw[List.take_of_length_le (Nat.le_refl _)]at hn
  exact ite_false (decide_eq_false (by omega)) ⟨by rw[hn],m1⟩
theorem ZV(k:aI)(x xs:ag)(ak:List B8)(hl:k.ay.length<=1000000)(w:World)(hx:dD w x k.ay)(hs:Bytes w xs ak):Ok Pr Z7 [.agg ⟨k.cs x⟩,.slice xs.a xs.n xs.c] w λr w'=>Er w w' r (fK k ak) (kZ k ak.length):=by
 refine aC Tryz.func133 ?_
 rw[kN]
 have aT:=hx.len
 have bZ:=hs.len
 have hC:kZ k ak.length=if bK k=true then (if ak.length=64 then (if k.ay.length=5 then 12 else 0) else 3) else 2:=rfl
 have hR:fK k ak=if kZ k ak.length=0 then ⟨k.id,k.ten,k.set,k.ay++[⟨(k.ay.length:Int)+1,1,0,ak⟩]⟩ else kz:=rfl
 generalize kZ k ak.length=C at*
 generalize fK k ak=R at*
 refine(ah.start w).nw λp w1 H _=>H.nw λp1 w2 H _=>?_
 have H:ah w [] w2 [.aj p (bY k.id k.ten k.set x) aW,.aj p1 [.int .i64 0,.int .i64 0,.int .i64 0,.slice none 0 0] aW]:=H
 refine H.bD 0 rfl (an (tZ k x hl _ (hx.av H.mod)) ?_)
 rintro _ w3 ⟨rfl,m3⟩
 have H:=H.frame m3
 have no:∀c:Int,c≠0->C=c->cO ⟨p1,0,none⟩ 0 0 0 ⟨none,0,0⟩ w3 λw8=>bD ⟨p1,0,none⟩ w8 λa b c' d=>Er w w8 (.tuple ⟨[.agg ⟨[.int .i64 a,.int .i64 b,.int .i64 c',.slice d.a d.n d.c]⟩,.int .i64 c]⟩) R C:=by
  intro c hc cX
  rw[cX,if_neg hc]at hR
  subst hR
  rw[cX]
  exact H.cO 1 rfl rfl λw8 H=>H.bD 1 rfl ⟨⟨none,0,0⟩,rfl,sL H.mod λw=>fI.nil w⟩
 refine aN ?_
 cases hm:bK k with
 |false=>
  rw[hm,if_neg (by decide)]at hC
  exact ite_true rfl (no 2 (by decide) hC)
 |true=>
  rw[hm,if_pos rfl]at hC
  refine ite_false rfl ?_
  by_cases dX:ak.length=64
  case neg=>
   rw[if_neg dX]at hC
   exact ite_true (by rw[decide_eq_false (show ¬((xs.n:Nat):Int)=64 by omega)];rfl) (no 3 (by decide) hC)
  rw[if_pos dX]at hC
  refine ite_false (by rw[decide_eq_true (show((xs.n:Nat):Int)=64 by omega)];rfl) (H.az 0 rfl (ai p 3) rfl ?_)
  obtain⟨_,_,_,h45,_⟩:=rE hm
  by_cases h5:k.ay.length=5
  case pos=>
   rw[if_pos h5]at hC
   exact ite_true (decide_eq_true (by omega)) (no 12 (by decide) hC)
  rw[if_neg h5]at hC
  rw[hC,if_pos rfl]at hR
  subst hR
  rw[hC]
  obtain⟨h1,h2⟩:=xN hm
  refine ite_false (decide_eq_false (by omega)) (H.bD 0 rfl (an (Bu k x (by omega) (λv hv=>Nat.le_trans (h2 v hv) (by omega)) _ (hx.av H.mod)) ?_))
  rintro _ w4 ⟨y,rfl,hy⟩
  have gb:=hy.box.now.ay.len
  obtain⟨ys,fp,D⟩:=hy
  have hE:aM e6 w4 ys k.ay:=D.box 1 rfl
  have H:=H.join D
  refine jz (H.cO 0 rfl rfl λw5 H=>?_)
  have H:ah w [] w5.drew [.aj p (bY k.id k.ten k.set y) aW,.aj p1 [.int .i64 0,.int .i64 0,.int .i64 0,.slice none 0 0] aW,.row cR 4 y (aO aR.cs k.ay ys),.box fp λw=>aM e6 w ys k.ay]:=H.drew
  refine H.az 0 rfl (ai p 3) rfl (H.az 0 rfl (ai p 3) rfl ⟨⟨by omega,by omega⟩,H.oD cg (hs.av H.mod) (by omega) λu w6 H1 hu=>?_⟩)
  refine⟨gm (H.aj 0 rfl) (H1.aj 0 rfl) (fS _ _),gm (H.aj 0 rfl) (H1.aj 0 rfl) (fS _ _),H1.nw λp2 w7 H2 _=>⟨gm (H1.aj 0 rfl) (H2.aj 0 rfl) (fS _ _),?_⟩⟩
  rw[show((y.n:Nat):Int)+1=(k.ay.length:Int)+1 by omega]at H2
  have gZ:bp w7 p2 ((aR.mk ((k.ay.length:Int)+1) 1 0 ak).cs u) cR:=H2.aj 5 rfl
  have bZ:=gZ.sl 4 1 1 (by rw[aR.bA];decide) (by omega)
  rw[show((aR.mk ((k.ay.length:Int)+1) 1 0 ak).cs u).take (1*4)=(aR.mk ((k.ay.length:Int)+1) 1 0 ak).cs u from rfl]at bZ
  refine H2.app (x:=⟨some ⟨p2,0,none⟩,1,1⟩) 2 HD rfl bZ (aR.jE _ _) (by show(y.n+1)*48<=_;omega) (by show y.n+1<=_;omega) λy' w8 H3 _=>?_
  refine H3.st 0 rfl (ai p 3) (by show 3<4;omega) rfl λw9 H4=>?_
  have H4:ah w [] w9 [.aj p (bY k.id k.ten k.set y') aW,.aj p1 [.int .i64 0,.int .i64 0,.int .i64 0,.slice none 0 0] aW,.row cR 4 y' (aO aR.cs k.ay ys++(aR.mk ((k.ay.length:Int)+1) 1 0 ak).cs u),.box fp λw=>aM e6 w ys k.ay,.row aE 1 u (aG ak),.aj p2 ((aR.mk ((k.ay.length:Int)+1) 1 0 ak).cs u) cR]:=H4
  refine H4.bD 0 rfl (H4.cO 1 rfl rfl λbP H5=>H5.bD 1 rfl ⟨y',rfl,?_⟩)
  refine H5.boxed λw' h=>⟨ys++[u],?_,?_⟩
  ·rw[vG _ _ hE.1,sJ]
   exact h 2 _ rfl
  ·have h3:(aA.box fp λw=>aM e6 w ys k.ay).ok w':=h 3 _ rfl
   exact aM.snoc (h3.2 w' λ_ _=>rfl) (h 4 _ rfl)
theorem Bv(k:aI)(x:ag)(n:Int)(hl:k.ay.length<=1000000)(w:World)(hx:dD w x k.ay):Ok Pr ab9 [.agg ⟨k.cs x⟩,.int .i64 n] w λr w'=>Ep w w' r (di k n):=by
 refine aC Tryz.func143 ?_
 rw[oA]
 have aT:=hx.len
 refine(ah.start w).nw λp w1 H _=>H.nw λp1 w2 H _=>?_
 have H:ah w [] w2 [.aj p (bY k.id k.ten k.set x) aW,.aj p1 [.int .i64 0,.int .i64 0,.int .i64 0,.slice none 0 0] cR]:=H
 refine H.bD 0 rfl (an (tZ k x hl _ (hx.av H.mod)) ?_)
 rintro _ w3 ⟨rfl,m3⟩
 have H:=H.frame m3
 refine aN (H.az 0 rfl (ai p 3) rfl ?_)
 by_cases hc:bK k=true/\1<=n/\n<=k.ay.length
 case neg=>
  have e:di k n=none:=by
   unfold di aF
   rw[if_neg]
   simp only[Bool.and_eq_true,decide_eq_true_eq]
   exact hc
  rw[e]
  refine ite_true ?_ (H.gU 1 rfl rfl λw5 H=>H.nj 1 rfl ⟨⟨none,0,0⟩,rfl,sL H.mod λw=>HE w⟩)
  cases hm:bK k with
  |false=>rfl
  |true=>
   rw[hm]at hc
   by_cases h:n<1
   ·rw[decide_eq_true h];rfl
   ·rw[decide_eq_true (show((x.n:Nat):Int)<n from Decidable.byContradiction λhh=>hc ⟨rfl,by omega,by omega⟩),Bool.or_true]
 obtain⟨hm,hi⟩:=hc
 have e:di k n=some (k.ay.getD (n - 1).toNat vz):=by
  unfold di aF
  rw[if_pos]
  simp only[Bool.and_eq_true,decide_eq_true_eq]
  exact⟨hm,hi⟩
 obtain⟨h1,h2⟩:=xN hm
 refine ite_false (by rw[hm,decide_eq_false (show ¬n<1 by omega),decide_eq_false (show ¬((x.n:Nat):Int)<n by omega)];rfl) (H.bD 0 rfl (an (Bu k x (by omega) (λv hv=>Nat.le_trans (h2 v hv) (by omega)) _ (hx.av H.mod)) ?_))
 rintro _ w5 ⟨y,rfl,hy⟩
 have hb:=hy.box
 refine jz ⟨⟨by omega,by omega⟩,?_⟩
 obtain⟨j,hj⟩:∃j:Nat,n - 1=(j:Int):=⟨(n - 1).toNat,by omega⟩
 rw[e]
 rw[hj]at e⊢
 rw[Int.toNat_natCast]at e⊢
 have ha:k.ay[j]? = some (k.ay.getD j vz):=by rw[List.getD_eq_getElem?_getD,List.getElem?_eq_getElem (by omega)];rfl
 obtain⟨ys,fp,D⟩:=hy
 have hv:dD w5 y k.ay:=hb.now.ay
 obtain⟨bF,z,hz,hc⟩:=Dv.at aR.bA (by omega) hv ha
 generalize k.ay.getD j vz=v at*
 have gb:=hb.now.ay.len
 have hE:aM e6 w5 ys k.ay:=D.box 1 rfl
 obtain⟨u,hu⟩:∃u,ys[j]? = some u:=⟨_,List.getElem?_eq_getElem (by rw[hE.1];omega)⟩
 have Ou:∀(q:Nat) (t:Value),(v.cs u)[q]? = some t->w5.cell? (Addr.add (Addr.add (base y.a) (j*4)) q)=some t:=λq t ht=>(D.cG 0 rfl).oH aR.bA ha hu ht
 have H:=H.join D
 refine⟨bF,xp Ou (H.gU 1 rfl rfl λw6 H=>H.nj 1 rfl ⟨u,rfl,?_⟩)⟩
 refine H.boxed λw' h=>?_
 have h2:(aA.box fp λw=>aM e6 w ys k.ay).ok w':=h 3 _ rfl
 exact((h2.2 w' λ_ _=>rfl).2 j u v hu ha).r
theorem Zg(k:aI)(x:ag)(hl:k.ay.length<=1000000)(w:World)(hx:dD w x k.ay):Ok Pr Zu [.agg ⟨k.cs x⟩] w λr w'=>Ep w w' r (fW k):=by
 refine aC Tryz.func174 (J:=[(4,[])]) (L:=[(2,[(4,.int .i64)])]) ?_
 rw[oA]
 have aT:=hx.len
 refine(ah.start w).nw λp w1 H _=>H.nw λp1 w2 H _=>?_
 have H:ah w [] w2 [.aj p (bY k.id k.ten k.set x) aW,.aj p1 [.int .i64 0,.int .i64 0,.int .i64 0,.slice none 0 0] cR]:=H
 refine H.az 0 rfl (ai p 3) rfl ?_
 refine qA (λ(n:Int) w'=>∃j:Nat,n=(j:Int)/\j<=k.ay.length/\(bK k=true->uH k.ay j=fW k)/\ah w [] w' [.aj p (bY k.id k.ten k.set x) aW,.aj p1 [.int .i64 0,.int .i64 0,.int .i64 0,.slice none 0 0] cR]) (λn _=>n.toNat)
  ⟨k.ay.length,by omega,Nat.le_refl _,λh=>by unfold fW;rw[if_pos h],H⟩ ?_
 rintro again _ w3 ⟨j,rfl,hj,qN,H⟩ aB
 have no:∀w4,Mod [] w3 w4->fW k=none->gU ⟨p1,0,none⟩ 0 0 0 ⟨none,0,0⟩ w4 λw5=>nj ⟨p1,0,none⟩ w5 λa b c d=>Ep w w5 (.tuple ⟨[.agg ⟨[.int .i64 a,.int .i64 b,.int .i64 c,.slice d.a d.n d.c]⟩,.bool false]⟩) (fW k):=λw4 m e=>by
  rw[e]
  exact(H.frame m).gU 1 rfl rfl λw8 H=>H.nj 1 rfl ⟨⟨none,0,0⟩,rfl,sL H.mod λw=>HE w⟩
 refine gi λgo aV=>H.bD 0 rfl (aZ (λhc=>?_) (λhc=>?_))
 ·have hc:=of_decide_eq_true hc
  obtain⟨i,rfl⟩:∃i,j=i+1:=⟨j - 1,by omega⟩
  refine an (tZ k x hl _ (hx.av H.mod)) ?_
  rintro _ w4 ⟨rfl,m4⟩
  refine aN ?_
  cases hm:bK k with
  |false=>exact ite_false rfl (no w4 m4 (by unfold fW;rw[hm];rfl))
  |true=>
   have qN:=qN hm
   have H:=H.frame m4
   change (if (k.ay.getD i vz).st=1 then some (k.ay.getD i vz) else uH k.ay i)=fW k at qN
   refine ite_true rfl (aV _ (H.az 0 rfl (ai p 3) rfl ⟨⟨by omega,by omega⟩,?_⟩))
   have ha:k.ay[i]? = some (k.ay.getD i vz):=by rw[List.getD_eq_getElem?_getD,List.getElem?_eq_getElem (by omega)];rfl
   obtain⟨bF,z,hz,iz⟩:=Dv.at aR.bA (by omega) (hx.av H.mod) ha
   have ei:((i+1:Nat):Int) - 1=(i:Int):=by omega
   rw[ei]
   refine⟨bF,_,iz 1 _ rfl,?_⟩
   by_cases h:(k.ay.getD i vz).st=1
   ·rw[if_pos h]at qN
    refine ite_true (decide_eq_true h) (H.bD 0 rfl (an (Bv k x ((i+1:Nat):Int) hl _ (hx.av H.mod)) ?_))
    have hf:di k ((i+1:Nat):Int)=fW k:=by
     unfold di aF
     rw[if_pos (by rw[hm];simp;omega),show(((i+1:Nat):Int) - 1).toNat=i by omega]
     exact qN
    rw[hf]
    rintro _ w5 ⟨y,rfl,hy⟩
    obtain⟨f,H⟩:=H.dz hy
    refine⟨_,rfl,om ⟨_,rfl,rfl,H.gU 1 rfl rfl λw7 H=>H.nj 1 rfl ⟨y,rfl,?_⟩⟩⟩
    refine H.boxed λw' hh=>?_
    have h2:(aA.box f λw=>jb w y ((fW k).getD vz)).ok w':=hh 2 _ rfl
    exact h2.2 w' λ_ _=>rfl
   ·rw[if_neg h]at qN
    exact ite_false (decide_eq_false h) ⟨⟨by omega,by omega⟩,aB _ w4 ⟨i,rfl,by omega,λ_=>qN,H⟩ (by omega)⟩
 ·have hc:=of_decide_eq_false hc
  obtain rfl:j=0:=by omega
  refine no w3 (Mod.refl _ _) ?_
  by_cases h:bK k=true
  ·exact(qN h).symm
  ·unfold fW;rw[if_neg h]
theorem aaB(k:aI)(x:ag)(clock:Int)(hl:k.ay.length<=1000000)(w:World)(hx:dD w x k.ay):Ok Pr aaN [.agg ⟨k.cs x⟩,.int .i64 clock] w λr w'=>∃y:ag,r=.tuple ⟨[.agg ⟨(j7 k clock).cs y⟩,.int .i64 (sw k clock:Int)]⟩/\dU w w' λw=>fI w y (j7 k clock).ay:=by
 refine aC Tryz.func82 (J:=[(9,[(37,.bool)])]) (L:=[(6,[(6,.int .i64),(7,.int .i64)])]) ?_
 rw[kN]
 have aT:=hx.len
 refine(ah.start w).nw λp w1 H _=>H.nw λp1 w2 H _=>?_
 have H:ah w [] w2 [.aj p (bY k.id k.ten k.set x) aW,.aj p1 [.int .i64 0,.int .i64 0,.int .i64 0,.slice none 0 0] aW]:=H
 refine H.bD 0 rfl (an (tZ k x hl _ (hx.av H.mod)) ?_)
 rintro _ w3 ⟨rfl,m3⟩
 have H:=H.frame m3
 refine aN ?_
 have hR:j7 k clock=if bK k=true then ⟨k.id,k.ten,k.set,k.ay.map (gT clock)⟩ else kz:=rfl
 have hM:sw k clock=if bK k=true then ni clock k.ay else 0:=rfl
 generalize j7 k clock=R at*
 generalize sw k clock=M at*
 cases hm:bK k with
 |false=>
  rw[hm,if_neg (by decide)]at hR hM
  subst hR hM
  exact ite_true rfl (H.cO 1 rfl rfl λw8 H=>H.bD 1 rfl ⟨⟨none,0,0⟩,rfl,sL H.mod λw=>fI.nil w⟩)
 |true=>
  rw[hm,if_pos rfl]at hR hM
  subst hR hM
  obtain⟨b1,b2⟩:=xN hm
  obtain⟨_,_,_,_,hmv⟩:=rE hm
  refine ite_false rfl (H.bD 0 rfl (an (Bu k x (by omega) (λv hv=>Nat.le_trans (b2 v hv) (by omega)) _ (hx.av H.mod)) ?_))
  rintro _ w4 ⟨u,rfl,hu⟩
  have iR:=hu.box.now.ay.len
  obtain⟨ys,fp,D⟩:=hu
  have hE:aM e6 w4 ys k.ay:=D.box 1 rfl
  have H:=(H.join D)
  refine jz (H.cO 0 rfl rfl λw5 H=>?_)
  have H:ah w [] w5 [.aj p (bY k.id k.ten k.set u) aW,.aj p1 [.int .i64 0,.int .i64 0,.int .i64 0,.slice none 0 0] aW,.row cR 4 u (aO aR.cs k.ay ys),.box fp λw=>aM e6 w ys k.ay]:=H
  have xj:∀i,i<k.ay.length->ni clock (k.ay.take (i+1))=ni clock (k.ay.take i)+if (k.ay.getD i vz).st=3/\(k.ay.getD i vz).due<=clock then 1 else 0:=λi hi=>by
   unfold ni
   rw[ic _ _ hi vz,List.countP_append]
   simp[List.countP_cons]
  refine eZ 0 k.ay.length (λi (n:Int) w'=>n=(ni clock (k.ay.take i):Int)/\∃zs,zs.length=k.ay.length/\ah w [] w' [.aj p (bY k.id k.ten k.set u) aW,.aj p1 [.int .i64 0,.int .i64 0,.int .i64 0,.slice none 0 0] aW,.row cR 4 u (aO aR.cs ((k.ay.take i).map (gT clock)++k.ay.drop i) zs),.box fp λw=>aM e6 w zs ((k.ay.take i).map (gT clock)++k.ay.drop i)]) rfl (by omega) ⟨rfl,ys,hE.1,H⟩ ?_ ?_
  ·rintro again i _ w6 _ hi ⟨rfl,zs,gG,H⟩ aB
   have Ov:=xj i hi
   have hle:ni clock (k.ay.take i)<=1000:=Nat.le_trans (List.countP_le_length) (by rw[List.length_take];omega)
   have nI:=Ca (gT clock) k.ay i hi vz
   have mb:=Cb (gT clock) k.ay i hi
   have akn:((k.ay.take i).map (gT clock)++k.ay.drop i).length=k.ay.length:=by simp;omega
   have ha:k.ay[i]? = some (k.ay.getD i vz):=by rw[List.getD_eq_getElem?_getD,List.getElem?_eq_getElem hi];rfl
   have De:=(Cd (hmv i hi)).1
   rw[ha]at mb
   obtain⟨q,hq⟩:∃q,zs[i]? = some q:=⟨_,List.getElem?_eq_getElem (by omega)⟩
   rw[<- nI,Ov]at aB
   generalize (k.ay.take i).map (gT clock)++k.ay.drop i=MS at*
   generalize k.ay.getD i vz=v at*
   have hc:∀(j:Nat) (t:Value),(v.cs q)[j]? = some t->w6.cell? (Addr.add (Addr.add (base u.a) (Int.toNat (i:Int)*4)) j)=some t:=λj t ht=>by
    rw[Int.toNat_natCast]
    exact(H.cG 2 rfl).oH aR.bA mb hq ht
   have bF:ij u.a (i:Int) u.n True:=⟨⟨(H.cG 2 rfl).pre (by omega),by omega,by omega⟩,trivial⟩
   have akF:v.st=3/\v.due<=clock->az (Addr.add ⟨p,0,none⟩ 3) w6 λt39=>cv ((i:Int)+1)/\ij t39.a (i:Int) t39.n (gU (Addr.add (base t39.a) (Int.toNat (i:Int)*4)) ((i:Int)+1) 4 0 ⟨none,0,0⟩ w6 λw9=>cv ((ni clock (k.ay.take i):Int)+1)/\cv ((i:Int)+1)/\again ((ni clock (k.ay.take i):Int)+1) ((i:Int)+1) w9):=by
    intro hs
    have es:gT clock v=⟨(i:Int)+1,4,0,[]⟩:=by unfold gT;rw[if_pos hs,De]
    rw[es,if_pos hs]at aB
    refine H.az 0 rfl (ai p 3) rfl ⟨⟨by omega,by omega⟩,bF.1,?_⟩
    rw[Int.toNat_natCast]
    refine H.Va 2 rfl (by omega) (by omega) ⟨(i:Int)+1,4,0,[]⟩ ⟨none,0,0⟩ λw9 H=>⟨⟨by omega,by omega⟩,⟨by omega,by omega⟩,aB _ w9 ⟨by omega,zs.set i ⟨none,0,0⟩,by rw[List.length_set];exact gG,?_⟩⟩
    exact H.D9 3 rfl λw h=>aM.put h (i:=i) (x:=⟨none,0,0⟩) (a:=⟨(i:Int)+1,4,0,[]⟩) (Own.nil w 0 aE 1)
   have left:¬(v.st=3/\v.due<=clock)->cv ((i:Int)+1)/\again (ni clock (k.ay.take i):Int) ((i:Int)+1) w6:=by
    intro hs
    have es:gT clock v=v:=by unfold gT;rw[if_neg hs]
    rw[es,if_neg hs,vA mb]at aB
    exact⟨⟨by omega,by omega⟩,aB _ w6 ⟨by omega,zs,gG,H⟩⟩
   refine H.az 0 rfl (ai p 3) rfl (ite_true (decide_eq_true (by omega)) (fo λgo aV=>H.az 0 rfl (ai p 3) rfl ⟨bF.1,_,hc 1 _ rfl,H.az 0 rfl (ai p 3) rfl ?_⟩))
   by_cases h3:v.st=3
   ·refine ite_true (decide_eq_true h3) ⟨bF.1,_,hc 2 _ rfl,aV _ _ ?_⟩
    by_cases hd:v.due<=clock
    ·exact ite_true (decide_eq_true hd) (akF ⟨h3,hd⟩)
    ·exact ite_false (decide_eq_false hd) (left λh=>hd h.2)
   ·exact ite_false (decide_eq_false h3) (aV _ _ (ite_false rfl (left λh=>h3 h.1)))
  ·rintro again _ w6 ⟨rfl,zs,gG,H⟩
   rw[List.take_of_length_le (Nat.le_refl _),List.drop_of_length_le (Nat.le_refl _),List.append_nil]at H
   rw[List.take_of_length_le (Nat.le_refl _)]
   refine H.az 0 rfl (ai p 3) rfl (ite_false (decide_eq_false (by omega)) (H.bD 0 rfl (H.cO 1 rfl rfl λw7 H=>H.bD 1 rfl ⟨u,rfl,?_⟩)))
   refine H.boxed λw' h=>⟨zs,h 2 _ rfl,?_⟩
   have h3:(aA.box fp λw=>aM e6 w zs (k.ay.map (gT clock))).ok w':=h 3 _ rfl
   exact h3.2 w' λ_ _=>rfl
theorem Py(k:aI)(x:ag)(aJ:Int)(hl:k.ay.length<=1000000)(w:World)(hx:dD w x k.ay):Ok Pr Z6 [.agg ⟨k.cs x⟩,.int .i64 aJ] w λr w'=>oG aE 1 w w' r (aG (kJ k aJ gj)) (fF k aJ gj):=by
 refine aC Tryz.func132 ?_
 rw[oA]
 have hC:fF k aJ gj=if bK k=true then (match di k aJ with|none=>9|some v=>if gj v.st=true then g9 k.set v.ak.length else 11) else 2:=rfl
 have hA:kJ k aJ gj=if fF k aJ gj=0 then ff k.set ((di k aJ).getD vz).ak else []:=rfl
 generalize fF k aJ gj=C at*
 generalize kJ k aJ gj=A at*
 refine(ah.start w).nw λp w1 H _=>?_
 have H:ah w [] w1 [.aj p (bY k.id k.ten k.set x) aW]:=H
 refine H.bD 0 rfl (an (tZ k x hl _ (hx.av H.mod)) ?_)
 rintro _ w2 ⟨rfl,m2⟩
 have H:=H.frame m2
 have no:∀ {w3:World} (c:Int),Mod [] w w3->c≠0->C=c->oG aE 1 w w3 (.tuple ⟨[.slice none 0 0,.int .i64 c]⟩) (aG A) C:=by
  intro w3 c m hc cX
  rw[cX,if_neg hc]at hA
  subst hA
  rw[cX]
  exact⟨⟨none,0,0⟩,rfl,Own.nil _ _ _ _,m⟩
 refine aN ?_
 cases hm:bK k with
 |false=>
  rw[hm,if_neg (by decide)]at hC
  exact ite_true rfl (no 2 H.mod (by decide) hC)
 |true=>
  rw[hm,if_pos rfl]at hC
  refine ite_false rfl (H.bD 0 rfl (an (Bv k x aJ hl _ (hx.av H.mod)) ?_))
  rintro _ w4 ⟨y,rfl,hy⟩
  obtain⟨f,H⟩:=H.dz hy
  refine⟨_,rfl,om ⟨_,rfl,rfl,H.nw λp1 w5 H _=>H.gU 2 rfl rfl λw6 H=>?_⟩⟩
  cases hf:di k aJ with
  |none=>
   rw[hf]at hC
   exact ite_true rfl (no 9 H.mod (by decide) hC)
  |some v=>
   rw[hf]at hC hA H
   change C=(if gj v.st=true then g9 k.set v.ak.length else 11)at hC
   change A=(if C=0 then ff k.set v.ak else [])at hA
   refine ite_false rfl (H.au 2 rfl (ai p1 1) rfl ?_)
   show dc (decide (v.st=4)) _ _
   by_cases h4:v.st=4
   ·rw[if_neg (by unfold gj;rw[decide_eq_true h4];decide)]at hC
    exact ite_true (decide_eq_true h4) (no 11 H.mod (by decide) hC)
   ·rw[if_pos (by unfold gj;rw[decide_eq_false h4];rfl)]at hC
    have hs:jb w6 y v:=H.box 1 rfl
    refine ite_false (decide_eq_false h4) (H.au 0 rfl (ai p 2) rfl (H.az 2 rfl (ai p1 3) rfl (an (Ko k.set y v.ak _ hs) ?_)))
    rintro _ w8 ⟨a,b,rfl,D⟩
    have H:=H.join D
    have eA:A=ff k.set v.ak:=by
     rw[hA]
     by_cases h:C=0
     ·rw[if_pos h]
     ·rw[if_neg h,Vb (by rw[<- hC];exact h)]
    refine⟨_,rfl,a,rfl,b,rfl,_,rfl,rfl,a,by rw[hC],?_,H.mod⟩
    rw[eA]
    exact H.cm 3 rfl
theorem Qp(k:aI)(x xm:ag)(m:List B8)(hl:k.ay.length<=1000000)(w:World)(hx:dD w x k.ay)(Dd:Bytes w xm m):Ok Pr ab7 [.agg ⟨k.cs x⟩,.slice xm.a xm.n xm.c] w λr w'=>∃(y z:ag),r=.tuple ⟨[.int .i64 (qv k m),.slice y.a y.n y.c,.slice z.a z.n z.c,.int .i64 (iI k m)]⟩/\
  ah w [] w' [.row aE 1 y (aG (me k m)),.row aE 1 z (aG (ju k m))]:=by
 refine aC Tryz.func134 ?_
 rw[oA]
 have hC:iI k m=if bK k=true then (match fW k with|none=>11|some v=>jL k.set (ff k.set v.ak) m) else 2:=rfl
 have hN:qv k m=if iI k m=0 then ((fW k).getD vz).n else 0:=rfl
 have hL:me k m=if iI k m=0 then pL k.set (ff k.set ((fW k).getD vz).ak) m else []:=rfl
 have hS:ju k m=if iI k m=0 then ob k.set (ff k.set ((fW k).getD vz).ak) m else []:=rfl
 generalize iI k m=C at*
 generalize qv k m=N at*
 generalize me k m=V at*
 generalize ju k m=S at*
 refine(ah.start w).nw λp w1 H _=>?_
 have H:ah w [] w1 [.aj p (bY k.id k.ten k.set x) aW]:=H
 refine H.bD 0 rfl (an (tZ k x hl _ (hx.av H.mod)) ?_)
 rintro _ w2 ⟨rfl,m2⟩
 have H:=H.frame m2
 have no:∀ {w3:World} (c:Int),c≠0->C=c->Mod [] w w3->∃(y z:ag),Value.tuple ⟨[.int .i64 0,.slice none 0 0,.slice none 0 0,.int .i64 c]⟩=.tuple ⟨[.int .i64 N,.slice y.a y.n y.c,.slice z.a z.n z.c,.int .i64 C]⟩/\
   ah w [] w3 [.row aE 1 y (aG V),.row aE 1 z (aG S)]:=by
  intro w3 c hc cX m
  rw[cX]at hN hL hS
  rw[if_neg hc]at hN hL hS
  subst hN hL hS
  rw[cX]
  exact⟨⟨none,0,0⟩,⟨none,0,0⟩,rfl,(((ah.start w).dy aE 1).dy aE 1).frame m⟩
 refine aN ?_
 cases hm:bK k with
 |false=>
  rw[hm,if_neg (by decide)]at hC
  exact ite_true rfl (no 2 (by decide) hC H.mod)
 |true=>
  rw[hm,if_pos rfl]at hC
  refine ite_false rfl (H.bD 0 rfl (an (Zg k x hl _ (hx.av H.mod)) ?_))
  rintro _ w4 ⟨y,rfl,hy⟩
  obtain⟨f,H⟩:=H.dz hy
  refine⟨_,rfl,om ⟨_,rfl,rfl,H.nw λp1 w5 H _=>H.gU 2 rfl rfl λw6 H=>?_⟩⟩
  cases hf:fW k with
  |none=>
   rw[hf]at hC
   exact ite_true rfl (no 11 (by decide) hC H.mod)
  |some v=>
   rw[hf]at hC hN hL hS H
   change C=jL k.set (ff k.set v.ak) m at hC
   change N=(if C=0 then v.n else 0)at hN
   change V=(if C=0 then pL k.set (ff k.set v.ak) m else [])at hL
   change S=(if C=0 then ob k.set (ff k.set v.ak) m else [])at hS
   have hs:jb w6 y v:=H.box 1 rfl
   refine ite_false rfl (H.au 0 rfl (ai p 2) rfl (H.az 2 rfl (ai p1 3) rfl (an (Ko k.set y v.ak _ hs) ?_)))
   rintro _ w8 ⟨a,b,rfl,D⟩
   have H:=H.join D
   refine⟨_,rfl,a,rfl,b,rfl,_,rfl,rfl,H.au 0 rfl (ai p 2) rfl (an (acR k.set a xm _ m _ (H.bytes 3 rfl) (Dd.av H.mod)) ?_)⟩
   rintro _ w9 ⟨c,d,rfl,D2⟩
   have H:=H.join D2
   refine⟨_,rfl,c,rfl,d,rfl,_,rfl,rfl,?_⟩
   by_cases h0:jL k.set (ff k.set v.ak) m=0
   ·rw[h0]at hC
    rw[hC,if_pos rfl]at hN hL hS
    refine ite_false (by rw[decide_eq_true h0];rfl) (H.au 2 rfl (ai p1 0) rfl ⟨c,d,?_,?_⟩)
    ·rw[hN,hC];rfl
    ·rw[hL,hS]
     exact H.two 5 6 rfl rfl (by omega)
   ·exact ite_true (by rw[decide_eq_false h0];rfl) (no _ h0 hC H.mod)
theorem Qq(k:aI)(x xc:ag)(aJ:Int)(c:List B8)(hl:k.ay.length<=1000000)(w:World)(hx:dD w x k.ay)(hc:Bytes w xc c):Ok Pr ab8 [.agg ⟨k.cs x⟩,.int .i64 aJ,.slice xc.a xc.n xc.c] w λr w'=>oG aE 1 w w' r (aG (oL k aJ c)) (oC k aJ c):=by
 refine aC Tryz.func135 ?_
 rw[oA]
 have hP:fF k aJ gp=if bK k=true then (match di k aJ with|none=>9|some v=>if gp v.st=true then g9 k.set v.ak.length else 11) else 2:=rfl
 have hB:rq k aJ gp=if fF k aJ gp=0 then nY k.set ((di k aJ).getD vz).ak else []:=rfl
 have hC:oC k aJ c=if fF k aJ gp=0 then rm k.set (rq k aJ gp) c else fF k aJ gp:=rfl
 have hL:oL k aJ c=if oC k aJ c=0 then mz k.set (rq k aJ gp) c else []:=rfl
 generalize fF k aJ gp=Q at*
 generalize rq k aJ gp=B at*
 generalize oC k aJ c=C at*
 generalize oL k aJ c=V at*
 refine(ah.start w).nw λp w1 H _=>?_
 have H:ah w [] w1 [.aj p (bY k.id k.ten k.set x) aW]:=H
 refine H.bD 0 rfl (an (tZ k x hl _ (hx.av H.mod)) ?_)
 rintro _ w2 ⟨rfl,m2⟩
 have H:=H.frame m2
 have no:∀ {w3:World} (d:Int),Mod [] w w3->d≠0->Q=d->oG aE 1 w w3 (.tuple ⟨[.slice none 0 0,.int .i64 d]⟩) (aG V) C:=by
  intro w3 d m hd hQ
  rw[hQ,if_neg hd]at hC
  rw[hC,if_neg hd]at hL
  subst hL
  rw[hC]
  exact⟨⟨none,0,0⟩,rfl,Own.nil _ _ _ _,m⟩
 refine aN ?_
 cases hm:bK k with
 |false=>
  rw[hm,if_neg (by decide)]at hP
  exact ite_true rfl (no 2 H.mod (by decide) hP)
 |true=>
  rw[hm,if_pos rfl]at hP
  refine ite_false rfl (H.bD 0 rfl (an (Bv k x aJ hl _ (hx.av H.mod)) ?_))
  rintro _ w4 ⟨y,rfl,hy⟩
  obtain⟨f,H⟩:=H.dz hy
  refine⟨_,rfl,om ⟨_,rfl,rfl,H.nw λp1 w5 H _=>H.gU 2 rfl rfl λw6 H=>?_⟩⟩
  cases hf:di k aJ with
  |none=>
   rw[hf]at hP
   exact ite_true rfl (no 9 H.mod (by decide) hP)
  |some v=>
   rw[hf]at hP hB H
   change Q=(if gp v.st=true then g9 k.set v.ak.length else 11)at hP
   change B=(if Q=0 then nY k.set v.ak else [])at hB
   refine ite_false rfl (H.au 2 rfl (ai p1 1) rfl ?_)
   show dc (!decide (v.st=1)) _ _
   by_cases h1:v.st=1
   ·rw[if_pos (by unfold gp;rw[decide_eq_true h1])]at hP
    obtain⟨q1,q2,q3,q4,q5⟩:=BK hf
    have dX:=(Cd q5).2.2.2.2.1 (by omega)
    have hk:g9 k.set v.ak.length=0:=by unfold g9;rw[Tw hm,if_pos rfl,if_pos dX]
    rw[hk]at hP
    rw[hP,if_pos rfl]at hC hB
    have hs:jb w6 y v:=H.box 1 rfl
    refine ite_false (by rw[decide_eq_true h1];rfl) (H.au 0 rfl (ai p 2) rfl (H.az 2 rfl (ai p1 3) rfl (an (Ko k.set y v.ak _ hs) ?_)))
    rintro _ w8 ⟨a,b,rfl,D⟩
    have H:=H.join D
    refine⟨_,rfl,a,rfl,b,rfl,_,rfl,rfl,H.au 0 rfl (ai p 2) rfl (an (acS k.set b xc _ c _ (H.bytes 4 rfl) (hc.av H.mod)) ?_)⟩
    rw[<- hB]
    rintro _ w9 ⟨u,rfl,hu,m9⟩
    have H:=H.bg m9 hu
    have eV:V=mz k.set B c:=by
     rw[hL]
     by_cases h:C=0
     ·rw[if_pos h]
     ·rw[if_neg h,Vc (by rw[<- hC];exact h)]
    refine⟨_,rfl,u,rfl,_,rfl,rfl,u,by rw[hC],?_,H.mod⟩
    rw[eV]
    exact H.cm 5 rfl
   ·rw[if_neg (by unfold gp;rw[decide_eq_false h1];decide)]at hP
    exact ite_true (by rw[decide_eq_false h1];rfl) (no 11 H.mod (by decide) hP)
theorem acX(k:aI)(x:ag)(op aJ bU clock:Int)(hl:k.ay.length<=1000000)(w:World)(hx:dD w x k.ay):Ok Pr adl [.agg ⟨k.cs x⟩,.int .i64 op,.int .i64 aJ,.int .i64 bU,.int .i64 clock] w λr w'=>Er w w' r (mc k op aJ bU clock) (qg k op aJ bU clock):=by
 refine aC Tryz.func139 (J:=[(14,[(14,.int .i64),(15,.bool),(16,.int .i64)])]) (N:=[15]) ?_
 rw[kN,oA]
 have aT:=hx.len
 have hC:qg k op aJ bU clock=if bK k=true/\5<=op/\op<=8 then (match di k aJ with
  |none=>9
  |some v=>match iT op v.st with
   |none=>11
   |some _=>if op=7/\(bU<=clock\/aF 1 1099511627776 bU=false) then 2 else 0) else 2:=rfl
 have hR:mc k op aJ bU clock=if qg k op aJ bU clock=0 then ⟨k.id,k.ten,k.set,k.ay.set (aJ - 1).toNat (yg k op aJ bU)⟩ else kz:=rfl
 generalize qg k op aJ bU clock=C at*
 generalize mc k op aJ bU clock=R at*
 refine(ah.start w).nw λp w1 H _=>H.nw λp1 w2 H _=>?_
 have H:ah w [] w2 [.aj p (bY k.id k.ten k.set x) aW,.aj p1 [.int .i64 0,.int .i64 0,.int .i64 0,.slice none 0 0] aW]:=H
 refine H.bD 0 rfl (an (tZ k x hl _ (hx.av H.mod)) ?_)
 rintro _ w3 ⟨rfl,m3⟩
 have H:=H.frame m3
 have no:∀ {L:List aA} {w3:World} (c:Int),ah w [] w3 (.aj p (bY k.id k.ten k.set x) aW::.aj p1 [.int .i64 0,.int .i64 0,.int .i64 0,.slice none 0 0] aW::L)->c≠0->C=c->cO ⟨p1,0,none⟩ 0 0 0 ⟨none,0,0⟩ w3 λw8=>bD ⟨p1,0,none⟩ w8 λa b c' d=>Er w w8 (.tuple ⟨[.agg ⟨[.int .i64 a,.int .i64 b,.int .i64 c',.slice d.a d.n d.c]⟩,.int .i64 c]⟩) R C:=by
  intro L w3 c H hc cX
  rw[cX,if_neg hc]at hR
  subst hR
  rw[cX]
  exact H.cO 1 rfl rfl λw8 H=>H.bD 1 rfl ⟨⟨none,0,0⟩,rfl,sL H.mod λw=>fI.nil w⟩
 refine aN ?_
 by_cases h0:bK k=true/\5<=op/\op<=8
 case neg=>
  rw[if_neg h0]at hC
  refine ite_true ?_ (no (L:=[]) 2 H (by decide) hC)
  cases hm:bK k with
  |false=>rfl
  |true=>
   rw[hm]at h0
   by_cases h:op<5
   ·rw[decide_eq_true h];rfl
   ·rw[decide_eq_false h,decide_eq_true (show 8<op from Decidable.byContradiction λhh=>h0 ⟨rfl,by omega,by omega⟩)];rfl
 rw[if_pos h0]at hC
 obtain⟨hm,ho1,ho2⟩:=h0
 obtain⟨b1,b2⟩:=xN hm
 refine ite_false (by rw[hm,decide_eq_false (show ¬op<5 by omega),decide_eq_false (show ¬8<op by omega)];rfl) (H.bD 0 rfl (an (Bv k x aJ hl _ (hx.av H.mod)) ?_))
 rintro _ w4 ⟨y,rfl,hy⟩
 obtain⟨f,H⟩:=H.dz hy
 refine⟨_,rfl,om ⟨_,rfl,rfl,H.nw λp2 w5 H _=>H.gU 3 rfl rfl λw6 H=>?_⟩⟩
 cases hf:di k aJ with
 |none=>
  rw[hf]at hC
  exact ite_true rfl (no 9 H (by decide) hC)
 |some v=>
  rw[hf]at hC H
  obtain⟨_,h2,h3,h4,h5⟩:=BK hf
  change C=(match iT op v.st with|none=>11|some _=>if op=7/\(bU<=clock\/aF 1 1099511627776 bU=false) then 2 else 0)at hC
  have H:=H.drew
  refine ite_false rfl (H.au 3 rfl (ai p2 1) rfl (Tg λgo aV=>?_))
  have rest:∀(due:Int) (fr:Bool) (to:Int),iT op v.st=(if fr=true then some to else none)->(fr=true->due=if op=7 then bU else 0)->go due fr to w6.drew:=by
   intro due fr to hn alf
   refine aV _ _ _ _ ?_
   cases fr with
   |false=>
    rw[if_neg (by decide)]at hn
    rw[hn]at hC
    exact ite_true rfl (no 11 H (by decide) hC)
   |true=>
    rw[if_pos rfl]at hn
    rw[hn]at hC
    obtain rfl:=alf rfl
    change C=if op=7/\(bU<=clock\/aF 1 1099511627776 bU=false) then 2 else 0 at hC
    refine ite_false rfl ?_
    by_cases IT:op=7/\(bU<=clock\/aF 1 1099511627776 bU=false)
    ·rw[if_pos IT]at hC
     refine ite_true ?_ (no 2 H (by decide) hC)
     obtain⟨h7,hb⟩:=IT
     rw[decide_eq_true h7,Bool.true_and]
     rcases hb with h|h
     ·rw[decide_eq_true h];rfl
     ·unfold aF at h
      rw[Bool.and_eq_false_iff,decide_eq_false_iff_not,decide_eq_false_iff_not]at h
      rcases h with h|h
      ·rw[decide_eq_true (show bU<1 by omega),Bool.or_true,Bool.true_or]
      ·rw[decide_eq_true (show 1099511627776<bU by omega),Bool.or_true]
    rw[if_neg IT]at hC
    have akG:(decide (op=7)&&(decide (bU<=clock)||decide (bU<1)||decide (1099511627776<bU)))=false:=by
     rw[Bool.eq_false_iff]
     intro hh
     simp only[Bool.and_eq_true,Bool.or_eq_true,decide_eq_true_eq]at hh
     refine IT ⟨hh.1,?_⟩
     unfold aF
     rw[Bool.and_eq_false_iff,decide_eq_false_iff_not,decide_eq_false_iff_not]
     omega
    rw[hC,if_pos rfl]at hR
    subst hR
    rw[hC]
    refine ite_false akG (H.bD 0 rfl (an (Bu k x (by omega) (λv hv=>Nat.le_trans (b2 v hv) (by omega)) _ (hx.av H.mod)) ?_))
    rintro _ w8 ⟨u,rfl,hu⟩
    have iR:=hu.box.now.ay.len
    obtain⟨ys,fp,D⟩:=hu
    have hE:aM e6 w8 ys k.ay:=D.box 1 rfl
    have H:=(H.join D)
    refine jz (H.cO 0 rfl rfl λw9 H=>?_)
    have H:=H.drew
    obtain⟨j,hj⟩:∃j:Nat,aJ - 1=(j:Int):=⟨(aJ - 1).toNat,by omega⟩
    unfold yg
    rw[hj]at h4⊢
    rw[Int.toNat_natCast]at h4⊢
    rw[<- h4,hn]
    have ha:k.ay[j]? = some v:=by rw[h4,List.getD_eq_getElem?_getD,List.getElem?_eq_getElem (by omega)];rfl
    obtain⟨q,hq⟩:∃q,ys[j]? = some q:=⟨_,List.getElem?_eq_getElem (by rw[hE.1];omega)⟩
    have zh:=gw aR.bA k.ay ys hE.1
    refine H.az 0 rfl (ai p 3) rfl ⟨⟨by omega,by omega⟩,H.az 0 rfl (ai p 3) rfl ⟨⟨by omega,by omega⟩,⟨(H.cG 4 rfl).pre (by omega),by omega,by omega⟩,?_⟩⟩
    refine H.gx 4 (i:=j*4+1) rfl (by rw[add_add]) (by omega) rfl λbP H2=>?_
    refine⟨gm (H.aj 0 rfl) (H2.aj 0 rfl) (fS _ _),⟨(H.cG 4 rfl).pre (by omega),by omega,by omega⟩,?_⟩
    refine H2.gx 4 (i:=j*4+2) rfl (by rw[add_add]) (by rw[List.length_set];omega) rfl λbQ H3=>?_
    have e1:(aO aR.cs k.ay ys).set (j*4+1) (.int .i64 to)=aO aR.cs (k.ay.set j ⟨v.n,to,v.due,v.ak⟩) (ys.set j q):=rD aR.bA k.ay ys j 1 v ⟨v.n,to,v.due,v.ak⟩ q q _ ha hq (by omega) rfl
    have e2:(aO aR.cs (k.ay.set j ⟨v.n,to,v.due,v.ak⟩) (ys.set j q)).set (j*4+2) (.int .i64 (if op=7 then bU else 0))=aO aR.cs ((k.ay.set j ⟨v.n,to,v.due,v.ak⟩).set j ⟨v.n,to,if op=7 then bU else 0,v.ak⟩) ((ys.set j q).set j q):=
     rD aR.bA _ _ j 2 ⟨v.n,to,v.due,v.ak⟩ ⟨v.n,to,if op=7 then bU else 0,v.ak⟩ q q _ (by rw[List.getElem?_set,if_pos rfl,if_pos (by omega)]) (by rw[vA hq];exact hq) (by omega) rfl
    refine H3.bD 0 rfl (H3.cO 1 rfl rfl λcH H4=>H4.bD 1 rfl ⟨u,rfl,?_⟩)
    refine H4.boxed λw' h=>⟨ys,?_,?_⟩
    ·have ho:Own w' 0 cR 4 u (((aO aR.cs k.ay ys).set (j*4+1) (.int .i64 to)).set (j*4+2) (.int .i64 (if op=7 then bU else 0))):=h 4 _ rfl
     rw[e1,e2,List.set_set,List.set_set,vA hq]at ho
     exact ho
    ·have h5:(aA.box fp λw=>aM e6 w ys k.ay).ok w':=h 5 _ rfl
     have FR:=h5.2 w' λ_ _=>rfl
     have:=aM.put FR (i:=j) (x:=q) (a:=⟨v.n,to,if op=7 then bU else 0,v.ak⟩) (FR.2 j q v hq ha:e6 w' q v)
     rw[vA hq]at this
     exact this
  refine aZ (λhc=>?_) (λhc=>?_)
  ·have hc:=of_decide_eq_true hc
   refine H.au 3 rfl (ai p2 1) rfl (rest _ _ _ ?_ λ_=>by rw[if_neg (by omega)])
   unfold iT
   rw[if_neg (by omega),if_neg (by omega),if_pos hc]
   show(if v.st=1 then some 2 else none)=if decide (v.st=1)=true then some 2 else none
   by_cases h:v.st=1
   ·rw[if_pos h,decide_eq_true h];rfl
   ·rw[if_neg h,decide_eq_false h];rfl
  ·have h6:=of_decide_eq_false hc
   refine aZ (λhc=>?_) (λhc=>?_)
   ·have hc:=of_decide_eq_true hc
    refine H.au 3 rfl (ai p2 1) rfl (H.au 3 rfl (ai p2 1) rfl (nD (rest _ _ _ ?_ λ_=>by rw[if_pos hc])))
    unfold iT
    rw[if_neg (by omega),if_pos hc]
    show(if v.st=1\/v.st=2 then some 3 else none)=if (decide (v.st=1)||decide (v.st=2))=true then some 3 else none
    by_cases h:v.st=1\/v.st=2
    ·rw[if_pos h,if_pos (by simpa using h)]
    ·rw[if_neg h,if_neg (by simpa using h)]
   ·have h7:=of_decide_eq_false hc
    refine aZ (λhc=>?_) (λhc=>?_)
    ·have hc:=of_decide_eq_true hc
     refine H.au 3 rfl (ai p2 1) rfl (rest _ _ _ ?_ λ_=>by rw[if_neg h7])
     unfold iT
     rw[if_neg (by omega),if_neg h7,if_neg h6,if_pos hc]
     show(if v.st=3 then some 2 else none)=if decide (v.st=3)=true then some 2 else none
     by_cases h:v.st=3
     ·rw[if_pos h,decide_eq_true h];rfl
     ·rw[if_neg h,decide_eq_false h];rfl
    ·have h8:=of_decide_eq_false hc
     refine rest _ _ _ ?_ λ_=>by rw[if_neg h7]
     unfold iT
     rw[if_pos (by omega)]
     show(if v.st=2 then some 1 else none)=if decide (v.st=2)=true then some 1 else none
     by_cases h:v.st=2
     ·rw[if_pos h,decide_eq_true h];rfl
     ·rw[if_neg h,decide_eq_false h];rfl
theorem acY(x:ag)(ts:List bL)(hl:ts.length<=1000000)(par:Int)(name:ByteArray)(w:World)(hx:fk w x ts):Ok Pr adj [.slice x.a x.n x.c,.int .i64 par,.string name] w λv w'=>∃y:ag,v=.tuple ⟨[.slice y.a y.n y.c,.int .i64 (yH ts par name),.int .i64 (k5 ts par name)]⟩/\ah w [] w' [.row cD 3 y (dJ (qh ts par name))]:=by
 refine aC Tryz.func130 (J:=[(11,[(50,.bool)])]) (L:=[(8,[(9,.int .i64)])]) ?_
 have aT:=hx.len
 have hC:k5 ts par name=if gE ts=true then (if aF 1 (ts.length:Int) par=true then (if mH name=true then (if ts.any (iM par name)=true then 13 else if ts.length=8 then 12 else 0) else 2) else 9) else 2:=rfl
 have hT:qh ts par name=if k5 ts par name=0 then ts++[⟨(ts.length:Int)+1,par,name⟩] else []:=rfl
 have hI:yH ts par name=if k5 ts par name=0 then (ts.length:Int)+1 else 0:=rfl
 generalize k5 ts par name=C at*
 generalize qh ts par name=T at*
 generalize yH ts par name=I at*
 have no:∀ {w3:World} (c:Int),Mod [] w w3->c≠0->C=c->∃y:ag,Value.tuple ⟨[.slice none 0 0,.int .i64 0,.int .i64 c]⟩=.tuple ⟨[.slice y.a y.n y.c,.int .i64 I,.int .i64 C]⟩/\ah w [] w3 [.row cD 3 y (dJ T)]:=by
  intro w3 c m hc cX
  rw[cX,if_neg hc]at hT hI
  subst hT hI
  rw[cX]
  exact⟨⟨none,0,0⟩,rfl,((ah.start w).dy cD 3).frame m⟩
 refine an (Gp x ts hl w hx) ?_
 rintro _ w1 ⟨rfl,m1⟩
 refine aN ?_
 cases h1:gE ts with
 |false=>
  rw[h1,if_neg (by decide)]at hC
  exact ite_true rfl (no 2 m1 (by decide) hC)
 |true=>
  rw[h1,if_pos rfl]at hC
  have h88:=(LO h1).1
  refine ite_false rfl (an (Dp x ts par _ (hx.av m1)) ?_)
  rintro _ w2 ⟨rfl,hw⟩
  subst hw
  refine aN ?_
  cases h2:aF 1 (ts.length:Int) par with
  |false=>
   rw[h2,if_neg (by decide)]at hC
   exact ite_true rfl (no 9 m1 (by decide) hC)
  |true=>
   rw[h2,if_pos rfl]at hC
   refine ite_false rfl ?_
   by_cases h3:1<=name.size/\name.size<=300
   case neg=>
    have e:mH name=false:=Bool.eq_false_iff.2 λf=>h3 (by
     unfold mH aF at f
     simp only[Bool.and_eq_true,decide_eq_true_eq]at f
     omega)
    rw[e,if_neg (by decide)]at hC
    refine ite_true ?_ (no 2 m1 (by decide) hC)
    simp only[Bool.or_eq_true,decide_eq_true_eq];omega
   have e:mH name=true:=by
    unfold mH aF
    simp only[Bool.and_eq_true,decide_eq_true_eq];omega
   rw[e,if_pos rfl]at hC
   refine ite_false (by simp only[Bool.or_eq_false_iff,decide_eq_false_iff_not];omega) ?_
   refine bG 0 ts.length (λi w'=>(ts.take i).any (iM par name)=false/\w'=w2) rfl (by omega) ⟨rfl,rfl⟩ ?_ ?_
   ·rintro again i w3 _ hi ⟨hn,rfl⟩ aB
    obtain⟨bF,hc⟩:=(hx.av m1).at hi
    have q1:=vw (iM par name) ts i hi tz
    have q2:=vv (iM par name) ts i hi tz
    generalize ts.getD i tz=t at*
    have yes:iM par name t=true->∃y:ag,Value.tuple ⟨[.slice none 0 0,.int .i64 0,.int .i64 13]⟩=.tuple ⟨[.slice y.a y.n y.c,.int .i64 I,.int .i64 C]⟩/\ah w [] w3 [.row cD 3 y (dJ T)]:=λh=>by
     rw[q1 h,if_pos rfl]at hC
     exact no 13 m1 (by decide) hC
    have on:iM par name t=false->cv ((i:Int)+1)/\again ((i:Int)+1) w3:=λh=>⟨⟨by omega,by omega⟩,aB _ ⟨by rw[q2,hn,h];rfl,rfl⟩⟩
    refine ite_true (decide_eq_true (by omega)) (fo λgo aV=>⟨bF,_,hc 1 _ rfl,?_⟩)
    by_cases hp:t.par=par
    ·refine ite_true (decide_eq_true hp) ⟨bF,_,hc 2 _ rfl,aV _ _ ?_⟩
     by_cases hq:t.name=name
     ·exact ite_true (decide_eq_true hq) (yes (by unfold iM;rw[decide_eq_true hp,decide_eq_true hq];rfl))
     ·exact ite_false (decide_eq_false hq) (on (by unfold iM;rw[decide_eq_false hq,Bool.and_false]))
    ·exact ite_false (decide_eq_false hp) (aV _ _ (ite_false rfl (on (by unfold iM;rw[decide_eq_false hp];rfl))))
   ·rintro again w3 ⟨hn,rfl⟩
    rw[List.take_of_length_le (Nat.le_refl _)]at hn
    rw[hn,if_neg (by decide)]at hC
    refine ite_false (decide_eq_false (by omega)) ?_
    by_cases h8:ts.length=8
    ·rw[if_pos h8]at hC
     exact ite_true (decide_eq_true (by omega)) (no 12 m1 (by decide) hC)
    rw[if_neg h8]at hC
    rw[hC,if_pos rfl]at hT hI
    subst hT hI
    rw[hC]
    have H:=(ah.start w).frame m1
    refine ite_false (decide_eq_false (by omega)) (H.clone Ce (hx.av m1).sl (ug bL.jE _ _) (by omega) (by omega) λy w5 H hy=>⟨⟨by omega,by omega⟩,?_⟩)
    rw[show((x.n:Nat):Int)+1=(ts.length:Int)+1 by omega]
    refine H.uL 0 Ce rfl rfl (by intro u hu;exact bL.jE ⟨(ts.length:Int)+1,par,name⟩ ⟨none,0,0⟩ u hu) (by omega) (by omega) λy' w6 H _=>⟨⟨by omega,by omega⟩,y',rfl,?_⟩
    rw[Tz]
    exact H
theorem afM{t:aH}(h:cP t=true){i:Nat}(hi:i<t.ax.length):nN t i (t.ax.getD i dK)=true:=by
 unfold cP at h
 rw[Bool.and_eq_true,Bool.and_eq_true]at h
 cases e:nN t i (t.ax.getD i dK)with
 |true=>rfl
 |false=>rw[HK e _ hi]at h;exact absurd h.2.1 (by decide)
theorem aiQ{l:List bu}(h:fy l=true){i:Nat}(hi:i<l.length):(l.getD i gz).n0=(i:Int)+1/\jl (l.getD i gz)=true:=by
 unfold fy at h
 rw[Bool.and_eq_true]at h
 cases e:(decide ((l.getD i gz).n0=(i:Int)+1)&&jl (l.getD i gz))with
 |true=>rw[Bool.and_eq_true,decide_eq_true_eq]at e;exact e
 |false=>rw[LM hi e]at h;exact absurd h.1 (by decide)
theorem agG{t:aH}(h:cP t=true){i:Nat}(hi:i<t.aL.length):aF 1 (t.keys.length:Int) (t.aL.getD i gz).n1=true:=by
 have hg:=aiQ (GU h).2.2.2.2.2.2.2 hi
 have hb:oT t (t.aL.getD i gz)=false:=by
  unfold cP at h
  simp only[Bool.and_eq_true,Bool.not_eq_true']at h
  have:=List.any_eq_false.1 h.2.2.2 (t.aL.getD i gz) (by rw[List.getD_eq_getElem?_getD,List.getElem?_eq_getElem hi];exact List.getElem_mem hi)
  simpa using this
 have h1:=hg.2
 unfold jl at h1
 unfold oT at hb
 unfold aF at*
 simp only[Bool.and_eq_true,Bool.or_eq_false_iff,decide_eq_true_eq,decide_eq_false_iff_not]at*
 omega
theorem SL{q:aY}(h:iy q=true):1<=q.n2/\q.n2<=13:=by
 unfold iy aF at h
 simp only[Bool.and_eq_true,decide_eq_true_eq]at h
 exact h.2.2.1
theorem afN{q:aY}(h:iy q=true):1<=q.n0/\q.n0<=6:=by
 unfold iy aF at h
 simp only[Bool.and_eq_true,decide_eq_true_eq]at h
 exact h.1
def isKey(op:Int):Bool:=decide (4<=op)&&decide (op<=12)
theorem PZ(op:Int)(w:World):Ok Pr aa3 [.int .i64 op] w λv w'=>v=.tuple ⟨[.bool (fO op),.bool (isKey op),.bool (kT op),.bool (decide (op=13)),.bool (decide (op=12))]⟩/\w'=w:=by
 refine aC Tryz.func142 (N:=[7,8,9]) ?_
 refine nD (nD (nD ⟨?_,rfl⟩))
 have e1:((decide (op=1)||decide (op=2))||decide (op=3))=fO op:=by unfold fO;rw[Bool.or_assoc]
 have e2:(((decide (5<=op)&&decide (op<=8))||decide (op=10))||decide (op=11))=kT op:=by
  unfold kT
  rw[Bool.eq_iff_iff]
  simp only[Bool.or_eq_true,Bool.and_eq_true,decide_eq_true_eq]
  omega
 rw[e1,e2];rfl
theorem ops{q:aY}(hq:iy q=true):(fO q.n2=true->isKey q.n2=false/\kT q.n2=false/\q.n2≠13/\q.n2≠12)/\(fO q.n2=false->q.n2≠13->isKey q.n2=true)/\(q.n2=13->isKey q.n2=false/\fO q.n2=false/\kT q.n2=false)/\(kT q.n2=true->q.n2≠13/\q.n2≠12)/\(isKey q.n2=true->fO q.n2=false/\q.n2≠13):=by
 have:=SL hq
 unfold fO isKey kT
 refine⟨λh=>?_,λh h2=>?_,λh=>?_,λh=>?_,λh=>?_⟩<;>simp only[Bool.or_eq_true,Bool.or_eq_false_iff,Bool.and_eq_true,Bool.and_eq_false_iff,decide_eq_true_eq,decide_eq_false_iff_not]at*<;>omega
theorem DK{q:aY}{t:aH}(h:q.n2≠13):e8 q t=q.n4:=by unfold e8;rw[if_neg h]
theorem aaC(s:bW)(t:aH)(q:aY)(hs:t.small)(hm:cP t=true)(hq:iy q=true)(w:World)(hx:dF w s t):Ok Pr aaQ [.agg ⟨t.cs s⟩,.agg ⟨q.cells⟩] w λv w'=>v=.bool (eH q t)/\Mod [] w w':=by
 refine aC Tryz.func88 (J:=[(4,[]),(8,[]),(6,[(11,.bool)])]) ?_
 rw[oA]
 have nS:=hs.key
 have mB:=hx.ax.len
 have od:=hx.key.len
 have Bk:=hx.gr.len
 obtain⟨o1,o2,o3,o4,o5⟩:=ops hq
 refine(ah.start w).nw λp w1 H _=>H.nw λp1 w2 H _=>?_
 have H:ah w [] w2 [.aj p (t.cs s) aQ,.aj p1 q.cells iu]:=H
 refine H.au 1 rfl (ai p1 2) rfl (an (PZ q.n2 w2) ?_)
 rintro _ w3 ⟨rfl,rfl⟩
 refine⟨_,rfl,_,rfl,_,rfl,_,rfl,_,rfl,_,rfl,rfl,gi λgo2 oN=>?_⟩
 have tail:∀w4,ah w [] w4 [.aj p (t.cs s) aQ,.aj p1 q.cells iu]->(eH q t=if kT q.n2=true then (di (mJ q t) q.n5).isSome else ((!decide (q.n2=13))||aF 1 (t.aL.length:Int) q.n7)&&((!decide (q.n2=12))||aF 1 (t.ax.length:Int) q.n8))->(kT q.n2=true->aF 1 (t.keys.length:Int) q.n4=true)->go2 w4:=by
  intro w4 H hE hV
  refine oN w4 (gi λgo aV=>?_)
  have fin:∀w5,ah w [] w5 [.aj p (t.cs s) aQ,.aj p1 q.cells iu]->eH q t=(((!decide (q.n2=13))||aF 1 (t.aL.length:Int) q.n7)&&((!decide (q.n2=12))||aF 1 (t.ax.length:Int) q.n8))->go w5:=by
   intro w5 K e
   refine aV w5 (K.au 1 rfl (ai p1 7) rfl (K.au 1 rfl (ai p1 7) rfl (K.az 0 rfl (ai p 5) rfl (K.au 1 rfl (ai p1 8) rfl (K.au 1 rfl (ai p1 8) rfl (K.az 0 rfl (ai p 3) rfl ⟨?_,K.mod⟩))))))
   rw[e,mB,Bk];rfl
  cases hv:kT q.n2 with
  |false=>
   rw[hv,if_neg (by decide)]at hE
   exact ite_false rfl (fin w4 H hE)
  |true=>
   rw[hv,if_pos rfl]at hE
   have hk:=hV hv
   obtain⟨pN,Dh⟩:=o4 hv
   refine ite_true rfl (fo λgB fu=>?_)
   have F1:∀w6,ah w [] w6 [.aj p (t.cs s) aQ,.aj p1 q.cells iu]->gB (di (mJ q t) q.n5).isSome w6:=by
    intro w6 K
    refine fu _ _ ?_
    rw[<- hE]
    cases e:eH q t with
    |false=>exact ite_true rfl ⟨rfl,K.mod⟩
    |true=>
     refine ite_false rfl (fin w6 K ?_)
     rw[e,decide_eq_false pN,decide_eq_false Dh];rfl
   obtain⟨i,ei,en,hi⟩:=mD hk
   have hJ:mJ q t=t.keys.getD i kz:=by unfold mJ;rw[DK pN,en]
   have q8:=sM hs hi
   have K:=H.drew
   obtain⟨bF,x,Jt,hc⟩:=(hx.key.av K.mod).at hi
   rw[hJ]at F1
   refine K.az 0 rfl (ai p 4) rfl (K.au 1 rfl (ai p1 4) rfl ⟨by unfold cv;omega,?_⟩)
   show ij s.key.a (q.n4 - 1) s.key.n _
   rw[ei]
   refine⟨bF,mC hc (K.au 1 rfl (ai p1 5) rfl ⟨?_,?_⟩)⟩
   ·refine an (Bv _ x q.n5 (by omega) _ Jt) ?_
    rintro _ w7 ⟨y,rfl,hy⟩
    have K2:=K.frame hy.mod
    refine⟨_,rfl,om ⟨_,rfl,rfl,K2.gL λp2 w8 K3 m8=>⟨K2.kept m8 1 rfl (ai p1 5) 1,vM m8 (hy.mod.qa (hc 0 _ rfl)),K2.kept m8 1 rfl (ai p1 4) 1,K2.kept m8 0 rfl (ai p 4) 1,K3.gU 2 rfl rfl λw9 K4=>F1 w9 (K4.take 2)⟩⟩⟩
   ·refine K.gL λp2 w8 K3 m8=>⟨K.kept m8 1 rfl (ai p1 5) 1,vM m8 (hc 0 _ rfl),K.kept m8 1 rfl (ai p1 4) 1,K.kept m8 0 rfl (ai p 4) 1,?_⟩
    refine an (Bv _ x q.n5 (by omega) _ (Jt.av m8)) ?_
    rintro _ w7 ⟨y,rfl,hy⟩
    have K4:=K3.frame hy.mod
    exact⟨_,rfl,om ⟨_,rfl,rfl,K4.gU 2 rfl rfl λw9 K5=>F1 w9 (K5.take 2)⟩⟩
 refine H.az 0 rfl (ai p 2) rfl (H.au 1 rfl (ai p1 3) rfl ?_)
 have hN:(decide (q.n4<1)||decide ((s.key.n:Int)<q.n4))=!aF 1 (t.keys.length:Int) q.n4:=by
  unfold aF
  rw[Bool.eq_iff_iff]
  simp only[Bool.or_eq_true,Bool.not_eq_true',Bool.and_eq_false_iff,decide_eq_true_eq,decide_eq_false_iff_not]
  omega
 cases jv:fO q.n2 with
 |true=>
  obtain⟨k1,k2,k3,k4⟩:=o1 jv
  have eF:eH q t=aF 1 (t.bn.length:Int) q.n3:=by unfold eH;rw[if_pos jv]
  refine ite_true rfl (an (Dp s.ten t.bn q.n3 _ (hx.ten.av H.mod)) ?_)
  rintro _ eg ⟨rfl,rfl⟩
  refine aN (H.au 1 rfl (ai p1 4) rfl (H.au 1 rfl (ai p1 4) rfl (H.az 0 rfl (ai p 4) rfl ?_)))
  rw[k1]
  cases e:aF 1 (t.bn.length:Int) q.n3 with
  |false=>exact ite_true rfl ⟨by rw[eF,e],H.mod⟩
  |true=>
   refine ite_false rfl (tail _ H ?_ (λh=>by rw[k2]at h;cases h))
   rw[eF,e,k2,if_neg (by decide),decide_eq_false k3,decide_eq_false k4];rfl
 |false=>
  have eF:eH q t=((decide (q.n2≠13)||aF 1 (t.aL.length:Int) q.n7)&&(aF 1 (t.keys.length:Int) (e8 q t)&&(if kT q.n2=true then (di (mJ q t) q.n5).isSome else decide (q.n2≠12)||aF 1 (t.ax.length:Int) q.n8))):=by
   unfold eH;rw[if_neg (by rw[jv];decide)]
  refine ite_false rfl (H.au 1 rfl (ai p1 4) rfl (H.au 1 rfl (ai p1 4) rfl (H.az 0 rfl (ai p 4) rfl ?_)))
  show dc (isKey q.n2&&(decide (q.n4<1)||decide ((s.key.n:Int)<q.n4))) _ _
  rw[hN]
  by_cases fR:q.n2=13
  ·obtain⟨k1,_,k2⟩:=o3 fR
   rw[k1]
   refine ite_false rfl (tail _ H ?_ (λh=>by rw[k2]at h;cases h))
   rw[eF,k2,if_neg (by decide),if_neg (by decide),decide_eq_false (show ¬q.n2≠13 from λh=>h fR),decide_eq_true (show q.n2≠12 by omega),decide_eq_true fR,decide_eq_false (show ¬q.n2=12 by omega)]
   simp only[Bool.false_or,Bool.true_or,Bool.and_true,Bool.not_true,Bool.not_false]
   cases e:aF 1 (t.aL.length:Int) q.n7 with
   |false=>rfl
   |true=>
    obtain⟨i,_,en,hi⟩:=mD e
    have:e8 q t=(t.aL.getD i gz).n1:=by unfold e8;rw[if_pos fR,en]
    rw[this,agG hm hi];rfl
  ·rw[o2 jv fR]
   rw[DK fR,decide_eq_true (show q.n2≠13 from fR),Bool.true_or,Bool.true_and]at eF
   cases e:aF 1 (t.keys.length:Int) q.n4 with
   |false=>exact ite_true rfl ⟨by rw[eF,e];rfl,H.mod⟩
   |true=>
    refine ite_false rfl (tail _ H ?_ (λ_=>e))
    rw[eF,e,Bool.true_and,decide_eq_false fR]
    cases kT q.n2 with
    |true=>rfl
    |false=>
     by_cases iC:q.n2=12
     ·rw[decide_eq_true iC,decide_eq_false (show ¬q.n2≠12 from λh=>h iC)];rfl
     ·rw[decide_eq_false iC,decide_eq_true (show q.n2≠12 from iC)];rfl
theorem aaD(s:bW)(t:aH)(q:aY)(hs:t.small)(hm:cP t=true)(hq:iy q=true)(hf:eH q t=true)(w:World)(hx:dF w s t):Ok Pr aaS [.agg ⟨t.cs s⟩,.agg ⟨q.cells⟩] w λv w'=>v=.int .i64 (kO q t)/\Mod [] w w':=by
 refine aC Tryz.func90 ?_
 have nS:=hs.key
 have sB:=hs.gr
 obtain⟨o1,o2,o3,o4,o5⟩:=ops hq
 refine(ah.start w).nw λp w1 H _=>H.nw λp1 w2 H _=>?_
 have H:ah w [] w2 [.aj p (t.cs s) aQ,.aj p1 q.cells iu]:=H
 refine H.au 1 rfl (ai p1 2) rfl (an (PZ q.n2 w2) ?_)
 rintro _ w3 ⟨rfl,rfl⟩
 refine⟨_,rfl,_,rfl,_,rfl,_,rfl,_,rfl,_,rfl,rfl,?_⟩
 cases jv:fO q.n2 with
 |true=>
  have eo:kO q t=q.n3:=by unfold kO;rw[if_pos jv]
  exact ite_true rfl (H.au 1 rfl (ai p1 3) rfl ⟨by rw[eo],H.mod⟩)
 |false=>
  have eo:kO q t=(mJ q t).ten:=by unfold kO;rw[if_neg (by rw[jv];decide)]
  have eF:eH q t=((decide (q.n2≠13)||aF 1 (t.aL.length:Int) q.n7)&&(aF 1 (t.keys.length:Int) (e8 q t)&&(if kT q.n2=true then (di (mJ q t) q.n5).isSome else decide (q.n2≠12)||aF 1 (t.ax.length:Int) q.n8))):=by
   unfold eH;rw[if_neg (by rw[jv];decide)]
  rw[hf]at eF
  have eF:=eF.symm
  rw[Bool.and_eq_true,Bool.and_eq_true]at eF
  obtain⟨f1,f2,_⟩:=eF
  obtain⟨i,ei,en,hi⟩:=mD f2
  have hJ:mJ q t=t.keys.getD i kz:=by unfold mJ;rw[en]
  refine ite_false rfl ?_
  by_cases fR:q.n2=13
  ·obtain⟨k1,_,_⟩:=o3 fR
   rw[k1]
   rw[decide_eq_false (show ¬q.n2≠13 from λh=>h fR),Bool.false_or]at f1
   obtain⟨j,ej,wZ,hj⟩:=mD f1
   have eK:e8 q t=(t.aL.getD j gz).n1:=by unfold e8;rw[if_pos fR,wZ]
   rw[eK]at ei
   have K:=H.drew
   have hg:=hx.gr.av K.mod
   have Db:=hg.len
   obtain⟨bF,x,Jt,hc⟩:=(hx.key.av K.mod).at hi
   refine ite_false rfl (K.az 0 rfl (ai p 4) rfl (K.az 0 rfl (ai p 5) rfl (K.au 1 rfl (ai p1 7) rfl ⟨by unfold cv;omega,?_⟩)))
   show ij s.gr.a (q.n7 - 1) s.gr.n _
   rw[ej]
   refine⟨⟨hg.pre (by omega),by omega,by omega⟩,_,by rw[Int.toNat_natCast];exact fN.cell (j:=1) hg hj rfl,by unfold cv;omega,?_⟩
   show ij s.key.a ((t.aL.getD j gz).n1 - 1) s.key.n _
   rw[ei]
   exact⟨bF,_,hc 1 _ rfl,by rw[eo,hJ],K.mod⟩
  ·rw[o2 jv fR]
   have eK:e8 q t=q.n4:=DK fR
   rw[eK]at ei
   obtain⟨bF,x,Jt,hc⟩:=(hx.key.av H.mod).at hi
   refine ite_true rfl (H.az 0 rfl (ai p 4) rfl (H.au 1 rfl (ai p1 4) rfl ⟨by unfold cv;omega,?_⟩))
   show ij s.key.a (q.n4 - 1) s.key.n _
   rw[ei]
   exact⟨bF,_,hc 1 _ rfl,by rw[eo,hJ],H.mod⟩
theorem ahK{q:aY}{t:aH}(hm:cP t=true)(hw:aF 1 (t.ax.length:Int) q.n0=true)(h:iP (bI q t).high (bI q t).used q.n1≠0):iP (bI q t).high (bI q t).used q.n1=8:=by
 obtain⟨i,_,en,hi⟩:=mD hw
 have hp:=afM hm hi
 have e:bI q t=t.ax.getD i dK:=by unfold bI;rw[en]
 unfold nN at hp
 simp only[Bool.and_eq_true]at hp
 rw[<- e]at hp
 unfold iP at h⊢
 rw[if_pos hp.2.2.2]at h⊢
 split at h
 ·exact absurd rfl h
 ·rename_i h2;rw[if_neg h2]
theorem QT(s:bW)(t:aH)(q:aY)(lt:List B8)(hs:t.small)(w:World)(hx:dF w s t)(ht:Bytes w q.tok lt):
  Ok Pr ac5 [.agg ⟨t.cs s⟩,.agg ⟨q.cells⟩] w λv w'=>v=.int .i64 (qi q lt t)/\Mod [] w w':=by
 refine aC Tryz.func43 (J:=[(5,[]),(2,[(11,.bool)])]) ?_
 rw[HJ,ID]
 have mB:=hx.ax.len
 have sy:=hs.ten
 have sA:=hs.ax
 have sB:=hs.gr
 have hC:qi q lt t=if (cP t&&iy q)=true then (if aF 1 (t.ax.length:Int) q.n0=true then (if iP (bI q t).high (bI q t).used q.n1=0 then (if eH q t=true then uI q lt t (kO q t) else 9) else 8) else 6) else 2:=rfl
 have hD:uI q lt t (kO q t)=if ux t.bn (bI q t).ten (kO q t)=true then 0 else if fj q.n2=true then (if qw t.aL t.bN lt=0 then qG (zo t.aL t.bN lt) q.n4 q.n0 q.n2 t.clock else qw t.aL t.bN lt) else 10:=rfl
 generalize qi q lt t=C at*
 refine(ah.start w).nw λp w1 H _=>H.nw λp1 w2 H _=>?_
 have H:ah w [] w2 [.aj p (t.cs s) aQ,.aj p1 q.cells iu]:=H
 refine gi λgo aV=>?_
 have F1:∀w3,ah w [] w3 [.aj p (t.cs s) aQ,.aj p1 q.cells iu]->cP t=true->iy q=true->aF 1 (t.ax.length:Int) q.n0=true->go w3:=by
  intro w3 H hm hq hw
  rw[hm,hq,if_pos (show(true&&true)=true from rfl),if_pos hw]at hC
  have tc:=(GU hm).2.2.1
  obtain⟨i,ei,en,hi⟩:=mD hw
  have Nq:bI q t=t.ax.getD i dK:=by unfold bI;rw[en]
  have h82:=ahK hm hw
  obtain⟨bF,x,_,hc⟩:=(hx.ax.av H.mod).at hi
  rw[<- Nq]at hc
  refine aV w3 (H.az 0 rfl (ai p 3) rfl (H.au 1 rfl (ai p1 0) rfl ⟨by unfold cv;omega,?_⟩))
  show ij s.ax.a (q.n0 - 1) s.ax.n _
  rw[ei]
  refine⟨bF,F6 hc (H.nw λp2 w4 H _=>H.xq 2 rfl rfl λw5 H=>H.au 2 rfl (ai p2 3) rfl (H.au 2 rfl (ai p2 4) rfl (H.au 1 rfl (ai p1 1) rfl (an (QM (bI q t).high (bI q t).used q.n1 _) ?_))))⟩
  rintro _ w6 ⟨rfl,m6⟩
  have H:ah w [] w6 [.aj p (t.cs s) aQ,.aj p1 q.cells iu,.aj p2 (jP (bI q t).id (bI q t).ten x (bI q t).high ((bI q t).used.toNat:Int)) dM]:=H.frame m6
  refine⟨_,rfl,_,rfl,_,rfl,_,rfl,rfl,?_⟩
  by_cases hu:iP (bI q t).high (bI q t).used q.n1=0
  case neg=>
   rw[if_neg hu]at hC
   exact ite_true (by rw[decide_eq_false hu];rfl) ⟨by rw[h82 hu,hC],H.mod⟩
  rw[if_pos hu]at hC
  refine ite_false (by rw[decide_eq_true hu];rfl) (H.bC 0 rfl (H.kM 1 rfl (an (aaC s t q hs hm hq _ (hx.av H.mod)) ?_)))
  rintro _ w7 ⟨rfl,m7⟩
  have H:=H.frame m7
  refine aN ?_
  cases hf:eH q t with
  |false=>
   rw[hf,if_neg (by decide)]at hC
   exact ite_true rfl ⟨by rw[hC],H.mod⟩
  |true=>
  rw[hf,if_pos rfl]at hC
  have K:=H.drew
  refine ite_false rfl (K.az 0 rfl (ai p 2) rfl (K.au 2 rfl (ai p2 1) rfl (K.bC 0 rfl (K.kM 1 rfl (an (aaD s t q hs hm hq hf _ (hx.av K.mod)) ?_)))))
  rintro _ w8 ⟨rfl,m8⟩
  have K2:=K.frame m8
  refine⟨_,rfl,K.kept m8 2 rfl (ai p2 1) 1,K.kept m8 0 rfl (ai p 2) 1,an (aaA s.ten t.bn sy _ _ _ (hx.ten.av K2.mod)) ?_⟩
  rintro _ w9 ⟨rfl,m9⟩
  have H:=K2.frame m9
  refine aN ?_
  rw[hD]at hC
  cases ha:ux t.bn (bI q t).ten (kO q t)with
  |true=>
   rw[ha,if_pos rfl]at hC
   exact ite_true rfl ⟨by rw[hC],H.mod⟩
  |false=>
  rw[ha,if_neg (by decide)]at hC
  refine ite_false rfl (H.au 1 rfl (ai p1 2) rfl (H.au 1 rfl (ai p1 2) rfl (H.au 1 rfl (ai p1 2) rfl ?_)))
  have eu:(((!decide (q.n2=9))&&(!decide (q.n2=10)))&&(!decide (q.n2=11)))=!fj q.n2:=by
   unfold fj
   rw[Bool.not_or,Bool.not_or,Bool.and_assoc]
  show dc (((!decide (q.n2=9))&&(!decide (q.n2=10)))&&(!decide (q.n2=11))) _ _
  rw[eu]
  cases yT:fj q.n2 with
  |false=>
   rw[yT,if_neg (by decide)]at hC
   exact ite_true rfl ⟨by rw[hC],H.mod⟩
  |true=>
  rw[yT,if_pos rfl]at hC
  refine ite_false rfl (H.az 0 rfl (ai p 5) rfl (H.az 0 rfl (ai p 1) rfl (H.az 1 rfl (ai p1 13) rfl (an (aax t.aL s.gr s.sec q.tok t.bN lt hs.gf (by omega) (by omega) _ (hx.gr.av H.mod) (Bytes.av hx.sec H.mod) (ht.av H.mod)) ?_))))
  rintro _ bP ⟨g,c,rfl,hT,o9⟩
  obtain⟨rfl,rfl⟩:=MI hT
  have H:=H.frame o9
  refine⟨_,rfl,JM ⟨_,rfl,rfl,H.nw λp3 bQ H _=>H.pP 3 rfl rfl λcH H=>?_⟩⟩
  by_cases h0:qw t.aL t.bN lt=0
  case neg=>
   rw[if_neg h0]at hC
   exact ite_true (by rw[decide_eq_false h0];rfl) ⟨by rw[hC],H.mod⟩
  rw[if_pos h0]at hC
  refine ite_false (by rw[decide_eq_true h0];rfl) (H.lU 3 rfl (H.au 1 rfl (ai p1 4) rfl (H.au 1 rfl (ai p1 0) rfl (H.au 1 rfl (ai p1 2) rfl (H.au 0 rfl (ai p 0) rfl (an (ZQ _ _ _ _ _ _) ?_))))))
  rintro _ eg ⟨rfl,gA⟩
  exact⟨_,rfl,by rw[hC],H.mod.trans gA⟩
 refine fo λgB fu=>?_
 have Xu:∀w4,ah w [] w4 [.aj p (t.cs s) aQ,.aj p1 q.cells iu]->(cP t&&iy q)=false->gB true w4:=by
  intro w4 K e
  rw[e,if_neg (by decide)]at hC
  exact fu _ _ (ite_true rfl ⟨by rw[hC],K.mod⟩)
 refine H.bC 0 rfl (an (Gq s t hs _ (hx.av H.mod)) ?_)
 rintro _ ir ⟨rfl,kI⟩
 have H:=H.frame kI
 refine aN (H.kM 1 rfl ?_)
 cases hm:cP t with
 |false=>exact ite_true rfl (Xu _ H (by rw[hm];rfl))
 |true=>
  refine ite_false rfl (an (acK q _) ?_)
  rintro _ gH ⟨rfl,xh⟩
  have H:=H.frame xh
  refine aN ?_
  cases hq:iy q with
  |false=>exact Xu _ H (by rw[hm,hq];rfl)
  |true=>
   have hwh:=afN hq
   refine fu _ _ (ite_false rfl (H.au 1 rfl (ai p1 0) rfl (H.az 0 rfl (ai p 3) rfl ?_)))
   show dc (decide ((s.ax.n:Int)<q.n0)) _ _
   by_cases hw:(s.ax.n:Int)<q.n0
   ·have e:aF 1 (t.ax.length:Int) q.n0=false:=by unfold aF;rw[decide_eq_false (show ¬q.n0<=(t.ax.length:Int) by omega),Bool.and_false]
    rw[hm,hq,if_pos (show(true&&true)=true from rfl),e,if_neg (by decide)]at hC
    exact ite_true (decide_eq_true hw) ⟨by rw[hC],H.mod⟩
   ·refine ite_false (decide_eq_false hw) (F1 _ H hm hq ?_)
    unfold aF
    rw[decide_eq_true (show 1<=q.n0 by omega),decide_eq_true (show q.n0<=(t.ax.length:Int) by omega)];rfl
theorem Mk{vs:List aR}:∀(n:Nat),(∀i,i<n->gy (vs.getD i vz) ((i:Int)+1)=true)->nh vs n=true
 |0,_=>rfl
 |n+1,h=>by
  show(nh vs n&&gy (vs.getD n vz) ((n:Int)+1))=true
  rw[Mk n λi hi=>h i (by omega),h n (by omega)];rfl
theorem ahL(n:Int)(ak:List B8)(h:ak.length=64):gy ⟨n,1,0,ak⟩ n=true:=by
 unfold gy
 rw[decide_eq_true (show(aR.mk n 1 0 ak).n=n from rfl),if_neg (show ¬(1:Int)=3 by decide),if_neg (show ¬(1:Int)=4 by decide),if_pos (.inl rfl)]
 simp[h]
theorem Vm{k:aI}{n:Int}{v:aR}{us:Int->Bool}(h:di k n=some v)(hu:us v.st=true)(h4:v.st≠4):fF k n us=0:=by
 obtain⟨h1,_,_,_,h5⟩:=BK h
 unfold fF
 rw[if_pos h1,h]
 show(if us v.st=true then g9 k.set v.ak.length else 11)=0
 rw[if_pos hu]
 have dX:v.ak.length=64:=by
  unfold gy at h5
  rw[Bool.and_eq_true]at h5
  have h5:=h5.2
  rw[if_neg h4]at h5
  split at h5
  ·rw[Bool.and_eq_true,decide_eq_true_eq]at h5;exact h5.2
  ·split at h5
   ·rw[Bool.and_eq_true,decide_eq_true_eq,decide_eq_true_eq]at h5;exact h5.2
   ·cases h5
 have nI:isSet k.set=true:=by
  obtain⟨_,_,h,_⟩:=rE h1
  unfold isSet
  simp only[Bool.or_eq_true,decide_eq_true_eq]
  omega
 unfold g9
 rw[if_pos nI,if_pos dX]
theorem ajG{id ten set:Int}{ak:List B8}(h:jd id ten set ak=0):fF (kY id ten set ak) 1 gj=0:=by
 have hm:bK (mO id ten set ak)=true:=by
  unfold jd at h
  split at h
  ·assumption
  ·omega
 have e:kY id ten set ak=mO id ten set ak:=by unfold kY;rw[if_pos h]
 rw[e]
 have hf:di (mO id ten set ak) 1=some ⟨1,1,0,ak⟩:=by
  unfold di
  rw[hm];rfl
 exact Vm hf rfl (show ¬(1:Int)=4 by decide)
theorem Lq{k:aI}{ak:List B8}(h:kZ k ak.length=0):bK (fK k ak)=true/\(fK k ak).ay=k.ay++[⟨(k.ay.length:Int)+1,1,0,ak⟩]:=by
 have e:fK k ak=⟨k.id,k.ten,k.set,k.ay++[⟨(k.ay.length:Int)+1,1,0,ak⟩]⟩:=by unfold fK;rw[if_pos h]
 rw[e]
 refine⟨?_,rfl⟩
 unfold kZ at h
 split at h
 ·rename_i hk
  split at h
  ·rename_i dX
   split at h
   ·omega
   ·rename_i h5
    obtain⟨a1,a2,a3,a4,a5⟩:=rE hk
    unfold bK
    have hl:(k.ay++[aR.mk ((k.ay.length:Int)+1) 1 0 ak]).length=k.ay.length+1:=by simp
    have cI:nh (k.ay++[aR.mk ((k.ay.length:Int)+1) 1 0 ak]) (k.ay++[aR.mk ((k.ay.length:Int)+1) 1 0 ak]).length=true:=?_
    rw[cI]
    ·unfold bK at hk
     unfold aF at*
     rw[hl]
     simp only[Bool.and_eq_true,decide_eq_true_eq,and_true]at*
     omega
    ·refine Mk _ λi hi=>?_
     rw[hl]at hi
     rw[List.getD_eq_getElem?_getD]
     rcases Nat.lt_or_ge i k.ay.length with h|h
     ·rw[List.getElem?_append_left h,<- List.getD_eq_getElem?_getD];exact a5 i h
     ·have:i=k.ay.length:=by omega
      subst this
      rw[List.getElem?_append_right (Nat.le_refl _),Nat.sub_self]
      exact ahL _ _ dX
  ·omega
 ·omega
theorem ajH{k:aI}{ak:List B8}(h:kZ k ak.length=0):fF (fK k ak) ((fK k ak).ay.length:Int) gj=0:=by
 obtain⟨h1,h2⟩:=Lq h
 have hf:di (fK k ak) ((fK k ak).ay.length:Int)=some ⟨(k.ay.length:Int)+1,1,0,ak⟩:=by
  unfold di
  rw[h1,if_pos (by unfold aF;rw[h2];simp;omega),h2]
  congr 1
  rw[List.getD_eq_getElem?_getD,List.getElem?_append_right (by simp)]
  simp
 exact Vm hf rfl (show ¬(1:Int)=4 by decide)
def tU(l m:List B8)(n:Nat):List B8:=(List.range n).map λj=>l.getD j 0^^^m.getD j 0
theorem aiR(l m:List B8)(n:Nat):(tU l m n).length=n:=by simp[tU]
theorem ahM(l m:List B8)(n:Nat):tU l m (n+1)=tU l m n++[l.getD n 0^^^m.getD n 0]:=by simp[tU,List.range_succ]
theorem aaE(x y:ag)(l m:List B8)(hl:l.length<=1000000)(w:World)(hx:Bytes w x l)(hy:Bytes w y m):Ok Pr aa1 [.slice x.a x.n x.c,.slice y.a y.n y.c] w λv w'=>iN w w' v (tU l m (min l.length m.length)):=by
 refine aC Tryz.func136 (L:=[(3,[(5,.sl),(6,.int .i64)])]) ?_
 have aT:=hx.len
 have gb:=hy.len
 refine eZ 0 (min l.length m.length) (λi (o:ag) w'=>ah w [] w' [.row aE 1 o (aG (tU l m i))]) rfl (by omega) ((ah.start w).dy aE 1) ?_ ?_
 ·intro again i o w1 _ hi K aB
  have K:=K.drew
  have h1:=hx.av K.mod
  have h2:=hy.av K.mod
  have FA:=(Own.bytes (K.l8 0 rfl):Bytes _ o (tU l m i)).len
  rw[aiR]at FA
  refine ite_true (by rw[decide_eq_true (show(i:Int)<(x.n:Int) by omega),decide_eq_true (show(i:Int)<(y.n:Int) by omega)];rfl) (h1.ld (by omega) (h2.ld (by omega) ?_))
  refine K.um 0 (l.getD i 0^^^m.getD i 0) cg rfl (MT _ _) (by omega) λo' w3 K _=>⟨by unfold cv;omega,aB o' w3 ?_⟩
  rw[ahM]
  exact K
 ·intro again o w1 K
  refine ite_false ?_ ⟨o,rfl,K.cm 0 rfl,K.mod⟩
  rcases Nat.le_total l.length m.length with h|h
  ·rw[Nat.min_eq_left h,decide_eq_false (show ¬((l.length:Nat):Int)<(x.n:Int) by omega)];rfl
  ·rw[Nat.min_eq_right h,decide_eq_false (show ¬((m.length:Nat):Int)<(y.n:Int) by omega),Bool.and_false]
theorem _root_.Go.Ev.ah.ajI{w:World}{S:List Nat}{L:List aA}(H:ah w0 S w L)(j k:Nat){Q:World->Prop}{e:TypeId}{sz:Nat}{y:ag}{vs:List Value}(hj:L[j]? = some (.box fp Q))(hk:L[k]? = some (.row e sz y vs))(je:j≠k){Q':World->Prop}
  (h:∀w2,Q w2->Own w2 0 e sz y vs->Q' w2):ah w0 S w ((L.set k .no).set j (.box (fp++y.row) Q')):=
 H.merge j k (t:=.box (fp++y.row) Q') hj hk je (λh1 h2=>⟨λb hb=>(List.mem_append.1 hb).elim (λh=>h1.1 b h) (λh=>(Own.yb h2 b h).2),
  λw2 h3=>h w2 (h1.2 w2 λb hb=>h3 b (List.mem_append_left _ hb)) ((aA.row e sz y vs).gV w w2 (λb hb=>h3 b (List.mem_append_right _ hb)) h2)⟩) (λb hb=>List.mem_append.1 hb)
theorem _root_.Go.Ev.ah.Is{w:World}{S:List Nat}{L:List aA}(H:ah w0 S w L)(j k:Nat){fq:List Nat}{Q R:World->Prop}(hj:L[j]? = some (.box fp Q))(hk:L[k]? = some (.box fq R))(je:j≠k){Q':World->Prop}
  (h:∀w2,Q w2->R w2->Q' w2):ah w0 S w ((L.set k .no).set j (.box (fp++fq) Q')):=
 H.merge j k (t:=.box (fp++fq) Q') hj hk je (λh1 h2=>⟨λb hb=>(List.mem_append.1 hb).elim (λh=>h1.1 b h) (λh=>h2.1 b h),
  λw2 h3=>h w2 (h1.2 w2 λb hb=>h3 b (List.mem_append_left _ hb)) (h2.2 w2 λb hb=>h3 b (List.mem_append_right _ hb))⟩) (λb hb=>List.mem_append.1 hb)
theorem BE{w w':World}{b:Nat}{cs:List Value}{t:TypeId}(h:bp w b cs t)(h':bp w' b cs t)(i n:Nat):kept (Addr.add ⟨b,0,none⟩ i) n w w':=λj _=>by rw[ai,sP,h.cell,h'.cell]
def Made(w0:World)(S:List Nat)(w':World)(v:Value)(T:aH)(R:mg)(C:Int):Prop:=
 ∃(T':aH) (s:bW) (rc ri:Int) (y z:ag),v=.tuple ⟨[.agg ⟨T'.cs s⟩,.agg ⟨bR rc ri y z⟩,.int .i64 C]⟩/\ah w0 S w' []/\
  (C=0->T'=T/\rc=0/\ri=R.id/\∃ys zs fp fq,ah w0 S w' (cJ s T ys zs fp fq++[.cut y R.cM,.cut z R.ex]))
theorem sH{w3:World}{S:List Nat}{L:List aA}{T T':aH}{s':bW}{R:mg}{C:Int}{p2 p3:Nat}{ri:Int}{y z:ag}{c2 c3:List Value}(H:ah w0 S w3 L)(k2 k3:Nat)(h2:L[k2]? = some (.aj p2 c2 aQ))(h3:(L.set k2 (.aj p2 (T'.cs s') aQ))[k3]? = some (.aj p3 c3 ct))(l2:c2.length=6)(l3:c3.length=4)(h23:k2≠k3)
  (hC:∀w',ah w0 S w' ((L.set k2 (.aj p2 (T'.cs s') aQ)).set k3 (.aj p3 (bR 0 ri y z) ct))->C=0->T'=T/\ri=R.id/\∃ys zs fp fq,ah w0 S w' (cJ s' T ys zs fp fq++[.cut y R.cM,.cut z R.ex])) :
  cF ⟨p2,0,none⟩ T'.clock s'.sec s'.ten s'.ax s'.key s'.gr w3 λbP=>dm ⟨p3,0,none⟩ 0 ri y z bP λbQ=>bC ⟨p2,0,none⟩ bQ λg0 g1 g2 g3 g4 g5=>dO ⟨p3,0,none⟩ bQ λr0 r1 r2 r3=>
   Made w0 S bQ (.tuple ⟨[.agg ⟨[.int .i64 g0,.slice g1.a g1.n g1.c,.slice g2.a g2.n g2.c,.slice g3.a g3.n g3.c,.slice g4.a g4.n g4.c,.slice g5.a g5.n g5.c]⟩,.agg ⟨[.int .i64 r0,.int .i64 r1,.slice r2.a r2.n r2.c,.slice r3.a r3.n r3.c]⟩,.int .i64 C]⟩) T R C:=by
 have kF:=(List.getElem?_eq_some_iff.1 h2).1
 have hk3:=(List.getElem?_eq_some_iff.1 h3).1
 have e2:((L.set k2 (.aj p2 (T'.cs s') aQ)).set k3 (.aj p3 (bR 0 ri y z) ct))[k2]? = some (.aj p2 (lz T'.clock s'.sec s'.ten s'.ax s'.key s'.gr) aQ):=by
  rw[List.getElem?_set,if_neg (by omega),List.getElem?_set,if_pos rfl,if_pos kF];rfl
 have e3:((L.set k2 (.aj p2 (T'.cs s') aQ)).set k3 (.aj p3 (bR 0 ri y z) ct))[k3]? = some (.aj p3 (bR 0 ri y z) ct):=by
  rw[List.getElem?_set,if_pos rfl,if_pos hk3]
 refine H.cF k2 h2 l2 λbP H=>H.dm k3 h3 l3 λbQ H=>H.bC k2 e2 (H.dO k3 e3 ?_)
 refine⟨T',s',0,ri,y,z,rfl,H.take 0,λh0=>?_⟩
 obtain⟨a,b,c⟩:=hC bQ H h0
 exact⟨a,rfl,b,c⟩
end Go.Proofs.YtgjoehgomjgckaaGreatDoor
end
section
set_option linter.unusedVariables false
set_option linter.unusedSimpArgs false
namespace Go.Proofs.YtgjoehgomjgckaaGreatDoor
open Go Go.Ev
set_option maxRecDepth 20000
set_option maxHeartbeats 4000000
set_option linter.unusedVariables false
theorem aaF{w0 w:World}{S:List Nat}{q:aY}{t:aH}{s:bW}{sd:ag}{ys zs:List ag}{fp fq:List Nat}(H:ah w0 S w (cJ s t ys zs fp fq))(hs:t.small)(Xv:t.ax.length<=6)(Xw:t.keys.length<=6)(hq:fO q.n2=true)(lb ak:List B8)(hb:∀ {w'},Mod S w0 w'->Bytes w' q.cM lb)(uU:lb.length<=1000000)(bZ:ak.length<=1000000)(fZ:∀ {w'},Mod S w0 w'->Bytes w' sd ak):
  Ok Pr aaO [.agg ⟨t.cs s⟩,.agg ⟨q.cells⟩,.slice sd.a sd.n sd.c] w λv w'=>Made w0 S w' v (hO q lb ak t) (jx q lb ak t) (iS q lb ak t):=by
 refine aC Tryz.func83 (N:=[15]) ?_
 rw[oB,pZ,kN]
 have hC:iS q lb ak t=if q.n2=1 then k5 t.bn q.n3 q.name else if q.n2=2 then td lb t else if q.n2=3 then yJ q ak t else if fj q.n2=true then ru q lb ak t else if q.n2=12\/q.n2=13 then tf q t else rO q ak t:=rfl
 have hT:hO q lb ak t=if q.n2=1 then wH q t else if q.n2=2 then jG q lb t else if q.n2=3 then mT q ak t else if fj q.n2=true then t else if q.n2=12\/q.n2=13 then qV q t else qU q ak t:=rfl
 have hR:jx q lb ak t=if q.n2=1 then CN q t else if q.n2=2 then uQ t else if q.n2=3 then AA q ak t else if fj q.n2=true then qx q lb ak t else if q.n2=12\/q.n2=13 then th q t else rP q ak t:=rfl
 have OH:dF w s t:=nu (L:=[]) H
 have mB:=OH.ax.len
 have od:=OH.key.len
 have sy:=hs.ten
 have fc:=(hb H.mod).len
 have zh:=(fZ H.mod).len
 generalize iS q lb ak t=C at*
 generalize hO q lb ak t=T at*
 generalize jx q lb ak t=R at*
 refine H.nw λp w1 H _=>H.nw λp1 w2 H _=>H.nw λp2 w3 H _=>H.nw λp3 w4 H _=>?_
 have H:ah w0 S w4 (cJ s t ys zs fp fq++[.aj p (t.cs s) aQ,.aj p1 q.cells iu,.aj p2 (cQ.cs sZ) aQ,.aj p3 (bR 0 0 ⟨none,0,0⟩ ⟨none,0,0⟩) ct]):=H
 refine H.au 8 rfl (ai p1 2) rfl ?_
 by_cases e1:q.n2=1
 ·rw[if_pos e1]at hC hT hR
  refine ite_true (decide_eq_true e1) (H.az 7 rfl (ai p 2) rfl (H.au 8 rfl (ai p1 3) rfl (H.jX 8 rfl (ai p1 11) rfl (an (acY s.ten t.bn (by omega) q.n3 q.name _ (fk.of (H.cG 1 rfl))) ?_))))
  rintro _ w5 ⟨y,rfl,K⟩
  have H:=H.join K
  refine⟨_,rfl,y,rfl,_,rfl,_,rfl,rfl,H.st 7 rfl (ai p 2) (by show 2<6;omega) rfl λw6 H=>H.bC 7 rfl ?_⟩
  rw[<- hC]
  refine sH H (T':=wH q t) (s':=⟨s.sec,y,s.ax,s.key,s.gr⟩) 9 10 rfl rfl rfl rfl (by decide) λw' H h0=>?_
  rw[hT,hR]
  refine⟨rfl,rfl,ys,zs,fp,fq,?_⟩
  exact wG (H.bX (L':=cJ ⟨s.sec,y,s.ax,s.key,s.gr⟩ (wH q t) ys zs fp fq) [0,11,2,3,4,5,6] (by decide) rfl)
 rw[if_neg e1]at hC hT hR
 refine ite_false (decide_eq_false e1) ?_
 have no:∀ {w9:World} (c:Int),c≠0->C=c->ah w0 S w9 (cJ s t ys zs fp fq++[.aj p (t.cs s) aQ,.aj p1 q.cells iu,.aj p2 (cQ.cs sZ) aQ,.aj p3 (bR 0 0 ⟨none,0,0⟩ ⟨none,0,0⟩) ct])->
   bC ⟨p,0,none⟩ w9 λf0 f1 f2 f3 f4 f5=>cF ⟨p2,0,none⟩ f0 f1 f2 f3 f4 f5 w9 λbP=>dm ⟨p3,0,none⟩ 0 0 ⟨none,0,0⟩ ⟨none,0,0⟩ bP λbQ=>bC ⟨p2,0,none⟩ bQ λg0 g1 g2 g3 g4 g5=>dO ⟨p3,0,none⟩ bQ λr0 r1 r2 r3=>
   Made w0 S bQ (.tuple ⟨[.agg ⟨[.int .i64 g0,.slice g1.a g1.n g1.c,.slice g2.a g2.n g2.c,.slice g3.a g3.n g3.c,.slice g4.a g4.n g4.c,.slice g5.a g5.n g5.c]⟩,.agg ⟨[.int .i64 r0,.int .i64 r1,.slice r2.a r2.n r2.c,.slice r3.a r3.n r3.c]⟩,.int .i64 c]⟩) T R C:=by
  intro w9 c hc e H
  rw[e]
  refine H.bC 7 rfl (sH H (T':=t) (s':=s) 9 10 rfl rfl rfl rfl (by decide) λw' _ h0=>absurd h0 hc)
 by_cases e2:q.n2=2
 ·rw[if_pos e2]at hC hT hR
  have hP:td lb t=if lb.length=jf 1 then (if t.ax.length=6 then 12 else 0) else 3:=rfl
  refine ite_true (decide_eq_true e2) (an (PX 1 rfl w4) ?_)
  rintro _ w9 ⟨rfl,m9⟩
  have H:=H.frame m9
  refine⟨_,rfl,_,rfl,_,rfl,_,rfl,rfl,H.az 8 rfl (ai p1 12) rfl ?_⟩
  by_cases c1:lb.length=jf 1
  case neg=>
   rw[hP,if_neg c1]at hC
   exact ite_true (by rw[decide_eq_false (by omega)];rfl) (no 3 (by decide) hC H)
  rw[hP,if_pos c1]at hC
  refine ite_false (by rw[decide_eq_true (by omega)];rfl) (H.az 7 rfl (ai p 3) rfl ?_)
  by_cases c2:t.ax.length=6
  ·rw[if_pos c2]at hC
   exact ite_true (decide_eq_true (by show(6:Int)<=(s.ax.n:Int);omega)) (no 12 (by decide) hC H)
  rw[if_neg c2]at hC
  subst hC
  refine ite_false (decide_eq_false (by show ¬(6:Int)<=(s.ax.n:Int);omega)) (H.az 7 rfl (ai p 3) rfl ⟨by show cv ((s.ax.n:Int)+1);unfold cv;omega,?_⟩)
  show lt ((s.ax.n:Int)+1) _
  rw[<- mB]
  obtain⟨n,hn⟩:∃n:Int,n=(t.ax.length:Int)+1:=⟨_,rfl⟩
  rw[<- hn]
  have D:=(H.drew).dy aE 1
  refine nD (D.az 7 rfl (ai p 3) rfl (D.au 8 rfl (ai p1 3) rfl (D.az 8 rfl (ai p1 12) rfl ?_)))
  refine D.iX (x:=q.cM) (s:=⟨none,0,0⟩) (vs:=[]) 11 cg rfl (hb D.mod) (by simp only[];omega) λz fQ E hz=>⟨BE (D.aj 8 rfl) (E.aj 8 rfl) 3 1,BE (D.aj 7 rfl) (E.aj 7 rfl) 3 1,?_⟩
  refine E.gL λp4 ir E' kI=>⟨E.kept kI 7 rfl (ai p 3) 1,?_⟩
  have E:=E'
  have tN:ys.length=t.ax.length:=(E.box 4 rfl:aM eY _ ys t.ax).1
  have hx:Sl ir ⟨some ⟨p4,0,none⟩,1,1⟩ 5 (jP n q.n3 z 0 0):=by
   have:=(E.aj 12 rfl).sl 5 1 1 (by simp) (by omega)
   simpa[jP]using this
  have sA:=hs.ax
  have wY:(s.ax.n+(ag.mk (some ⟨p4,0,none⟩) 1 1).n)*56<=140737488355328:=by simp only[];omega
  have gZ:s.ax.n+(ag.mk (some ⟨p4,0,none⟩) 1 1).n<=9223372036854775807:=by simp only[];omega
  refine E.app (x:=⟨some ⟨p4,0,none⟩,1,1⟩) (s:=s.ax) (vs:=aO bE.cs t.ax ys) 3 HG rfl hx (TE _ _ _) wY gZ λy gH E hy=>?_
  refine E.st 7 rfl (ai p 3) (by show 3<6;omega) rfl λlI E=>E.bC 7 rfl ?_
  have hP:k6 q lb t=⟨n,q.n3,lb,0,0⟩:=by unfold k6;rw[hn]
  refine sH E (T':=jG q lb t) (s':=⟨s.sec,s.ten,y,s.key,s.gr⟩) 9 10 rfl rfl rfl rfl (by decide) λw' E _=>?_
  rw[hT,hR]
  refine⟨rfl,hn,ys++[z],zs,fp++z.row,fq,?_⟩
  have ed:aO bE.cs t.ax ys++jP n q.n3 z 0 0=aO bE.cs (jG q lb t).ax (ys++[z]):=by
   show _=aO bE.cs (t.ax++[k6 q lb t]) (ys++[z])
   rw[vG _ _ tN,sJ,hP,Xs]
  rw[ed]at E
  have E:=E.ajI 4 11 (Q':=λw=>aM eY w (ys++[z]) (jG q lb t).ax) rfl rfl (by decide) λw2 h1 h2=>by
   show aM eY w2 (ys++[z]) (t.ax++[k6 q lb t])
   rw[hP]
   exact aM.snoc h1 h2
  exact wG (E.bX (L':=cJ ⟨s.sec,s.ten,y,s.key,s.gr⟩ (jG q lb t) (ys++[z]) zs (fp++z.row) fq) [0,1,2,3,4,5,6] (by decide) rfl)
 rw[if_neg e2]at hC hT hR
 have e3:q.n2=3:=by
  unfold fO at hq
  rw[decide_eq_false e1,decide_eq_false e2,Bool.false_or,Bool.false_or,decide_eq_true_eq]at hq
  exact hq
 rw[if_pos e3]at hC hT hR
 have hP:yJ q ak t=if 1<=q.n6/\q.n6<=3 then (if ak.length=64 then (if t.keys.length=6 then 12 else (if jd ((t.keys.length:Int)+1) q.n3 q.n6 ak=0 then fF (cK q ak t) 1 gj else jd ((t.keys.length:Int)+1) q.n3 q.n6 ak)) else 3) else 2:=rfl
 rw[hP]at hC
 refine ite_false (decide_eq_false e2) (H.au 8 rfl (ai p1 6) rfl (H.au 8 rfl (ai p1 6) rfl ?_))
 by_cases c1:1<=q.n6/\q.n6<=3
 case neg=>
  rw[if_neg c1]at hC
  refine ite_true ?_ (no 2 (by decide) hC H)
  rw[Bool.or_eq_true,decide_eq_true_eq,decide_eq_true_eq]
  show q.n6<1\/3<q.n6
  omega
 rw[if_pos c1]at hC
 refine ite_false ?_ ?_
 ·rw[Bool.or_eq_false_iff,decide_eq_false_iff_not,decide_eq_false_iff_not]
  show ¬q.n6<1/\¬3<q.n6
  omega
 by_cases c2:ak.length=64
 case neg=>
  rw[if_neg c2]at hC
  exact ite_true (by rw[decide_eq_false (by omega)];rfl) (no 3 (by decide) hC H)
 rw[if_pos c2]at hC
 refine ite_false (by rw[decide_eq_true (by omega)];rfl) (H.az 7 rfl (ai p 4) rfl ?_)
 by_cases c3:t.keys.length=6
 ·rw[if_pos c3]at hC
  exact ite_true (decide_eq_true (by show(6:Int)<=(s.key.n:Int);omega)) (no 12 (by decide) hC H)
 rw[if_neg c3]at hC
 refine ite_false (decide_eq_false (by show ¬(6:Int)<=(s.key.n:Int);omega)) (H.az 7 rfl (ai p 4) rfl ⟨by show cv ((s.key.n:Int)+1);unfold cv;omega,H.au 8 rfl (ai p1 3) rfl (H.au 8 rfl (ai p1 6) rfl ?_)⟩)
 show ek Pr Q7 [.int .i64 ((s.key.n:Int)+1),.int .i64 q.n3,.int .i64 q.n6,.slice sd.a sd.n sd.c] w4 _
 rw[<- od]
 obtain⟨n,hn⟩:∃n:Int,n=(t.keys.length:Int)+1:=⟨_,rfl⟩
 have zu:cK q ak t=kY n q.n3 q.n6 ak:=by unfold cK;rw[hn]
 rw[<- hn]at hC⊢
 have Xx:C=jd n q.n3 q.n6 ak:=by
  rw[hC]
  split
  ·rename_i h;rw[zu,ajG h,h]
  ·rfl
 refine an (acT n q.n3 q.n6 sd ak bZ _ (fZ H.mod)) ?_
 rintro _ w26 ⟨y,rfl,hy⟩
 rw[<- zu]at hy⊢
 obtain⟨f,D⟩:=H.dz hy
 have ze:(cK q ak t).ay.length<=1:=TF _ _ _ _
 refine⟨_,rfl,jz ⟨_,rfl,rfl,D.nw λp5 w27 D _=>D.cO 12 rfl rfl λw28 D=>D.bD 12 rfl (an (Py (cK q ak t) y 1 (by omega) w28 (fI.ay (D.box 11 rfl))) ?_)⟩⟩
 rintro _ w29 ⟨z,rfl,hz,OI⟩
 have D:=D.bg OI hz
 refine⟨_,rfl,_,rfl,_,rfl,rfl,D.az 7 rfl (ai p 4) rfl (D.bD 12 rfl (D.gL λp6 w30 E m30=>?_))⟩
 have gG:zs.length=t.keys.length:=(E.box 6 rfl:aM cZ _ zs t.keys).1
 have hx:Sl w30 ⟨some ⟨p6,0,none⟩,1,1⟩ 4 (bY (cK q ak t).id (cK q ak t).ten (cK q ak t).set y):=by
  have:=(E.aj 14 rfl).sl 4 1 1 (by simp) (by omega)
  simpa[bY]using this
 have wY:(s.key.n+(ag.mk (some ⟨p6,0,none⟩) 1 1).n)*48<=140737488355328:=by simp only[];omega
 have gZ:s.key.n+(ag.mk (some ⟨p6,0,none⟩) 1 1).n<=9223372036854775807:=by simp only[];omega
 refine E.app (x:=⟨some ⟨p6,0,none⟩,1,1⟩) (s:=s.key) (vs:=aO aI.cs t.keys zs) 5 HH rfl hx (TG _ _) wY gZ λu w31 E hu=>?_
 refine E.st 7 rfl (ai p 4) (by show 4<6;omega) rfl λw32 E=>?_
 have E:=E.drew
 have ed:aO aI.cs t.keys zs++bY (cK q ak t).id (cK q ak t).ten (cK q ak t).set y=aO aI.cs (mT q ak t).keys (zs++[y]):=by
  show _=aO aI.cs (t.keys++[cK q ak t]) (zs++[y])
  rw[vG _ _ gG,sJ];rfl
 rw[ed]at E
 refine E.bC 7 rfl (E.au 12 rfl (ai p5 0) rfl (E.cF 9 rfl rfl λw33 E2=>⟨BE (E.aj 12 rfl) (E2.aj 12 rfl) 0 1,?_⟩))
 refine E2.dm 10 rfl rfl λw34 E=>E.bC 9 rfl (E.dO 10 rfl ?_)
 rw[<- Xx]
 refine⟨mT q ak t,⟨s.sec,s.ten,s.ax,u,s.gr⟩,0,(cK q ak t).id,z,⟨none,0,0⟩,rfl,E.take 0,λh0=>?_⟩
 rw[hT,hR]
 have sx:(cK q ak t).id=n:=by rw[zu];unfold kY;rw[if_pos (Xx▸h0)];rfl
 refine⟨rfl,rfl,by rw[sx,hn];rfl,ys,zs++[y],fp,fq++f,?_⟩
 have E:ah w0 S w34 [.row aE 1 s.sec (aG t.bN),.row cD 3 s.ten (dJ t.bn),.row cc 6 s.gr (cw t.aL),.row dM 5 s.ax (aO bE.cs t.ax ys),.box fp λw=>aM eY w ys t.ax,.row aW 4 u (aO aI.cs (mT q ak t).keys (zs++[y])),.box fq λw=>aM cZ w zs t.keys,.box f λw=>fI w y (cK q ak t).ay,.row aE 1 z (aG (kJ (cK q ak t) 1 gj))]:=E.bX [0,1,2,3,4,5,6,11,13] (by decide) rfl
 have E:=E.Is 6 7 (Q':=λw=>aM cZ w (zs++[y]) (mT q ak t).keys) rfl rfl (by decide) λw2 h1 h2=>aM.snoc h1 h2
 have E:=ah.rI (E.qF 8 rfl)
 exact E.bX (L':=cJ ⟨s.sec,s.ten,s.ax,u,s.gr⟩ (mT q ak t) ys (zs++[y]) fp (fq++f)++[.cut z (kJ (cK q ak t) 1 gj),.cut ⟨none,0,0⟩ []]) [0,1,2,3,4,5,6,8,9] (by decide) rfl
end Go.Proofs.YtgjoehgomjgckaaGreatDoor
end
section
set_option linter.unusedVariables false
set_option linter.unusedSimpArgs false
namespace Go.Proofs.YtgjoehgomjgckaaGreatDoor
open Go Go.Ev
set_option maxRecDepth 20000
set_option linter.unusedVariables false
variable{w0:World}
theorem ajJ{w:World}{S:List Nat}{t:aH}{s:bW}{ys zs:List ag}{fp fq:List Nat}{M:List aA}(H:ah w0 S w (cJ s t ys zs fp fq++M)){i:Nat}{x:ag}{k:aI}(hx:zs[i]? = some x)(hk:t.keys[i]? = some k):fI w x k.ay:=by
 have h:aM cZ w zs t.keys:=H.box 6 rfl
 exact h.2 i x k hx hk
theorem aiS{w:World}{S:List Nat}{t:aH}{s:bW}{ys zs:List ag}{fp fq:List Nat}{M:List aA}(H:ah w0 S w (cJ s t ys zs fp fq++M)){i:Nat}(hi:i<t.keys.length):
  t.keys[i]? = some (t.keys.getD i kz)/\(s.key.a.isSome=true/\(0:Int)<=(i:Int)/\(i:Int)<(s.key.n:Int))/\∃x,zs[i]? = some x/\∀(j:Nat) (v:Value),((t.keys.getD i kz).cs x)[j]? = some v->w.cell? (Addr.add (Addr.add (base s.key.a) (Int.toNat (i:Int)*4)) j)=some v:=by
 have hk:t.keys[i]? = some (t.keys.getD i kz):=by rw[List.getD_eq_getElem?_getD,List.getElem?_eq_getElem hi];rfl
 have h:aM cZ w zs t.keys:=H.box 6 rfl
 have hr:=H.cG 5 rfl
 have hl:=hr.len
 rw[gw aI.bA _ _ h.1]at hl
 have hx:zs[i]? = some (zs[i]'(by rw[h.1];exact hi)):=List.getElem?_eq_getElem _
 refine⟨hk,⟨hr.pre (by omega),by omega,by omega⟩,_,hx,λj v hv=>?_⟩
 rw[Int.toNat_natCast]
 exact hr.oH aI.bA hk hx hv
theorem ajK{l m:List B8}(hl:l.length=32)(hm:m.length=32):tU l m (min l.length m.length)=mh l m 32:=by
 unfold tU mh
 rw[hl,hm]
 refine List.map_congr_left λj hj=>?_
 rw[if_pos (Nat.lt_of_lt_of_le (List.mem_range.1 hj) (Nat.min_le_left _ _))]
 exact BitVec.xor_comm _ _
theorem aaG{w:World}{S:List Nat}{q:aY}{t:aH}{s:bW}{sd:ag}{ys zs:List ag}{fp fq:List Nat}(H:ah w0 S w (cJ s t ys zs fp fq))(hs:t.small)(tc:t.bN.length<=1000)(hq:fO q.n2=false)(fR:q.n2≠13)(hk:aF 1 (t.keys.length:Int) q.n4=true)(OJ:(eD q).fit)(lb ak:List B8)(hb:∀ {w'},Mod S w0 w'->Bytes w' q.cM lb)(bZ:ak.length<=1000000)(fZ:∀ {w'},Mod S w0 w'->Bytes w' sd ak):
  Ok Pr aaP [.agg ⟨t.cs s⟩,.agg ⟨q.cells⟩,.slice sd.a sd.n sd.c] w λv w'=>Made w0 S w' v (hO q lb ak t) (jx q lb ak t) (iS q lb ak t):=by
 refine aC Tryz.func85 ?_
 rw[oB,pZ,kN]
 have wI:q.n2≠1/\q.n2≠2/\q.n2≠3:=by
  unfold fO at hq
  simp only[Bool.or_eq_false_iff,decide_eq_false_iff_not]at hq
  exact⟨hq.1,hq.2.1,hq.2.2⟩
 have hC:iS q lb ak t=if fj q.n2=true then ru q lb ak t else if q.n2=12\/q.n2=13 then tf q t else rO q ak t:=by unfold iS;rw[if_neg wI.1,if_neg wI.2.1,if_neg wI.2.2]
 have hT:hO q lb ak t=if fj q.n2=true then t else if q.n2=12\/q.n2=13 then qV q t else qU q ak t:=by unfold hO;rw[if_neg wI.1,if_neg wI.2.1,if_neg wI.2.2]
 have hR:jx q lb ak t=if fj q.n2=true then qx q lb ak t else if q.n2=12\/q.n2=13 then th q t else rP q ak t:=by unfold jx;rw[if_neg wI.1,if_neg wI.2.1,if_neg wI.2.2]
 have OH:dF w s t:=nu (L:=[]) H
 have nS:=hs.key
 have sB:=hs.gr
 obtain⟨i,ei,en,hi⟩:=mD hk
 have tS:bh q t=t.keys.getD i kz:=by unfold bh;rw[en]
 have q8:=sM hs hi
 rw[<- tS]at q8
 generalize iS q lb ak t=C at*
 generalize hO q lb ak t=T at*
 generalize jx q lb ak t=R at*
 refine H.nw λp w1 H _=>H.nw λp1 w2 H _=>H.nw λp2 w3 H _=>H.nw λp3 w4 H _=>?_
 have H:ah w0 S w4 (cJ s t ys zs fp fq++[.aj p (t.cs s) aQ,.aj p1 q.cells iu,.aj p2 (cQ.cs sZ) aQ,.aj p3 (bR 0 0 ⟨none,0,0⟩ ⟨none,0,0⟩) ct]):=H
 obtain⟨ja,bF,x,cu,og⟩:=aiS H hi
 refine H.az 7 rfl (ai p 4) rfl (H.au 8 rfl (ai p1 4) rfl ⟨by unfold cv;omega,?_⟩)
 show ij s.key.a (q.n4 - 1) s.key.n _
 rw[ei]
 rw[<- tS]at ja og
 refine⟨bF,mC og (H.nw λp4 w5 H _=>H.cO 11 rfl rfl λw6 H=>H.au 8 rfl (ai p1 2) rfl ?_)⟩
 have H:ah w0 S w6 (cJ s t ys zs fp fq++[.aj p (t.cs s) aQ,.aj p1 q.cells iu,.aj p2 (cQ.cs sZ) aQ,.aj p3 (bR 0 0 ⟨none,0,0⟩ ⟨none,0,0⟩) ct,.aj p4 (bY (bh q t).id (bh q t).ten (bh q t).set x) aW]):=H
 have aJ:∀ {w':World} {M:List aA},ah w0 S w' (cJ s t ys zs fp fq++M)->dD w' x (bh q t).ay:=λG=>(ajJ G cu ja).ay
 have gG:zs.length=t.keys.length:=(H.box 6 rfl:aM cZ _ zs t.keys).1
 by_cases e4:q.n2=4
 ·refine ite_true (decide_eq_true e4) ?_
  have hu:fj q.n2=false:=by rw[e4];rfl
  rw[hu,if_neg (by decide),if_neg (by omega)]at hC hT hR
  have eC:rO q ak t=kZ (bh q t) ak.length:=by
   unfold rO
   rw[if_pos e4]
   split
   ·rename_i h;rw[ajH h,h]
   ·rfl
  have eT:qU q ak t={ t with keys:=t.keys.set i (fK (bh q t) ak) }:=by unfold qU yL;rw[if_pos e4,en]
  have eR:rP q ak t=⟨((fK (bh q t) ak).ay.length:Int),kJ (fK (bh q t) ak) ((fK (bh q t) ak).ay.length:Int) gj,[]⟩:=by unfold rP;rw[if_pos e4]
  rw[eC]at hC
  rw[eT]at hT
  rw[eR]at hR
  have br:=TH (bh q t) ak
  refine H.bD 11 rfl (an (ZV (bh q t) x sd ak (by omega) _ (aJ H) (fZ H.mod)) ?_)
  generalize fM:fK (bh q t) ak=k' at*
  rintro _ w7 ⟨u,rfl,hy⟩
  obtain⟨f,H⟩:=H.dz hy
  have iR:k'.ay.length=u.n:=(fI.ay (H.box 12 rfl)).len
  refine⟨_,rfl,jz ⟨_,rfl,rfl,H.nw λp5 w8 H _=>H.cO 13 rfl rfl λw9 H=>H.bD 13 rfl (H.az 13 rfl (ai p5 3) rfl (an (Py k' u (u.n:Int) (by omega) w9 (fI.ay (H.box 12 rfl))) ?_))⟩⟩
  rintro _ bP ⟨y,rfl,hy,o9⟩
  have H:=H.bg o9 hy
  refine⟨_,rfl,y,rfl,_,rfl,rfl,H.az 7 rfl (ai p 4) rfl (H.au 8 rfl (ai p1 4) rfl ⟨by unfold cv;omega,H.bD 13 rfl ?_⟩)⟩
  show ij s.key.a (q.n4 - 1) s.key.n _
  rw[ei]
  refine⟨bF,?_⟩
  show lX (k'.cs u) _ 0 _ _
  refine H.putAt 5 rfl aI.bA gG hi k' u (aI.jE k' u) λbQ H=>?_
  have E:ah w0 S bQ.drew [.row aE 1 s.sec (aG t.bN),.row cD 3 s.ten (dJ t.bn),.row cc 6 s.gr (cw t.aL),.row dM 5 s.ax (aO bE.cs t.ax ys),.box fp λw=>aM eY w ys t.ax,.row aW 4 s.key (aO aI.cs (t.keys.set i k') (zs.set i u)),.box fq λw=>aM cZ w zs t.keys,.box f λw=>fI w u k'.ay,.row aE 1 y (aG (kJ k' (u.n:Int) gj)),.aj p2 (cQ.cs sZ) aQ,.aj p3 (bR 0 0 ⟨none,0,0⟩ ⟨none,0,0⟩) ct,.aj p5 (bY k'.id k'.ten k'.set u) aW,.aj p (t.cs s) aQ]:=H.drew.bX [0,1,2,3,4,5,6,12,14,9,10,13,7] (by decide) rfl
  refine E.bC 12 rfl (E.az 11 rfl (ai p5 3) rfl (E.cF 9 rfl rfl λcH E2=>⟨BE (E.aj 11 rfl) (E2.aj 11 rfl) 3 1,E2.dm 10 rfl rfl λw' E=>E.bC 9 rfl (E.dO 10 rfl ?_)⟩))
  rw[<- hC]
  refine⟨{ t with keys:=t.keys.set i k' },s,0,(u.n:Int),y,⟨none,0,0⟩,rfl,E.take 0,λh0=>?_⟩
  rw[hT,hR]
  refine⟨rfl,rfl,by rw[iR],ys,zs.set i u,fp,fq++f,?_⟩
  rw[<- iR]at E
  have E:=E.Is 6 7 (Q':=λw=>aM cZ w (zs.set i u) (t.keys.set i k')) rfl rfl (by decide) λw2 h1 h2=>aM.put h1 h2
  have E:=ah.rI (E.qF 8 rfl)
  exact E.bX (L':=cJ s { t with keys:=t.keys.set i k' } ys (zs.set i u) fp (fq++f)++[.cut y (kJ k' (k'.ay.length:Int) gj),.cut ⟨none,0,0⟩ []]) [0,1,2,3,4,5,6,8,13] (by decide) rfl
 refine ite_false (decide_eq_false e4) ?_
 by_cases e9:q.n2=9
 ·have hu:fj q.n2=true:=by rw[e9];rfl
  rw[hu,if_pos rfl]at hC hT hR
  have eC:ru q lb ak t=iI (bh q t) ak:=by unfold ru;rw[if_pos e9]
  have eR:qx q lb ak t=⟨qv (bh q t) ak,me (bh q t) ak,ju (bh q t) ak⟩:=by unfold qx;rw[if_pos e9]
  rw[eC]at hC
  rw[eR]at hR
  refine ite_true (decide_eq_true e9) (H.bD 11 rfl (an (Qp (bh q t) x sd ak (by omega) _ (aJ H) (fZ H.mod)) ?_))
  rintro _ fQ ⟨y,z,rfl,K⟩
  have H:=H.join K
  refine⟨_,rfl,_,rfl,y,rfl,z,rfl,_,rfl,rfl,H.bC 7 rfl ?_⟩
  rw[<- hC]
  refine sH H (T':=t) (s':=s) 9 10 rfl rfl rfl rfl (by decide) λw' H h0=>?_
  rw[hT,hR]
  refine⟨rfl,rfl,ys,zs,fp,fq,?_⟩
  have H:=(H.qF 12 rfl).qF 13 rfl
  exact H.bX (L':=cJ s t ys zs fp fq++[.cut y (me (bh q t) ak),.cut z (ju (bh q t) ak)]) [0,1,2,3,4,5,6,12,13] (by decide) rfl
 refine ite_false (decide_eq_false e9) ?_
 by_cases vq:q.n2=10
 ·have hu:fj q.n2=true:=by rw[vq];rfl
  rw[hu,if_pos rfl]at hC hT hR
  have eC:ru q lb ak t=oC (bh q t) q.n5 lb:=by
   unfold ru
   rw[if_neg e9]
   split
   ·rename_i h;exact h.symm
   ·rfl
  have eR:qx q lb ak t=⟨0,oL (bh q t) q.n5 lb,[]⟩:=by unfold qx;rw[if_neg e9,if_pos vq]
  rw[eC]at hC
  rw[eR]at hR
  refine ite_true (decide_eq_true vq) (H.bD 11 rfl (H.au 8 rfl (ai p1 5) rfl (H.az 8 rfl (ai p1 12) rfl (an (Qq (bh q t) x q.cM q.n5 lb (by omega) _ (aJ H) (hb H.mod)) ?_))))
  rintro _ lI ⟨y,rfl,hy,ng⟩
  have H:=H.bg ng hy
  refine⟨_,rfl,y,rfl,_,rfl,rfl,H.bC 7 rfl ?_⟩
  rw[<- hC]
  refine sH H (T':=t) (s':=s) 9 10 rfl rfl rfl rfl (by decide) λw' H h0=>?_
  rw[hT,hR]
  refine⟨rfl,rfl,ys,zs,fp,fq,?_⟩
  have H:=ah.rI (H.qF 12 rfl)
  exact H.bX (L':=cJ s t ys zs fp fq++[.cut y (oL (bh q t) q.n5 lb),.cut ⟨none,0,0⟩ []]) [0,1,2,3,4,5,6,12,13] (by decide) rfl
 refine ite_false (decide_eq_false vq) ?_
 by_cases Ju:q.n2=11
 ·have hu:fj q.n2=true:=by rw[Ju];rfl
  rw[hu,if_pos rfl]at hC hT hR
  have eC:ru q lb ak t=if oC (bh q t) q.n5 lb=0 then iI (bh q t) ak else oC (bh q t) q.n5 lb:=by
   unfold ru
   rw[if_neg e9,if_neg vq]
  have eR:qx q lb ak t=⟨qv (bh q t) ak,me (bh q t) ak,mh (oL (bh q t) q.n5 lb) (ju (bh q t) ak) 32⟩:=by unfold qx;rw[if_neg e9,if_neg vq]
  rw[eC]at hC
  rw[eR]at hR
  refine ite_true (decide_eq_true Ju) (H.bD 11 rfl (H.au 8 rfl (ai p1 5) rfl (H.az 8 rfl (ai p1 12) rfl (an (Qq (bh q t) x q.cM q.n5 lb (by omega) _ (aJ H) (hb H.mod)) ?_))))
  rintro _ Jk ⟨y0,rfl,hy0,m20⟩
  have H:=H.bg m20 hy0
  refine⟨_,rfl,y0,rfl,_,rfl,rfl,?_⟩
  by_cases o0:oC (bh q t) q.n5 lb=0
  case neg=>
   rw[if_neg o0]at hC
   refine ite_true (by rw[decide_eq_false o0];rfl) (H.bC 7 rfl ?_)
   rw[<- hC]at o0⊢
   exact sH H (T':=t) (s':=s) 9 10 rfl rfl rfl rfl (by decide) λw' H h0=>absurd h0 o0
  rw[if_pos o0]at hC
  refine ite_false (by rw[decide_eq_true o0];rfl) (H.bD 11 rfl (an (Qp (bh q t) x sd ak (by omega) _ (aJ H) (fZ H.mod)) ?_))
  rintro _ Jv ⟨y,z,rfl,K⟩
  have H:=(H.join K).drew
  have FA:=Vk o0
  have gQ:(ju (bh q t) ak).length<=32:=by
   by_cases h:iI (bh q t) ak=0
   ·exact Nat.le_of_eq (LV h)
   ·unfold ju;rw[if_neg h];exact Nat.zero_le _
  refine⟨_,rfl,_,rfl,y,rfl,z,rfl,_,rfl,rfl,H.bC 7 rfl (an (aaE y0 z (oL (bh q t) q.n5 lb) (ju (bh q t) ak) (by omega) _ (Own.bytes (H.l8 12 rfl)) (Own.bytes (H.l8 14 rfl))) ?_)⟩
  rintro _ Jw ⟨z2,rfl,wN,m24⟩
  have H2:=H.bg m24 wN
  refine⟨z2,rfl,gM (H.aj 7 rfl) (H2.aj 7 rfl) 6,?_⟩
  rw[<- hC]
  refine sH H2 (T':=t) (s':=s) 9 10 rfl rfl rfl rfl (by decide) λw' H h0=>?_
  rw[hT,hR]
  refine⟨rfl,rfl,ys,zs,fp,fq,?_⟩
  rw[hC]at h0
  have H:=(H.qF 13 rfl).qF 15 rfl
  have F:=H.bX (L':=cJ s t ys zs fp fq++[.cut y (me (bh q t) ak),.cut z2 (tU (oL (bh q t) q.n5 lb) (ju (bh q t) ak) (min (oL (bh q t) q.n5 lb).length (ju (bh q t) ak).length))]) [0,1,2,3,4,5,6,13,15] (by decide) rfl
  rw[ajK FA (LV h0)]at F
  exact F
 refine ite_false (decide_eq_false Ju) ?_
 have hnu:fj q.n2=false:=by unfold fj;rw[decide_eq_false e9,decide_eq_false vq,decide_eq_false Ju];rfl
 rw[hnu,if_neg (by decide)]at hC hT hR
 by_cases Dh:q.n2=12
 ·refine ite_true (decide_eq_true Dh) ?_
  rw[if_pos (.inl Dh)]at hC hT hR
  have eC:tf q t=if q.gS<=t.clock then 2 else kD t.aL (eD q):=by unfold tf;rw[if_neg fR]
  have eT:qV q t={ t with aL:=iB t.aL (eD q) }:=by unfold qV;rw[if_neg fR]
  have eR:th q t=⟨mP t.aL (eD q),tok t.bN (iY t.aL (eD q)),[]⟩:=by unfold th;rw[if_neg fR]
  rw[eC]at hC
  rw[eT]at hT
  rw[eR]at hR
  refine H.au 8 rfl (ai p1 10) rfl (H.au 7 rfl (ai p 0) rfl ?_)
  show dc (decide (q.gS<=t.clock)) _ _
  by_cases hu:q.gS<=t.clock
  ·rw[if_pos hu]at hC
   rw[hC]
   exact ite_true (decide_eq_true hu) (H.bC 7 rfl (sH H (T':=t) (s':=s) 9 10 rfl rfl rfl rfl (by decide) λw' H h0=>absurd h0 (by decide)))
  rw[if_neg hu]at hC
  refine ite_false (decide_eq_false hu) (H.az 7 rfl (ai p 5) rfl (H.au 8 rfl (ai p1 4) rfl (H.au 8 rfl (ai p1 8) rfl (H.au 8 rfl (ai p1 9) rfl (H.au 8 rfl (ai p1 10) rfl (an (acO s.gr t.aL (eD q) hs.gf OJ (by omega) _ (H.cG 2 rfl)) ?_))))))
  rintro _ w29 ⟨y,rfl,hy,OI⟩
  have H:=H.bg OI hy
  refine⟨_,rfl,y,rfl,_,rfl,_,rfl,rfl,?_⟩
  by_cases a0:kD t.aL (eD q)=0
  case neg=>
   refine ite_true (by rw[decide_eq_false a0];rfl) (H.bC 7 rfl ?_)
   rw[<- hC]at a0⊢
   exact sH H (T':=t) (s':=s) 9 10 rfl rfl rfl rfl (by decide) λw' H h0=>absurd h0 a0
  have eL:iB t.aL (eD q)=t.aL++[iY t.aL (eD q)]:=by unfold iB;rw[if_pos a0]
  have eN:mP t.aL (eD q)=(t.aL.length:Int)+1:=by unfold mP;rw[if_pos a0]
  rw[a0]at hC
  refine ite_false (by rw[decide_eq_true a0];rfl) (H.st 7 rfl (ai p 5) (by show 5<6;omega) rfl λw32 H=>?_)
  have H:=H.drew
  have hg:fN _ y (t.aL++[iY t.aL (eD q)]):=eL▸H.cG 12 rfl
  refine H.bC 7 rfl (H.az 7 rfl (ai p 1) rfl ⟨by rw[eN];unfold cv;omega,?_⟩)
  rw[eN,Int.add_sub_cancel]
  have gF:(t.aL++[iY t.aL (eD q)]).getD t.aL.length gz=iY t.aL (eD q):=by
   rw[List.getD_eq_getElem?_getD,List.getElem?_append_right (Nat.le_refl _),Nat.sub_self];rfl
  refine hg.ld (i:=t.aL.length) (by simp) rfl ?_
  rw[gF]
  refine an (PV s.sec t.bN (iY t.aL (eD q)) tc _ (Own.bytes (H.l8 0 rfl))) ?_
  rintro _ w33 ⟨z,rfl,hz,m33⟩
  have H2:=H.bg m33 hz
  refine⟨z,rfl,gM (H.aj 7 rfl) (H2.aj 7 rfl) 6,?_⟩
  rw[hC]
  refine sH H2 (T':={ t with aL:=iB t.aL (eD q) }) (s':=⟨s.sec,s.ten,s.ax,s.key,y⟩) 9 10 rfl rfl rfl rfl (by decide) λw' H h0=>?_
  rw[hT,hR]
  refine⟨rfl,eN.symm,ys,zs,fp,fq,?_⟩
  have E:ah w0 S w' [.row aE 1 s.sec (aG t.bN),.row cD 3 s.ten (dJ t.bn),.row cc 6 y (cw (iB t.aL (eD q))),.row dM 5 s.ax (aO bE.cs t.ax ys),.box fp λw=>aM eY w ys t.ax,.row aW 4 s.key (aO aI.cs t.keys zs),.box fq λw=>aM cZ w zs t.keys,.row aE 1 z (aG (tok t.bN (iY t.aL (eD q))))]:=H.bX [0,1,12,3,4,5,6,13] (by decide) rfl
  exact ah.rI (E.qF 7 rfl)
 refine ite_false (decide_eq_false Dh) ?_
 rw[if_neg (λh=>h.elim Dh fR)]at hC hT hR
 have eC:rO q ak t=qg (bh q t) q.n2 q.n5 q.gS t.clock:=by unfold rO;rw[if_neg e4]
 have eT:qU q ak t={ t with keys:=t.keys.set i (mc (bh q t) q.n2 q.n5 q.gS t.clock) }:=by unfold qU yL;rw[if_neg e4,en]
 have eR:rP q ak t=⟨0,[],[]⟩:=by unfold rP;rw[if_neg e4]
 rw[eC]at hC
 rw[eT]at hT
 rw[eR]at hR
 refine H.bD 11 rfl (H.au 8 rfl (ai p1 2) rfl (H.au 8 rfl (ai p1 5) rfl (H.au 8 rfl (ai p1 10) rfl (H.au 7 rfl (ai p 0) rfl (an (acX (bh q t) x q.n2 q.n5 q.gS t.clock (by omega) _ (aJ H)) ?_)))))
 generalize mc (bh q t) q.n2 q.n5 q.gS t.clock=k' at*
 rintro _ w36 ⟨u,rfl,hy⟩
 obtain⟨f,H⟩:=H.dz hy
 refine⟨_,rfl,jz ⟨_,rfl,rfl,H.nw λp6 w37 H _=>H.cO 13 rfl rfl λw38 H=>H.az 7 rfl (ai p 4) rfl (H.au 8 rfl (ai p1 4) rfl ⟨by unfold cv;omega,H.bD 13 rfl ?_⟩)⟩⟩
 show ij s.key.a (q.n4 - 1) s.key.n _
 rw[ei]
 refine⟨bF,?_⟩
 show lX (k'.cs u) _ 0 _ _
 refine H.putAt 5 rfl aI.bA gG hi k' u (aI.jE k' u) λw39 H=>H.bC 7 rfl ?_
 have E:ah w0 S w39 [.row aE 1 s.sec (aG t.bN),.row cD 3 s.ten (dJ t.bn),.row cc 6 s.gr (cw t.aL),.row dM 5 s.ax (aO bE.cs t.ax ys),.box fp λw=>aM eY w ys t.ax,.row aW 4 s.key (aO aI.cs (t.keys.set i k') (zs.set i u)),.box fq λw=>aM cZ w zs t.keys,.box f λw=>fI w u k'.ay,.aj p2 (cQ.cs sZ) aQ,.aj p3 (bR 0 0 ⟨none,0,0⟩ ⟨none,0,0⟩) ct]:=H.bX [0,1,2,3,4,5,6,12,9,10] (by decide) rfl
 rw[<- hC]
 refine sH E (T':={ t with keys:=t.keys.set i k' }) (s':=s) 8 9 rfl rfl rfl rfl (by decide) λw' E h0=>?_
 rw[hT,hR]
 refine⟨rfl,rfl,ys,zs.set i u,fp,fq++f,?_⟩
 have E:=E.Is 6 7 (Q':=λw=>aM cZ w (zs.set i u) (t.keys.set i k')) rfl rfl (by decide) λw2 h1 h2=>aM.put h1 h2
 exact wG (E.bX (L':=cJ s { t with keys:=t.keys.set i k' } ys (zs.set i u) fp (fq++f)) [0,1,2,3,4,5,6] (by decide) rfl)
theorem ahN(q q0:aY)(lb ak:List B8)(t:aH):iS q lb ak (dG q0 t)=iS q lb ak t:=by
 have e:td lb (dG q0 t)=td lb t:=by
  unfold td
  rw[show(dG q0 t).ax.length=t.ax.length from List.length_set ..]
 unfold iS
 rw[e];rfl
theorem ahO(q q0:aY)(lb ak:List B8)(t:aH):jx q lb ak (dG q0 t)=jx q lb ak t:=by
 have e:uQ (dG q0 t)=uQ t:=by
  unfold uQ
  rw[show(dG q0 t).ax.length=t.ax.length from List.length_set ..]
 unfold jx
 rw[e];rfl
theorem ahP(q q0:aY)(lb ak:List B8)(t:aH)(hw:aF 1 (t.ax.length:Int) q0.n0=true):hO q lb ak (dG q0 t)=dG q0 (hO q lb ak t):=by
 obtain⟨i,_,en,hi⟩:=mD hw
 have e:jG q lb (dG q0 t)=dG q0 (jG q lb t):=by
  have h1:bI q0 (jG q lb t)=bI q0 t:=by
   unfold bI jG
   rw[en,List.getD_eq_getElem?_getD,List.getD_eq_getElem?_getD,List.getElem?_append_left hi]
  have h2:k6 q lb (dG q0 t)=k6 q lb t:=by
   unfold k6
   rw[show(dG q0 t).ax.length=t.ax.length from List.length_set ..]
  show({ dG q0 t with ax:=t.ax.set (q0.n0 - 1).toNat (uP q0 (bI q0 t))++[k6 q lb (dG q0 t)] }:aH)={ jG q lb t with ax:=(t.ax++[k6 q lb t]).set (q0.n0 - 1).toNat (uP q0 (bI q0 (jG q lb t))) }
  rw[h1,h2,en,List.set_append_left _ _ hi];rfl
 unfold hO
 rw[e]
 split
 ·rfl
 split
 ·rfl
 split
 ·rfl
 split
 ·rfl
 split
 ·rfl
 ·rfl
theorem ahQ{q:aY}{t:aH}(h:q.n2≠13):qK q t=q:=by unfold qK;rw[DK h]
theorem Nr{q:aY}(h:q.n2=13)(lb ak:List B8)(t:aH):iS q lb ak t=jF t.aL q.n7/\hO q lb ak t={ t with aL:=jq t.aL q.n7 }/\jx q lb ak t=⟨0,[],[]⟩:=by
 have hu:fj q.n2=false:=by rw[h];rfl
 refine⟨?_,?_,?_⟩
 ·unfold iS tf;rw[if_neg (by omega),if_neg (by omega),if_neg (by omega),hu,if_neg (by decide),if_pos (.inr h),if_pos h]
 ·unfold hO qV;rw[if_neg (by omega),if_neg (by omega),if_neg (by omega),hu,if_neg (by decide),if_pos (.inr h),if_pos h]
 ·unfold jx th;rw[if_neg (by omega),if_neg (by omega),if_neg (by omega),hu,if_neg (by decide),if_pos (.inr h),if_pos h]
theorem MJ(q:aY)(t0:aH)(lb ak:List B8)(t:aH):iS (qK q t0) lb ak t=iS q lb ak t/\hO (qK q t0) lb ak t=hO q lb ak t/\jx (qK q t0) lb ak t=jx q lb ak t:=by
 by_cases h:q.n2=13
 ·obtain⟨a,b,c⟩:=Nr h lb ak t
  obtain⟨a2,b2,c2⟩:=Nr (q:=qK q t0) h lb ak t
  exact⟨a2.trans a.symm,b2.trans b.symm,c2.trans c.symm⟩
 ·rw[ahQ h];exact⟨rfl,rfl,rfl⟩
theorem aiT{w:World}{S:List Nat}{t:aH}{s:bW}{ys zs:List ag}{fp fq:List Nat}{M:List aA}(H:ah w0 S w (cJ s t ys zs fp fq++M)){i:Nat}(hi:i<t.ax.length):
  t.ax[i]? = some (t.ax.getD i dK)/\(s.ax.a.isSome=true/\(0:Int)<=(i:Int)/\(i:Int)<(s.ax.n:Int))/\∃x,ys[i]? = some x/\∀(j:Nat) (v:Value),((t.ax.getD i dK).cs x)[j]? = some v->w.cell? (Addr.add (Addr.add (base s.ax.a) (Int.toNat (i:Int)*5)) j)=some v:=by
 have hk:t.ax[i]? = some (t.ax.getD i dK):=by rw[List.getD_eq_getElem?_getD,List.getElem?_eq_getElem hi];rfl
 have h:aM eY w ys t.ax:=H.box 4 rfl
 have hr:=H.cG 3 rfl
 have hl:=hr.len
 rw[gw bE.bA _ _ h.1]at hl
 have hx:ys[i]? = some (ys[i]'(by rw[h.1];exact hi)):=List.getElem?_eq_getElem _
 refine⟨hk,⟨hr.pre (by omega),by omega,by omega⟩,_,hx,λj v hv=>?_⟩
 rw[Int.toNat_natCast]
 exact hr.oH bE.bA hk hx hv
def Wl(w w':World)(v:Value)(T:aH)(c:Int)(R:mg):Prop:=
 ∃s ys zs fp fq y z,v=.tuple ⟨[.agg ⟨T.cs s⟩,.agg ⟨bR c R.id y z⟩,.int .i64 c]⟩/\ah w [] w' (cJ s T ys zs fp fq++[.cut y R.cM,.cut z R.ex])
theorem aiU(q:aY)(lb ak:List B8)(t:aH):t.ax.length<=(hO q lb ak t).ax.length/\(hO q lb ak t).ax.length<=t.ax.length+1:=by
 unfold hO
 split
 ·exact⟨Nat.le_refl _,Nat.le_succ _⟩
 split
 ·show t.ax.length<=(t.ax++[k6 q lb t]).length/\(t.ax++[k6 q lb t]).length<=_
  rw[List.length_append,List.length_singleton];omega
 split
 ·exact⟨Nat.le_refl _,Nat.le_succ _⟩
 split
 ·exact⟨Nat.le_refl _,Nat.le_succ _⟩
 split
 ·exact⟨Nat.le_refl _,Nat.le_succ _⟩
 ·exact⟨Nat.le_refl _,Nat.le_succ _⟩
theorem aex(s:bW)(t:aH)(q:aY)(lb lt:List B8)(sd:ag)(ak:List B8)(hs:t.small)(bZ:ak.length<=1000000)(w:World)(hx:dF w s t)(hb:Bytes w q.cM lb)(ht:Bytes w q.tok lt)(fZ:Bytes w sd ak):
  Ok Pr aeH [.agg ⟨t.cs s⟩,.agg ⟨q.cells⟩,.slice sd.a sd.n sd.c] w λv w'=>Wl w w' v (dT q lb lt ak t) (dC q lb lt ak t) (dR q lb lt ak t):=by
 refine aC Tryz.func41 (J:=[(11,[(9,.int .i64)])]) ?_
 rw[oB,pZ,HJ]
 have hC:dC q lb lt ak t=if qi q lt t=0 then iS q lb ak t else qi q lt t:=by
  unfold dC
  rw[(MJ q t lb ak (dG q t)).1,ahN]
 have hT:dT q lb lt ak t=if dC q lb lt ak t=0 then hO (qK q t) lb ak (dG q t) else cQ:=rfl
 have hR:dR q lb lt ak t=if dC q lb lt ak t=0 then jx q lb ak t else ⟨0,[],[]⟩:=by
  unfold dR
  rw[(MJ q t lb ak (dG q t)).2.2,ahO]
 rw[(MJ q t lb ak (dG q t)).2.1]at hT
 generalize dC q lb lt ak t=C at*
 generalize dT q lb lt ak t=T at*
 generalize dR q lb lt ak t=R at*
 refine(ah.start w).nw λp w1 H _=>H.nw λp1 w2 H _=>H.nw λp2 w3 H _=>H.nw λp3 w4 H _=>?_
 have H:ah w [] w4 [.aj p (t.cs s) aQ,.aj p1 q.cells iu,.aj p2 (cQ.cs sZ) aQ,.aj p3 (bR 0 0 ⟨none,0,0⟩ ⟨none,0,0⟩) ct]:=H
 refine H.bC 0 rfl (H.kM 1 rfl (an (QT s t q lt hs _ (hx.av H.mod) (ht.av H.mod)) ?_))
 rintro _ w5 ⟨rfl,m5⟩
 have H:=H.frame m5
 have fail:∀ {w6:World} {e:Int},e≠0->C=e->ah w [] w6 [.aj p2 (cQ.cs sZ) aQ,.aj p3 (bR 0 0 ⟨none,0,0⟩ ⟨none,0,0⟩) ct]->
   cF ⟨p2,0,none⟩ 0 ⟨none,0,0⟩ ⟨none,0,0⟩ ⟨none,0,0⟩ ⟨none,0,0⟩ ⟨none,0,0⟩ w6 λw7=>dm ⟨p3,0,none⟩ e 0 ⟨none,0,0⟩ ⟨none,0,0⟩ w7 λw8=>bC ⟨p2,0,none⟩ w8 λg0 g1 g2 g3 g4 g5=>dO ⟨p3,0,none⟩ w8 λr0 r1 r2 r3=>
    Wl w w8 (.tuple ⟨[.agg ⟨[.int .i64 g0,.slice g1.a g1.n g1.c,.slice g2.a g2.n g2.c,.slice g3.a g3.n g3.c,.slice g4.a g4.n g4.c,.slice g5.a g5.n g5.c]⟩,.agg ⟨[.int .i64 r0,.int .i64 r1,.slice r2.a r2.n r2.c,.slice r3.a r3.n r3.c]⟩,.int .i64 e]⟩) T C R:=by
  intro w6 e he vg K
  rw[vg]at hT hR⊢
  rw[if_neg he]at hT hR
  subst hT hR
  refine K.cF 0 rfl rfl λw7 K=>K.dm 1 rfl rfl λw8 K=>K.bC 0 rfl (K.dO 1 rfl ?_)
  exact⟨sZ,[],[],[],[],⟨none,0,0⟩,⟨none,0,0⟩,rfl,(wG (DX K)).drop 2⟩
 refine⟨_,rfl,?_⟩
 by_cases h0:qi q lt t=0
 case neg=>
  rw[if_neg h0]at hC
  exact ite_true (by rw[decide_eq_false h0];rfl) (fail h0 hC (H.drop 2))
 rw[if_pos h0]at hC
 obtain⟨hm,hq,hw,FX,OK,_⟩:=G7 h0
 have kC:=GU hm
 obtain⟨o1,o2,o3,o4,o5⟩:=ops hq
 have Bb:=SL hq
 have fc:=hb.len
 have Jn:q.cM.n<=2000:=by
  unfold iy at hq
  simp only[Bool.and_eq_true,decide_eq_true_eq]at hq
  exact hq.2.2.2.2.2.1
 refine ite_false (by rw[decide_eq_true h0];rfl) (H.bC 0 rfl (an (Gg s t hs _ (hx.av H.mod)) ?_))
 rintro _ w8 ⟨s',ys,zs,fp,fq,rfl,K⟩
 have H:=H.join K
 refine ia (H.nw λp4 w9 H _=>H.cF 11 rfl rfl λbP H=>H.nw λp5 bQ H _=>?_)
 have H:ah w [] bQ (cJ s' t ys zs fp fq++[.aj p1 q.cells iu,.aj p2 (cQ.cs sZ) aQ,.aj p3 (bR 0 0 ⟨none,0,0⟩ ⟨none,0,0⟩) ct,.aj p4 (t.cs s') aQ,.aj p5 (bR 0 0 ⟨none,0,0⟩ ⟨none,0,0⟩) ct]):=H.bX [4,5,6,7,8,9,10,1,2,3,11,12] (by decide) rfl
 refine fo λgo aV=>?_
 have bad:∀ {cH:World},C≠0->ah w [] cH [.aj p2 (cQ.cs sZ) aQ,.aj p3 (bR 0 0 ⟨none,0,0⟩ ⟨none,0,0⟩) ct]->go C cH:=λhc K=>
  aV _ _ (ite_true (by rw[decide_eq_false hc];rfl) (fail hc rfl K))
 have mN:∀ {cH:World} {s2:bW} {gu zs2:List ag} {de iJ:List Nat} {y z:ag},C=0->ah w [] cH (cJ s2 (hO q lb ak t) gu zs2 de iJ++[.cut y R.cM,.cut z R.ex,.aj p1 q.cells iu,.aj p2 (cQ.cs sZ) aQ,.aj p3 (bR 0 0 ⟨none,0,0⟩ ⟨none,0,0⟩) ct,.aj p4 ((hO q lb ak t).cs s2) aQ,.aj p5 (bR 0 R.id y z) ct])->go 0 cH:=by
  intro cH s2 gu zs2 de iJ y z hc K
  rw[hc]at hT hR
  rw[if_pos rfl,ahP _ _ _ _ _ hw]at hT
  obtain⟨WO,hp2⟩:=aiU q lb ak t
  have sA:=hs.ax
  obtain⟨i,ei,en,hi⟩:=mD hw
  generalize hO q lb ak t=T2 at*
  have uX:i<T2.ax.length:=by omega
  have Nq:bI q T2=T2.ax.getD i dK:=by unfold bI;rw[en]
  refine aV _ _ (ite_false rfl ?_)
  obtain⟨ja,bF,x,cu,og⟩:=aiT K uX
  rw[<- Nq]at ja og
  have OL:cv (q.n0 - 1):=by unfold cv;omega
  refine K.az 12 rfl (ai p4 3) rfl (K.au 9 rfl (ai p1 0) rfl ⟨OL,?_⟩)
  show ij s2.ax.a (q.n0 - 1) s2.ax.n _
  rw[ei]
  refine⟨bF,F6 og (K.nw λp6 ir K _=>K.xq 14 rfl rfl λgH K=>?_)⟩
  have tN:gu.length=T2.ax.length:=(K.box 4 rfl:aM eY _ gu T2.ax).1
  have D:=K.drew
  refine D.az 12 rfl (ai p4 3) rfl (D.au 9 rfl (ai p1 0) rfl ⟨OL,D.az 12 rfl (ai p4 3) rfl (D.au 9 rfl (ai p1 0) rfl ⟨OL,D.au 14 rfl (ai p6 3) rfl (D.au 14 rfl (ai p6 4) rfl (D.au 9 rfl (ai p1 1) rfl (an (QM (bI q T2).high (bI q T2).used q.n1 _) ?_)))⟩)⟩)
  rintro _ lI ⟨rfl,ng⟩
  have E:=D.frame ng
  refine⟨_,rfl,_,rfl,_,rfl,_,rfl,rfl,D.kept ng 9 rfl (ai p1 0) 1,D.kept ng 12 rfl (ai p4 3) 1,D.kept ng 9 rfl (ai p1 0) 1,D.kept ng 12 rfl (ai p4 3) 1,?_⟩
  show ij s2.ax.a (q.n0 - 1) s2.ax.n _
  rw[ei]
  refine⟨bF,E.kU 3 rfl bE.bA tN ja cu (a':={ bI q T2 with high:=oR (bI q T2).high (bI q T2).used q.n1 }) (by omega:3<5) rfl rfl λpF F=>⟨BE (E.aj 9 rfl) (F.aj 9 rfl) 0 1,BE (E.aj 12 rfl) (F.aj 12 rfl) 3 1,?_⟩⟩
  refine⟨bF,F.kU 3 rfl bE.bA (by rw[List.length_set];exact tN) (a:={ bI q T2 with high:=oR (bI q T2).high (bI q T2).used q.n1 }) (a':=uP q (bI q T2)) (by rw[List.getElem?_set,if_pos rfl,if_pos uX]) cu (by omega:4<5) rfl rfl λqt G=>?_⟩
  rw[List.set_set,List.set_set]at G
  have G:=G.D9 (Q':=λw=>aM eY w gu (T2.ax.set i (uP q (bI q T2)))) 4 rfl λw h=>by
   have:=aM.put h (i:=i) (x:=x) (a:=uP q (bI q T2)) (h.2 i x _ cu ja:eY w x (bI q T2))
   rwa [zA cu]at this
  have eT:dG q T2={ T2 with ax:=T2.ax.set i (uP q (bI q T2)) }:=by unfold dG;rw[en]
  have G:ah w [] qt.drew (cJ s2 (dG q T2) gu zs2 de iJ++[.cut y R.cM,.cut z R.ex,.aj p2 (cQ.cs sZ) aQ,.aj p3 (bR 0 0 ⟨none,0,0⟩ ⟨none,0,0⟩) ct,.aj p4 ((dG q T2).cs s2) aQ,.aj p5 (bR 0 R.id y z) ct]):=by
   rw[eT]
   exact G.drew.bX [0,1,2,3,4,5,6,7,8,10,11,12,13] (by decide) rfl
  refine G.bC 11 rfl (G.dO 12 rfl (G.cF 9 rfl rfl λJk G2=>⟨gM (G.aj 12 rfl) (G2.aj 12 rfl) 4,G2.dm 10 rfl rfl λNR G=>G.bC 9 rfl (G.dO 10 rfl ?_)⟩))
  rw[hT,hc]
  exact⟨s2,gu,zs2,de,iJ,y,z,rfl,G.take 9⟩
 have made:∀ {f:FuncId},(∀ {S:List Nat} {w0:World},ah w0 S bQ (cJ s' t ys zs fp fq)->(∀ {w'},Mod S w0 w'->Bytes w' q.cM lb)->(∀ {w'},Mod S w0 w'->Bytes w' sd ak)->Ok Pr f [.agg ⟨t.cs s'⟩,.agg ⟨q.cells⟩,.slice sd.a sd.n sd.c] bQ λv w'=>Made w0 S w' v (hO q lb ak t) (jx q lb ak t) (iS q lb ak t))->
   ek Pr f [.agg ⟨t.cs s'⟩,.agg ⟨q.cells⟩,.slice sd.a sd.n sd.c] bQ λv I6=>ny.vW v λvs=>bM vs λv1 r=>xx v1 λt0 t1 t2 t3 t4 t5=>bM r λv2 r2=>zx v2 λa0 a1 a2 a3=>bM r2 λv3 r3=>cY .i64 v3 λn=>
    (r3=[]/\cF ⟨p4,0,none⟩ t0 t1 t2 t3 t4 t5 I6 λJv=>dm ⟨p5,0,none⟩ a0 a1 a2 a3 Jv λJw=>go n Jw):=by
  intro f h
  refine an (h H.sub (λm=>hb.av (H.mod.trans' m H.EX)) (λm=>fZ.av (H.mod.trans' m H.EX))) ?_
  rintro _ I6 ⟨T',s2,rc,ri,y,z,rfl,K0,h2⟩
  rw[<- hC]at h2⊢
  refine⟨_,rfl,ia (tX ⟨_,rfl,rfl,?_⟩)⟩
  by_cases hc:C=0
  ·obtain⟨rfl,rfl,rfl,gu,zs2,de,iJ,K⟩:=h2 hc
   have Bm:R=jx q lb ak t:=by rw[hR,if_pos hc]
   rw[<- Bm]at K⊢
   have K:=H.back K
   refine K.cF 12 rfl rfl λJv K=>K.dm 13 rfl rfl λJw K=>?_
   rw[hc]
   exact mN hc K
  ·have K:=H.back K0
   exact K.cF 3 rfl rfl λJv K=>K.dm 4 rfl rfl λJw K=>bad hc (K.bX [1,2] (by decide) rfl)
 refine H.au 7 rfl (ai p1 2) rfl ?_
 by_cases e3:q.n2<=3
 ·have jv:fO q.n2=true:=by
   unfold fO
   simp only[Bool.or_eq_true,decide_eq_true_eq]
   omega
  refine ite_true (decide_eq_true e3) (H.bC 10 rfl (H.kM 7 rfl (made λK h1 h2=>?_)))
  exact aaF K hs kC.2.2.2.2.2.1.2 kC.2.2.2.2.2.2.1 jv lb ak h1 (by omega) bZ h2
 have jv:fO q.n2=false:=by
  unfold fO
  simp only[Bool.or_eq_false_iff,decide_eq_false_iff_not]
  omega
 refine ite_false (decide_eq_false e3) (H.au 7 rfl (ai p1 2) rfl ?_)
 by_cases pN:q.n2=13
 ·obtain⟨d1,d2,d3⟩:=Nr pN lb ak t
  have sB:=hs.gr
  refine ite_true (decide_eq_true pN) (H.az 10 rfl (ai p4 5) rfl (H.au 7 rfl (ai p1 7) rfl (an (ZO s'.gr t.aL q.n7 hs.gf (by omega) _ (H.cG 2 rfl)) ?_)))
  rintro _ w25 ⟨y,rfl,hy,m25⟩
  have H:=H.bg m25 hy
  rw[d1]at hC
  refine⟨_,rfl,y,rfl,_,rfl,rfl,H.st 10 rfl (ai p4 5) (by show 5<6;omega) rfl λw26 H=>?_⟩
  rw[<- hC]
  by_cases hc:C=0
  ·have Bm:R=⟨0,[],[]⟩:=by rw[hR,if_pos hc,d3]
   rw[hc]
   refine mN (gu:=ys) (zs2:=zs) (de:=fp) (iJ:=fq) (s2:=⟨s'.sec,s'.ten,s'.ax,s'.key,y⟩) (y:=⟨none,0,0⟩) (z:=⟨none,0,0⟩) hc ?_
   rw[d2,Bm]
   exact(wG H).bX [0,1,12,3,4,5,6,13,14,7,8,9,10,11] (by decide) rfl
  ·exact bad hc (H.bX [8,9] (by decide) rfl)
 refine ite_false (decide_eq_false pN) (H.bC 10 rfl (H.kM 7 rfl (made λK h1 h2=>?_)))
 have hk:aF 1 (t.keys.length:Int) q.n4=true:=by
  unfold eH at OK
  rw[if_neg (by rw[jv];decide),Bool.and_eq_true,Bool.and_eq_true,DK pN]at OK
  exact OK.2.1
 have OJ:(eD q).fit:=by
  have:=KC hq q.n9 (by simp[aY.rest])
  show -9223372036854775808<=q.n9
  omega
 exact aaG K hs (by omega) jv pN hk OJ lb ak h1 bZ h2
def alg(w w':World)(v:Value)(T:aH)(m c:Int):Prop:=
 ∃s ys zs fp fq,v=.tuple ⟨[.agg ⟨T.cs s⟩,.int .i64 m,.int .i64 c]⟩/\ah w [] w' (cJ s T ys zs fp fq)
theorem afO(t:aH)(c:Int):((!cP t||decide (c<t.clock))||decide ((1099511627776:Int)<c))=!(decide (ku t c=0)):=by
 unfold ku
 cases cP t with
 |false=>rfl
 |true=>
  by_cases h1:c<t.clock
  ·rw[if_pos rfl,if_neg (by omega),decide_eq_true h1];rfl
  ·rw[if_pos rfl,decide_eq_false h1]
   by_cases h2:(1099511627776:Int)<c
   ·rw[if_neg (by omega),decide_eq_true h2];rfl
   ·rw[if_pos (by omega),decide_eq_false h2];rfl
theorem agH{t:aH}{c:Int}(h0:ku t c≠0):ku t c=2:=by
 unfold ku at h0⊢
 split
 ·split
  ·rename_i h1 h2;rw[if_pos h1,if_pos h2]at h0;exact absurd rfl h0
  ·rfl
 ·rfl
theorem abO(s:bW)(t:aH)(c:Int)(hs:t.small)(w:World)(hx:dF w s t):
  Ok Pr ab0 [.agg ⟨t.cs s⟩,.int .i64 c] w λv w'=>alg w w' v (oM t c) (yq t c) (ku t c):=by
 refine aC Tryz.func40 (L:=[(7,[(8,.int .i64),(9,.int .i64)])]) ?_
 rw[oB,kN]
 have Ez:=afO t c
 have h2:=@agH t c
 have hT:oM t c=if ku t c=0 then Bn t c else cQ:=rfl
 have hM:yq t c=if ku t c=0 then (vp t.keys c t.keys.length:Int) else 0:=rfl
 generalize ku t c=C at*
 generalize oM t c=T at*
 generalize yq t c=M at*
 have nS:=hs.key
 refine(ah.start w).nw λp w1 H _=>H.nw λp1 w2 H _=>?_
 have H:ah w [] w2 [.aj p (t.cs s) aQ,.aj p1 (cQ.cs sZ) aQ]:=H
 refine H.bC 0 rfl (an (Gq s t hs _ (hx.av H.mod)) ?_)
 rintro _ w3 ⟨rfl,m3⟩
 have H:=H.frame m3
 refine aN (H.au 0 rfl (ai p 0) rfl ?_)
 show dc ((!cP t||decide (c<t.clock))||decide ((1099511627776:Int)<c)) _ _
 rw[Ez]
 by_cases h0:C=0
 case neg=>
  rw[if_neg h0]at hT hM
  subst hT hM
  refine ite_true (by rw[decide_eq_false h0];rfl) (H.cF 1 rfl rfl λw5 K=>K.bC 1 rfl ⟨sZ,[],[],[],[],by rw[h2 h0];rfl,?_⟩)
  exact(DX K).drop 2
 rw[if_pos h0]at hT hM
 subst hT hM
 refine ite_false (by rw[decide_eq_true h0];rfl) (H.bC 0 rfl (an (Gg s t hs _ (hx.av H.mod)) ?_))
 rintro _ w6 ⟨s',ys,zs,fp,fq,rfl,G⟩
 have H:=H.join G
 refine ia (H.nw λp2 w7 H _=>H.cF 9 rfl rfl λw8 H=>H.st 9 rfl (ai p2 0) (by show 0<6;omega) rfl λw9 H=>?_)
 have od:=(H.cG 7 rfl).len
 rw[gw aI.bA _ _ (H.box 8 rfl:aM cZ _ zs t.keys).1]at od
 have H:ah w [] w9 [.aj p2 ((Bn t c).cs s') aQ,.aj p1 (cQ.cs sZ) aQ,.row aE 1 s'.sec (aG t.bN),.row cD 3 s'.ten (dJ t.bn),.row cc 6 s'.gr (cw t.aL),.row dM 5 s'.ax (aO bE.cs t.ax ys),.box fp λw=>aM eY w ys t.ax,.row aW 4 s'.key (aO aI.cs t.keys zs),.box fq λw=>aM cZ w zs t.keys]:=H.bX [9,1,2,3,4,5,6,7,8] (by decide) rfl
 refine eZ 0 t.keys.length (λi (m:Int) w'=>m=(vp t.keys c i:Int)/\∃zs fq,ah w [] w' [.aj p2 ((Bn t c).cs s') aQ,.aj p1 (cQ.cs sZ) aQ,.row aE 1 s'.sec (aG t.bN),.row cD 3 s'.ten (dJ t.bn),.row cc 6 s'.gr (cw t.aL),.row dM 5 s'.ax (aO bE.cs t.ax ys),.box fp λw=>aM eY w ys t.ax,.row aW 4 s'.key (aO aI.cs (jy t.keys c i) zs),.box fq λw=>aM cZ w zs (jy t.keys c i)]) rfl (by omega) ⟨rfl,zs,fq,by rw[TJ];exact H⟩ ?_ ?_
 ·rintro again i m w9 _ hi ⟨rfl,zs,fq,K⟩ aB
  have ja:(jy t.keys c i)[i]? = some (t.keys.getD i kz):=by rw[Cf _ _ _ _ hi,if_neg (by omega)]
  have hE:aM cZ w9 zs (jy t.keys c i):=K.box 8 rfl
  have gR:zs.length=t.keys.length:=by rw[hE.1,p7]
  have cu:zs[i]? = some (zs[i]'(by omega)):=List.getElem?_eq_getElem _
  generalize zs[i]'(by omega)=x at cu
  have hsw:=Mj hs c i (by omega)
  have bZ:=Mi (t.keys.getD i kz) c
  have q8:=sM hs hi
  have og:∀(j:Nat) (v:Value),((t.keys.getD i kz).cs x)[j]? = some v->w9.cell? (Addr.add (Addr.add (base s'.key.a) (Int.toNat (i:Int)*4)) j)=some v:=λj v hv=>by
   rw[Int.toNat_natCast]
   exact(K.cG 7 rfl).oH aI.bA ja cu hv
  have bF:s'.key.a.isSome=true/\(0:Int)<=(i:Int)/\(i:Int)<(s'.key.n:Int):=⟨(K.cG 7 rfl).pre (by omega),by omega,by omega⟩
  refine K.az 0 rfl (ai p2 4) rfl (ite_true (decide_eq_true (by show(i:Int)<(s'.key.n:Int);omega)) (K.az 0 rfl (ai p2 4) rfl ⟨bF,mC og ?_⟩))
  refine an (aaB (t.keys.getD i kz) x c (by omega) w9 (hE.2 i x _ cu ja).ay) ?_
  rintro _ cH ⟨y,rfl,hy⟩
  obtain⟨f,K⟩:=K.dz hy
  refine⟨_,rfl,jz ⟨_,rfl,rfl,K.nw λp3 eg K _=>K.cO 10 rfl rfl λfQ K=>K.az 0 rfl (ai p2 4) rfl (K.bD 10 rfl ⟨bF,?_⟩)⟩⟩
  refine K.putAt 7 rfl aI.bA (by rw[gR,p7]) (by rw[p7];exact hi) (j7 (t.keys.getD i kz) c) y (aI.jE _ y) λir K=>⟨by unfold cv;omega,by unfold cv;omega,?_⟩
  rw[Hj _ _ _ hi]at K
  refine aB _ _ ⟨by show _=((vp t.keys c i+sw (t.keys.getD i kz) c:Nat):Int);omega,zs.set i y,fq++f,?_⟩
  have K:=K.Is 8 9 (Q':=λw=>aM cZ w (zs.set i y) (jy t.keys c (i+1))) rfl rfl (by decide) λw2 h1 h2=>by
   have:=aM.put (i:=i) h1 (h2:cZ w2 y (j7 (t.keys.getD i kz) c))
   rwa [Hj _ _ _ hi]at this
  exact K.take 9
 ·rintro again m w9 ⟨rfl,zs,fq,K⟩
  refine K.az 0 rfl (ai p2 4) rfl (ite_false (decide_eq_false (by show ¬((t.keys.length:Nat):Int)<(s'.key.n:Int);omega)) (K.bC 0 rfl (K.cF 1 rfl rfl λgH K=>K.bC 1 rfl ⟨s',ys,zs,fp,fq,by rw[h0];rfl,?_⟩)))
  exact K.drop 2
end Go.Proofs.YtgjoehgomjgckaaGreatDoor
end
section
set_option linter.unusedVariables false
set_option linter.unusedSimpArgs false
namespace Go.Proofs.YtgjoehgomjgckaaGreatDoor
open Go Go.Ev Go.RowKit
set_option maxRecDepth 20000
set_option linter.unusedVariables false
theorem agI:((Pr.fieldsOf cD).toList.map λf=>(f.type,f.offset,decide (f.name= "_")))=[(aU,0,false),(aU,1,false),(BU,2,false)]:=by kernel_rfl
theorem ajL:Pr.underlying cD=some (.struct (Pr.fieldsOf cD)):=by kernel_rfl
theorem aiV:Pr.stoodInHeld cD=false:=by kernel_rfl
theorem ahR:Pr.eqGuardType Pr.depth cD=false:=by kernel_rfl
theorem ahS(a b:Int)(n:ByteArray)(w:World):(Op.equalIn 10000 cD (.agg ⟨kL a b n⟩) (.agg ⟨kL a b n⟩)).run Pr w=.ok true w:=by
 rw[show 10000=9999+1 from rfl,run_equalIn_struct w 9999 cD _ _ ajL aiV]
 refine JZ _ _ _ _ _ λf hf=>?_
 have hm:(f.type,f.offset,decide (f.name= "_"))∈((Pr.fieldsOf cD).toList.map λf=>(f.type,f.offset,decide (f.name= "_"))):=List.mem_map_of_mem hf
 rw[agI]at hm
 have hI:∀z:Int,(Op.equalIn 9999 aU (.int .i64 z) (.int .i64 z)).run Pr w=.ok true w:=λz=>by
  rw[show 9999=9998+1 from rfl,run_equalIn_int w 9998 aU .i64 .i64 z z Uy]
  simp
 have hB:∀z:ByteArray,(Op.equalIn 9999 BU (.string z) (.string z)).run Pr w=.ok true w:=λz=>by
  rw[show 9999=9998+1 from rfl,run_equalIn_string w 9998 BU z z afB]
  simp
 have q0:(Go.part aU ⟨kL a b n⟩ 0).run Pr w=.ok (.int .i64 a) w:=by kernel_rfl
 have q1:(Go.part aU ⟨kL a b n⟩ 1).run Pr w=.ok (.int .i64 b) w:=by kernel_rfl
 have q2:(Go.part BU ⟨kL a b n⟩ 2).run Pr w=.ok (.string n) w:=by kernel_rfl
 simp only[List.mem_cons,List.not_mem_nil,or_false,Prod.mk.injEq,decide_eq_false_iff_not]at hm
 rcases hm with ⟨h1,h2,h3⟩|⟨h1,h2,h3⟩|⟨h1,h2,h3⟩
 ·rw[h1,h2];exact⟨_,h3,q0,q0,hI _⟩
 ·rw[h1,h2];exact⟨_,h3,q1,q1,hI _⟩
 ·rw[h1,h2];exact⟨_,h3,q2,q2,hB _⟩
theorem ajM{a b:Int}{n:ByteArray}{w:World}{K:Bool->World->Prop}(h:K false w):IW Pr .neq cD (kL a b n) (kL a b n) w K:=by
 refine⟨.bool false,w,?_,false,rfl,h⟩
 simp only[Sem.run_bind,run_eqGuard_agg w _ _ _ _ _ _ ahR,Result.andThen,run_neq_struct,ahS]
 rfl
theorem X8(x y:ag)(l:List bL)(w:World)(hx:fk w x l)(hy:fk w y l)(hl:l.length<=1000000):Ok Pr Yv [.slice x.a x.n x.c,.slice y.a y.n y.c] w λv w'=>v=.bool true/\Mod [] w w':=by
 refine aC Tryz.func19 (L:=[(4,[(5,.int .i64)])]) ?_
 have aT:=hx.len
 have gb:=hy.len
 refine ite_false (by rw[<- aT,<- gb];simp) ?_
 refine bG 0 l.length (λi w'=>Mod [] w w') rfl (by omega) (Mod.refl _ _) ?_ ?_
 ·intro again i w1 _ hi m aB
  have m':=m.trans (Mod.drew [] w1)
  obtain⟨h1,c1⟩:=(hx.av m').at hi
  obtain⟨h2,c2⟩:=(hy.av m').at hi
  exact ite_true (decide_eq_true (by omega)) ⟨h1,Dm c1 ⟨h2,Dm c2 (ajM (ite_false rfl ⟨⟨by omega,by omega⟩,aB _ m'⟩))⟩⟩
 ·intro again w1 m
  exact ite_false (decide_eq_false (by omega)) ⟨rfl,m⟩
theorem X9(v:aR)(x y:ag)(hl:v.ak.length<=1000000)(w:World)(hx:jb w x v)(hy:jb w y v):Ok Pr Yu [.agg ⟨v.cs x⟩,.agg ⟨v.cs y⟩] w λr w'=>r=.bool true/\Mod [] w w':=by
 refine aC Tryz.func17 ?_
 refine(ah.start w).nw λp w1 H _=>H.nw λp1 w2 H _=>?_
 have H:ah w [] w2 [.aj p (v.cs x) cR,.aj p1 (v.cs y) cR]:=H
 refine H.au 0 rfl (ai p 0) rfl (H.au 1 rfl (ai p1 0) rfl (H.au 0 rfl (ai p 1) rfl (H.au 1 rfl (ai p1 1) rfl (H.au 0 rfl (ai p 2) rfl (H.au 1 rfl (ai p1 2) rfl (H.az 0 rfl (ai p 3) rfl (H.az 1 rfl (ai p1 3) rfl (ite_true (by simp) ?_))))))))
 refine an (Dk x y v.ak v.ak _ (Bytes.av hx H.mod) (Bytes.av hy H.mod) (by omega)) ?_
 rintro _ w3 ⟨rfl,m⟩
 exact aN ⟨by rw[decide_eq_true rfl],H.mod.trans m⟩
theorem YV(k:aI)(x y:ag)(hl:k.ay.length<=1000000)(fZ:∀v∈k.ay,v.ak.length<=1000000)(w:World)(hx:dD w x k.ay)(hy:dD w y k.ay):Ok Pr ZY [.agg ⟨k.cs x⟩,.agg ⟨k.cs y⟩] w λr w'=>r=.bool true/\Mod [] w w':=by
 refine aC Tryz.func20 (L:=[(4,[(5,.int .i64)])]) ?_
 have aT:=hx.len
 have gb:=hy.len
 refine(ah.start w).nw λp w1 H _=>H.nw λp1 w2 H _=>?_
 have H:ah w [] w2 [.aj p (k.cs x) aW,.aj p1 (k.cs y) aW]:=H
 refine H.au 0 rfl (ai p 0) rfl (H.au 1 rfl (ai p1 0) rfl (H.au 0 rfl (ai p 1) rfl (H.au 1 rfl (ai p1 1) rfl (H.au 0 rfl (ai p 2) rfl (H.au 1 rfl (ai p1 2) rfl (H.az 0 rfl (ai p 3) rfl (H.az 1 rfl (ai p1 3) rfl (ite_false (by rw[<- aT,<- gb];simp) ?_))))))))
 refine bG 0 k.ay.length (λi w'=>ah w [] w' [.aj p (k.cs x) aW,.aj p1 (k.cs y) aW]) rfl (by omega) H ?_ ?_
 ·intro again i w3 _ hi H aB
  have D:=H.drew
  have hv:k.ay[i]? = some (k.ay.getD i vz):=by rw[List.getD_eq_getElem?_getD,List.getElem?_eq_getElem hi];rfl
  obtain⟨h1,u1,e1,c1⟩:=Dv.at aR.bA (by omega) (hx.av D.mod) hv
  obtain⟨h2,u2,e2,c2⟩:=Dv.at aR.bA (by omega) (hy.av D.mod) hv
  refine H.az 0 rfl (ai p 3) rfl (ite_true (decide_eq_true (by omega)) (D.az 0 rfl (ai p 3) rfl ⟨h1,xp c1 (D.az 1 rfl (ai p1 3) rfl ⟨h2,xp c2 ?_⟩)⟩))
  refine an (X9 (k.ay.getD i vz) u1 u2 (fZ _ (by rw[List.getD_eq_getElem?_getD,List.getElem?_eq_getElem hi];exact List.getElem_mem hi)) _ e1 e2) ?_
  rintro _ w4 ⟨rfl,m⟩
  exact aN (ite_false rfl ⟨⟨by omega,by omega⟩,aB _ (D.frame m)⟩)
 ·intro again w3 H
  exact H.az 0 rfl (ai p 3) rfl (ite_false (decide_eq_false (by omega)) ⟨rfl,H.mod⟩)
theorem Yr(a b:Int)(x1 x2 y1 y2:ag)(l m:List B8)(hl:l.length<=1000000000)(hm:m.length<=1000000000)(w:World)(h1:Bytes w x1 l)(h2:Bytes w x2 m)(h3:Bytes w y1 l)(h4:Bytes w y2 m):Ok Pr Y0 [.agg ⟨bR a b x1 x2⟩,.agg ⟨bR a b y1 y2⟩] w λr w'=>r=.bool true/\Mod [] w w':=by
 refine aC Tryz.func13 ?_
 refine(ah.start w).nw λp w1 H _=>H.nw λp1 w2 H _=>?_
 have H:ah w [] w2 [.aj p (bR a b x1 x2) ct,.aj p1 (bR a b y1 y2) ct]:=H
 refine H.au 0 rfl (ai p 0) rfl (H.au 1 rfl (ai p1 0) rfl (H.au 0 rfl (ai p 1) rfl (H.au 1 rfl (ai p1 1) rfl (H.az 0 rfl (ai p 2) rfl (H.az 1 rfl (ai p1 2) rfl (ite_true (by simp) ?_))))))
 refine an (Dk x1 y1 l l _ (h1.av H.mod) (h3.av H.mod) (by omega)) ?_
 rintro _ w3 ⟨rfl,m3⟩
 have H:=H.frame m3
 refine aN (H.az 0 rfl (ai p 3) rfl (H.az 1 rfl (ai p1 3) rfl (ite_true (decide_eq_true rfl) ?_)))
 refine an (Dk x2 y2 m m _ (h2.av H.mod) (h4.av H.mod) (by omega)) ?_
 rintro _ w4 ⟨rfl,m4⟩
 exact aN ⟨by rw[decide_eq_true rfl],H.mod.trans m4⟩
theorem Yf(x y:ag)(l:List bE)(hl:l.length<=1000)(hk:∀p∈l,p.key.length<=1000000)(w:World)(hx:vh w x l)(hy:vh w y l):Ok Pr YI [.slice x.a x.n x.c,.slice y.a y.n y.c] w λv w'=>v=.bool true/\Mod [] w w':=by
 refine aC Tryz.func30 (L:=[(4,[(5,.int .i64)])]) ?_
 have aT:=hx.len
 have gb:=hy.len
 refine ite_false (by rw[<- aT,<- gb];simp) ?_
 refine bG 0 l.length (λi w'=>Mod [] w w') rfl (by omega) (Mod.refl _ _) ?_ ?_
 ·intro again i w1 _ hi m aB
  have m':=m.trans (Mod.drew [] w1)
  obtain⟨h1,u1,e1,c1⟩:=(hx.av m').at hi
  obtain⟨h2,u2,e2,c2⟩:=(hy.av m').at hi
  refine ite_true (decide_eq_true (by omega)) ⟨h1,_,c1 0 _ rfl,h2,_,c2 0 _ rfl,ite_false (by simp) ⟨h1,_,c1 1 _ rfl,h2,_,c2 1 _ rfl,ite_false (by simp) ⟨h1,_,c1 3 _ rfl,h2,_,c2 3 _ rfl,ite_false (by simp) ⟨h1,_,c1 4 _ rfl,h2,_,c2 4 _ rfl,ite_false (by simp) ⟨h1,u1,c1 2 _ rfl,h2,u2,c2 2 _ rfl,?_⟩⟩⟩⟩⟩
  refine an (Dk u1 u2 _ _ _ e1 e2 (Nat.lt_of_le_of_lt (hk _ (by rw[List.getD_eq_getElem?_getD,List.getElem?_eq_getElem hi];exact List.getElem_mem hi)) (by omega))) ?_
  rintro _ w2 ⟨rfl,m2⟩
  exact aN (ite_false (by simp) ⟨⟨by omega,by omega⟩,aB _ (m'.trans m2)⟩)
 ·intro again w1 m
  exact ite_false (decide_eq_false (by omega)) ⟨rfl,m⟩
end Go.Proofs.YtgjoehgomjgckaaGreatDoor
end
section
set_option linter.unusedVariables false
set_option linter.unusedSimpArgs false
namespace Go.Proofs.YtgjoehgomjgckaaGreatDoor
open Go Go.Ev
set_option maxRecDepth 20000
set_option linter.unusedVariables false
theorem JD(s1 s2:bW)(t:aH)(hs:t.small)(w:World)(hx:dF w s1 t)(hy:dF w s2 t):Ok Pr YZ [.agg ⟨t.cs s1⟩,.agg ⟨t.cs s2⟩] w λv w'=>v=.bool true/\Mod [] w w':=by
 refine aC Tryz.func12 (J:=[(3,[])]) (L:=[(4,[(5,.int .i64)])]) ?_
 have vf:=hs.sec
 have sy:=hs.ten
 have sA:=hs.ax
 have nS:=hs.key
 have sB:=hs.gr
 have mo:=hx.key.len
 have kF:=hy.key.len
 refine(ah.start w).nw λp w1 H _=>H.nw λp1 w2 H _=>?_
 have H:ah w [] w2 [.aj p (t.cs s1) aQ,.aj p1 (t.cs s2) aQ]:=H
 refine gi λgo aV=>?_
 refine H.au 0 rfl (ai p 0) rfl (H.au 1 rfl (ai p1 0) rfl (H.az 0 rfl (ai p 1) rfl (H.az 1 rfl (ai p1 1) rfl (ite_false (by simp) ?_))))
 refine an (Dk s1.sec s2.sec t.bN t.bN _ (Bytes.av hx.sec H.mod) (Bytes.av hy.sec H.mod) (by omega)) ?_
 rintro _ w6 ⟨rfl,m6⟩
 have H:=H.frame m6
 refine aN (H.az 0 rfl (ai p 2) rfl (H.az 1 rfl (ai p1 2) rfl (ite_false (by simp) ?_)))
 refine an (X8 s1.ten s2.ten t.bn _ (hx.ten.av H.mod) (hy.ten.av H.mod) (by omega)) ?_
 rintro _ w7 ⟨rfl,m7⟩
 have H:=H.frame m7
 refine aN (H.az 0 rfl (ai p 3) rfl (H.az 1 rfl (ai p1 3) rfl (ite_false rfl ?_)))
 refine an (Yf s1.ax s2.ax t.ax sA hs.pk _ (hx.ax.av H.mod) (hy.ax.av H.mod)) ?_
 rintro _ w8 ⟨rfl,m8⟩
 have H:=H.frame m8
 refine aN (H.az 0 rfl (ai p 4) rfl (H.az 1 rfl (ai p1 4) rfl (H.az 0 rfl (ai p 5) rfl (H.az 1 rfl (ai p1 5) rfl (ite_false (by rw[<- mo,<- kF];simp) ?_)))))
 refine an (Yd s1.gr s2.gr t.aL _ (hx.gr.av H.mod) (hy.gr.av H.mod) (by omega)) ?_
 rintro _ w9 ⟨rfl,m9⟩
 have H:=H.frame m9
 refine aN (ite_false rfl (aV w9 ?_))
 refine bG 0 t.keys.length (λi w'=>ah w [] w' [.aj p (t.cs s1) aQ,.aj p1 (t.cs s2) aQ]) rfl (by omega) H ?_ ?_
 ·intro again i w4 _ hi H aB
  have D:=H.drew
  obtain⟨h1,u1,e1,c1⟩:=(hx.key.av D.mod).at hi
  obtain⟨h2,u2,e2,c2⟩:=(hy.key.av D.mod).at hi
  have q8:=sM hs hi
  refine H.az 0 rfl (ai p 4) rfl (ite_true (decide_eq_true (by omega)) (D.az 0 rfl (ai p 4) rfl ⟨h1,mC c1 (D.az 1 rfl (ai p1 4) rfl ⟨h2,mC c2 ?_⟩)⟩))
  refine an (YV (t.keys.getD i kz) u1 u2 (by omega) (hs.ak _ (by rw[List.getD_eq_getElem?_getD,List.getElem?_eq_getElem hi];exact List.getElem_mem hi)) _ e1 e2) ?_
  rintro _ w5 ⟨rfl,m5⟩
  exact aN (ite_false rfl ⟨⟨by omega,by omega⟩,aB _ (D.frame m5)⟩)
 ·intro again w4 H
  exact H.az 0 rfl (ai p 4) rfl (ite_false (decide_eq_false (by omega)) ⟨rfl,H.mod⟩)
def Ml(k:aI):Prop:=k.ay.length<=8/\∀v∈k.ay,v.ak.length<=100
theorem Zh(k:aI)(x:ag)(w:World)(hx:dD w x k.ay):Ok Pr Zk [.agg ⟨k.cs x⟩] w λv w'=>∃b,v=.bool b/\Mod [] w w'/\(b=false->Ml k):=by
 refine aC Tryz.func38 (L:=[(2,[(3,.int .i64)])]) ?_
 have aT:=hx.len
 refine(ah.start w).nw λp w1 H _=>?_
 have H:ah w [] w1 [.aj p (k.cs x) aW]:=H
 by_cases h8:k.ay.length<=8
 case neg=>
  refine qA (λi w'=>ah w [] w' [.aj p (k.cs x) aW]) (λ_ _=>0) H ?_
  intro again i w2 H aB
  refine H.az 0 rfl (ai p 3) rfl (H.az 0 rfl (ai p 3) rfl (ite_false ?_ (H.az 0 rfl (ai p 3) rfl ⟨_,rfl,H.mod,λh=>?_⟩)))
  ·rw[show decide ((x.n:Int)<=8)=false from decide_eq_false (by omega),Bool.and_false]
  ·rw[decide_eq_true (show(8:Int)<(x.n:Int) by omega)]at h;cases h
 refine bG 0 k.ay.length (λi w'=>ah w [] w' [.aj p (k.cs x) aW]/\∀j,j<i->(k.ay.getD j vz).ak.length<=100) rfl (by omega) ⟨H,λj h=>by omega⟩ ?_ ?_
 ·rintro again i w2 _ hi ⟨H,uN⟩ aB
  have hv:k.ay[i]? = some (k.ay.getD i vz):=by rw[List.getD_eq_getElem?_getD,List.getElem?_eq_getElem hi];rfl
  obtain⟨h1,u1,e1,c1⟩:=Dv.at aR.bA (by omega) (hx.av H.mod) hv
  have iR:=Bytes.len (e1:Bytes w2 u1 (k.ay.getD i vz).ak)
  refine H.az 0 rfl (ai p 3) rfl (H.az 0 rfl (ai p 3) rfl (ite_true ?_ (H.az 0 rfl (ai p 3) rfl ⟨h1,u1,c1 3 _ rfl,aZ (λh=>⟨true,rfl,H.mod,λh=>by cases h⟩) λh=>⟨⟨by omega,by omega⟩,aB _ ⟨H,λj hj=>?_⟩⟩⟩)))
  ·rw[decide_eq_true (show(i:Int)<(x.n:Int) by omega),decide_eq_true (show(x.n:Int)<=8 by omega)];rfl
  ·rcases Nat.lt_or_ge j i with h2|h2
   ·exact uN j h2
   ·have:=of_decide_eq_false h
    rw[show j=i by omega]
    omega
 ·rintro again w2 ⟨H,uN⟩
  refine H.az 0 rfl (ai p 3) rfl (H.az 0 rfl (ai p 3) rfl (ite_false ?_ (H.az 0 rfl (ai p 3) rfl ⟨_,rfl,H.mod,λ_=>⟨h8,λv hv=>?_⟩⟩)))
  ·rw[decide_eq_false (show ¬((k.ay.length:Nat):Int)<(x.n:Int) by omega),Bool.false_and]
  ·obtain⟨j,hj,e⟩:=List.getElem_of_mem hv
   have:=uN j hj
   rw[List.getD_eq_getElem?_getD,List.getElem?_eq_getElem hj]at this
   simpa[e]using this
structure Jy(t:aH):Prop where
 sec:t.bN.length<=100
 ten:t.bn.length<=12
 ax:t.ax.length<=12
 key:t.keys.length<=12
 gr:t.aL.length<=12
 name:∀e∈t.bn,e.name.size<=400
 vk:∀p∈t.ax,p.key.length<=3000
 aJ:∀k∈t.keys,Ml k
theorem Jy.small{t:aH}(h:Jy t)(hf:∀g∈t.aL,g.fit):t.small where
 sec:=Nat.le_trans h.sec (by omega)
 ten:=Nat.le_trans h.ten (by omega)
 ax:=Nat.le_trans h.ax (by omega)
 key:=Nat.le_trans h.key (by omega)
 gr:=Nat.le_trans h.gr (by omega)
 pk:=λp hp=>Nat.le_trans (h.vk p hp) (by omega)
 aJ:=λk hk=>Nat.le_trans (h.aJ k hk).1 (by omega)
 ak:=λk hk v hv=>Nat.le_trans ((h.aJ k hk).2 v hv) (by omega)
 gf:=hf
theorem HL{A:Type}{l:List A}{d:A}{P:A->Prop}(h:∀j,j<l.length->P (l.getD j d)):∀a∈l,P a:=λa ha=>by
 obtain⟨j,hj,e⟩:=List.getElem_of_mem ha
 have:=h j hj
 rw[List.getD_eq_getElem?_getD,List.getElem?_eq_getElem hj]at this
 simpa[e]using this
theorem YC(s:bW)(t:aH)(w:World)(hx:dF w s t):Ok Pr YH [.agg ⟨t.cs s⟩] w λv w'=>∃b,v=.bool b/\Mod [] w w'/\(b=false->Jy t):=by
 refine aC Tryz.func21 (L:=[(4,[(3,.int .i64)]),(9,[(4,.int .i64)]),(14,[(5,.int .i64)])]) ?_
 have Jq:=Bytes.len hx.sec
 have vi:=hx.ten.len
 have mB:=hx.ax.len
 have od:=hx.key.len
 have Bk:=hx.gr.len
 refine(ah.start w).nw λp w1 H _=>?_
 have H:ah w [] w1 [.aj p (t.cs s) aQ]:=H
 refine H.az 0 rfl (ai p 1) rfl (H.az 0 rfl (ai p 2) rfl (H.az 0 rfl (ai p 3) rfl (H.az 0 rfl (ai p 4) rfl (H.az 0 rfl (ai p 5) rfl (aZ (λh=>⟨true,rfl,H.mod,λh=>by cases h⟩) λuN=>?_)))))
 simp only[Bool.or_eq_false_iff,decide_eq_false_iff_not]at uN
 have bad:∀ {w':World},ah w [] w' [.aj p (t.cs s) aQ]->(λ(v:Value) (w':World)=>∃b,v=.bool b/\Mod [] w w'/\(b=false->Jy t)) (.bool true) w':=λK=>⟨true,rfl,K.mod,λh=>by cases h⟩
 refine bG 0 t.bn.length (λi w'=>ah w [] w' [.aj p (t.cs s) aQ]/\∀j,j<i->(t.bn.getD j tz).name.size<=400) rfl (by omega) ⟨H,λj h=>by omega⟩ ?_ ?_
 ·rintro again i w2 _ hi ⟨H,hl⟩ aB
  obtain⟨k1,c1⟩:=(hx.ten.av H.mod).at hi
  refine H.az 0 rfl (ai p 2) rfl (ite_true (decide_eq_true (by omega)) (H.az 0 rfl (ai p 2) rfl ⟨k1,_,c1 2 _ rfl,aZ (λh=>bad H) λh=>⟨⟨by omega,by omega⟩,aB _ ⟨H,λj hj=>?_⟩⟩⟩))
  have:=of_decide_eq_false h
  rcases Nat.lt_or_ge j i with h2|h2
  ·exact hl j h2
  ·rw[show j=i by omega];omega
 rintro again w2 ⟨H,Oa⟩
 refine H.az 0 rfl (ai p 2) rfl (ite_false (decide_eq_false (by omega)) ?_)
 refine bG 0 t.ax.length (λi w'=>ah w [] w' [.aj p (t.cs s) aQ]/\∀j,j<i->(t.ax.getD j dK).key.length<=3000) rfl (by omega) ⟨H,λj h=>by omega⟩ ?_ ?_
 ·rintro again i w2 _ hi ⟨H,hl⟩ aB
  obtain⟨k1,u1,e1,c1⟩:=(hx.ax.av H.mod).at hi
  have iR:=e1.len
  refine H.az 0 rfl (ai p 3) rfl (ite_true (decide_eq_true (by omega)) (H.az 0 rfl (ai p 3) rfl ⟨k1,u1,c1 2 _ rfl,aZ (λh=>bad H) λh=>⟨⟨by omega,by omega⟩,aB _ ⟨H,λj hj=>?_⟩⟩⟩))
  have:=of_decide_eq_false h
  rcases Nat.lt_or_ge j i with h2|h2
  ·exact hl j h2
  ·rw[show j=i by omega];omega
 rintro again w3 ⟨H,tD⟩
 refine H.az 0 rfl (ai p 3) rfl (ite_false (decide_eq_false (by omega)) ?_)
 refine bG 0 t.keys.length (λi w'=>ah w [] w' [.aj p (t.cs s) aQ]/\∀j,j<i->Ml (t.keys.getD j kz)) rfl (by omega) ⟨H,λj h=>by omega⟩ ?_ ?_
 ·rintro again i w2 _ hi ⟨H,hl⟩ aB
  obtain⟨k1,u1,e1,c1⟩:=(hx.key.av H.mod).at hi
  refine H.az 0 rfl (ai p 4) rfl (ite_true (decide_eq_true (by omega)) (H.az 0 rfl (ai p 4) rfl ⟨k1,mC c1 (an (Zh (t.keys.getD i kz) u1 _ e1) ?_)⟩))
  rintro _ w5 ⟨b,rfl,m,hb⟩
  have H:=H.frame m
  refine aN ?_
  cases b with
  |true=>exact ite_true rfl (bad H)
  |false=>
   refine ite_false rfl ⟨⟨by omega,by omega⟩,aB _ ⟨H,λj hj=>?_⟩⟩
   rcases Nat.lt_or_ge j i with h2|h2
   ·exact hl j h2
   ·rw[show j=i by omega];exact hb rfl
 rintro again w4 ⟨H,zg⟩
 exact H.az 0 rfl (ai p 4) rfl (ite_false (decide_eq_false (by omega)) ⟨false,rfl,H.mod,λ_=>⟨by omega,by omega,by omega,by omega,by omega,HL Oa,HL tD,HL zg⟩⟩)
def fT:aH:=FW CW (List.replicate 1312 0) (List.replicate 32 0)
def AT(w w':World)(v:Value)(T:aH):Prop:=∃s ys zs fp fq,v=.agg ⟨T.cs s⟩/\ah w [] w' (cJ s T ys zs fp fq)
theorem P1(w:World):Ok Pr P9 [] w λv w'=>AT w w' v fT:=by
 refine aC Tryz.func10 ?_
 rw[oB]
 have first:∀(x y:ag) (w3:World),Bytes w3 x (List.replicate 1312 0)->Bytes w3 y (List.replicate 32 0)->Ok Pr Gb [.string CW,.slice x.a x.n x.c,.slice y.a y.n y.c] w3 λv w'=>∃c,Wj w3 w' v fT [.int .i64 c] []:=λx y w3 h1 h2=>by
  refine(aaz CW x y _ _ (by simp) (by simp) w3 h1 h2).mono ?_
  intro v w' h
  exact⟨_,h⟩
 generalize fT=T at*
 refine(ah.start w).nw λp w1 H _=>?_
 have H:ah w [] w1.drew [.aj p (cQ.cs sZ) aQ]:=H.drew
 have post:∀ {w5:World} {p2:Nat} {s:bW} {ys zs:List ag} {fp fq:List Nat},ah w [] w5 ([.aj p (cQ.cs sZ) aQ,.aj p2 (cQ.cs sZ) aQ]++cJ s T ys zs fp fq)->
   cF ⟨p2,0,none⟩ T.clock s.sec s.ten s.ax s.key s.gr w5 λw6=>bC ⟨p2,0,none⟩ w6 λf0 f1 f2 f3 f4 f5=>cF ⟨p,0,none⟩ f0 f1 f2 f3 f4 f5 w6 λw7=>bC ⟨p,0,none⟩ w7 λg0 g1 g2 g3 g4 g5=>
    AT w w7 (.agg ⟨[.int .i64 g0,.slice g1.a g1.n g1.c,.slice g2.a g2.n g2.c,.slice g3.a g3.n g3.c,.slice g4.a g4.n g4.c,.slice g5.a g5.n g5.c]⟩) T:=by
  intro w5 p2 s ys zs fp fq K
  exact K.cF 1 rfl rfl λw6 K=>K.bC 1 rfl (K.cF 0 rfl rfl λw7 K=>K.bC 0 rfl ⟨s,ys,zs,fp,fq,rfl,K.drop 2⟩)
 have CG:∀ {w8:World} {p2:Nat} {x y:ag},ah w [] w8 [.aj p (cQ.cs sZ) aQ,.aj p2 (cQ.cs sZ) aQ,.row aE 1 x (aG (List.replicate 1312 0)),.row aE 1 y (aG (List.replicate 32 0))]->
   ek Pr Gb [.string CW,.slice x.a x.n x.c,.slice y.a y.n y.c] w8 λv w9=>ny.vW v λvs=>bM vs λv1 r=>xx v1 λt0 t1 t2 t3 t4 t5=>bM r λv2 r2=>cY .i64 v2 λn=>(r2=[]/\
   cF ⟨p2,0,none⟩ t0 t1 t2 t3 t4 t5 w9 λw6=>bC ⟨p2,0,none⟩ w6 λf0 f1 f2 f3 f4 f5=>cF ⟨p,0,none⟩ f0 f1 f2 f3 f4 f5 w6 λw7=>bC ⟨p,0,none⟩ w7 λg0 g1 g2 g3 g4 g5=>
    AT w w7 (.agg ⟨[.int .i64 g0,.slice g1.a g1.n g1.c,.slice g2.a g2.n g2.c,.slice g3.a g3.n g3.c,.slice g4.a g4.n g4.c,.slice g5.a g5.n g5.c]⟩) T):=by
  intro w8 p2 x y K
  refine an (first x y w8 (Own.bytes (K.l8 2 rfl)) (Own.bytes (K.l8 3 rfl))) ?_
  rintro _ w9 ⟨c,s,ys,zs,fp,fq,rfl,G⟩
  have K:=K.join G
  refine⟨_,rfl,ia ⟨_,rfl,rfl,post (ys:=ys) (zs:=zs) (fp:=fp) (fq:=fq) ?_⟩⟩
  exact K.bX [0,1,4,5,6,7,8,9,10] (by decide) rfl
 have VN:∀ {w8:World} {x y:ag},ah w [] w8 [.aj p (cQ.cs sZ) aQ,.row aE 1 x (aG (List.replicate 1312 0)),.row aE 1 y (aG (List.replicate 32 0))]->
   ek Pr Gb [.string CW,.slice x.a x.n x.c,.slice y.a y.n y.c] w8 λv w4=>ny.vW v λvs=>bM vs λv1 r=>xx v1 λt0 t1 t2 t3 t4 t5=>bM r λv2 r2=>cY .i64 v2 λn=>(r2=[]/\
   nw aQ (cQ.cs sZ) w4 λa w9=>cF a t0 t1 t2 t3 t4 t5 w9 λw6=>bC a w6 λf0 f1 f2 f3 f4 f5=>cF ⟨p,0,none⟩ f0 f1 f2 f3 f4 f5 w6 λw7=>bC ⟨p,0,none⟩ w7 λg0 g1 g2 g3 g4 g5=>
    AT w w7 (.agg ⟨[.int .i64 g0,.slice g1.a g1.n g1.c,.slice g2.a g2.n g2.c,.slice g3.a g3.n g3.c,.slice g4.a g4.n g4.c,.slice g5.a g5.n g5.c]⟩) T):=by
  intro w8 x y K
  refine an (first x y w8 (Own.bytes (K.l8 1 rfl)) (Own.bytes (K.l8 2 rfl))) ?_
  rintro _ w9 ⟨c,s,ys,zs,fp,fq,rfl,G⟩
  have K:=K.join G
  refine⟨_,rfl,ia ⟨_,rfl,rfl,K.nw λp2 bP K _=>post (ys:=ys) (zs:=zs) (fp:=fp) (fq:=fq) ?_⟩⟩
  exact K.bX [0,10,3,4,5,6,7,8,9] (by decide) rfl
 have z8:zc Pr aE=[.int .u8 0]:=by kernel_rfl
 refine⟨?_,?_,?_⟩
 ·refine H.tB cg z8 rfl rfl (by decide) λx w2 H _=>⟨H.tB cg z8 rfl rfl (by decide) λy w3 H _=>⟨VN H,H.nw λp2 w8 H _=>CG (H.bX [0,3,1,2] (by decide) rfl)⟩,H.nw λp2 w8 H _=>H.tB cg z8 rfl rfl (by decide) λy w3 H _=>CG (H.bX [0,2,1,3] (by decide) rfl)⟩
 ·refine H.tB cg z8 rfl rfl (by decide) λy w2 H _=>⟨H.tB cg z8 rfl rfl (by decide) λx w3 H _=>⟨VN (H.bX [0,2,1] (by decide) rfl),H.nw λp2 w8 H _=>CG (H.bX [0,3,2,1] (by decide) rfl)⟩,H.nw λp2 w8 H _=>H.tB cg z8 rfl rfl (by decide) λx w3 H _=>CG (H.bX [0,2,3,1] (by decide) rfl)⟩
 ·refine H.nw λp2 w8 H _=>⟨H.tB cg z8 rfl rfl (by decide) λx w2 H _=>H.tB cg z8 rfl rfl (by decide) λy w3 H _=>CG H,H.tB cg z8 rfl rfl (by decide) λy w2 H _=>H.tB cg z8 rfl rfl (by decide) λx w3 H _=>CG (H.bX [0,1,3,2] (by decide) rfl)⟩
def a0:aY:=⟨1,1,1,1,0,0,0,0,0,0,0,S_a,⟨none,0,0⟩,⟨none,0,0⟩⟩
theorem aw1:dC a0 [] [] [] fT=0:=by kernel_rfl
theorem aw2:(dR a0 [] [] [] fT).id=2:=by kernel_rfl
theorem aw3:(dT a0 [] [] [] fT).bn.length=2:=by kernel_rfl
theorem aw4:dC a0 [] [] [] (dT a0 [] [] [] fT)=8:=by kernel_rfl
theorem aw5:ku (dT a0 [] [] [] fT) 9=0:=by kernel_rfl
theorem aw6:yq (dT a0 [] [] [] fT) 9=0:=by kernel_rfl
theorem aw7:(oM (dT a0 [] [] [] fT) 9).clock=9:=by kernel_rfl
def sC(k:aI):Prop:=k.ay.length<=1000/\∀v∈k.ay,v.ak.length<=1000000
theorem Ct:sC kz:=⟨by show 0<=1000;omega,λv hv=>by cases hv⟩
theorem aiW{id ten set:Int}{ak:List B8}(h:ak.length<=1000000):sC (kY id ten set ak):=by
 unfold kY
 split
 ·exact⟨by show 1<=1000;omega,λv hv=>by rw[List.mem_singleton.1 hv];exact h⟩
 ·exact Ct
theorem aiX{k:aI}{ak:List B8}(hk:sC k)(h:ak.length<=1000000):sC (fK k ak):=by
 by_cases h0:kZ k ak.length=0
 ·obtain⟨h1,h2⟩:=Lq h0
  obtain⟨_,_,_,h5,_⟩:=rE h1
  refine⟨by omega,λv hv=>?_⟩
  rw[h2]at hv
  rcases List.mem_append.1 hv with h3|h3
  ·exact hk.2 v h3
  ·rw[List.mem_singleton.1 h3];exact h
 ·unfold fK;rw[if_neg h0];exact Ct
theorem Hl{A:Type}{l:List A}{i:Nat}{d:A}:l.getD i d∈l\/l.getD i d=d:=by
 rw[List.getD_eq_getElem?_getD]
 rcases Nat.lt_or_ge i l.length with h|h
 ·rw[List.getElem?_eq_getElem h];exact .inl (List.getElem_mem h)
 ·rw[List.getElem?_eq_none h];exact .inr rfl
theorem G8{t:aH}(hs:t.small):∀k∈t.keys,sC k:=λk hk=>⟨hs.aJ k hk,hs.ak k hk⟩
theorem aiY{k:aI}{op aJ bU clock:Int}(hk:sC k):sC (mc k op aJ bU clock):=by
 unfold mc
 split
 ·refine⟨by show(k.ay.set _ _).length<=1000;rw[List.length_set];exact hk.1,λv hv=>?_⟩
  rcases List.mem_or_eq_of_mem_set hv with h|h
  ·exact hk.2 v h
  ·rw[h]
   show(k.ay.getD (aJ - 1).toNat vz).ak.length<=1000000
   rcases Hl (l:=k.ay) (i:=(aJ - 1).toNat) (d:=vz)with h2|h2
   ·exact hk.2 _ h2
   ·rw[h2];exact Nat.zero_le _
 ·exact Ct
theorem ajN{k:aI}{c:Int}(hk:sC k):sC (j7 k c):=by
 unfold j7
 split
 ·refine⟨by show(k.ay.map _).length<=1000;rw[List.length_map];exact hk.1,λv hv=>?_⟩
  obtain⟨u,hu,rfl⟩:=List.mem_map.1 hv
  unfold gT
  split
  ·exact Nat.zero_le _
  ·exact hk.2 u hu
 ·exact Ct
theorem aiZ(ts:List bL)(par:Int)(name:ByteArray):(qh ts par name).length<=1000:=by
 unfold qh
 split
 ·rename_i h
  have hm:gE ts=true:=by
   unfold k5 at h
   split at h
   ·assumption
   ·omega
  unfold gE at hm
  rw[Bool.and_eq_true,decide_eq_true_eq]at hm
  rw[List.length_append,List.length_singleton]
  omega
 ·exact Nat.zero_le _
theorem ahT{l:List bu}{g:bu}(h:kD l g=0):fy l=true:=by
 unfold kD at h
 split at h
 ·rename_i h2;exact h2.1
 ·omega
theorem afP{q:aY}{t:aH}(hs:t.small)(hf:(eD q).fit):(qV q t).aL.length<=1000/\∀g∈(qV q t).aL,g.fit:=by
 show(if q.n2=13 then jq t.aL q.n7 else iB t.aL (eD q)).length<=1000/\∀g∈(if q.n2=13 then jq t.aL q.n7 else iB t.aL (eD q)),g.fit
 split
 ·unfold jq
  split
  ·rw[List.length_set]
   refine⟨hs.gr,λg hg=>?_⟩
   rcases List.mem_or_eq_of_mem_set hg with h|h
   ·exact hs.gf g h
   ·rw[h]
    show -9223372036854775808<=(t.aL.getD (q.n7 - 1).toNat gz).n3
    rcases Hl (l:=t.aL) (i:=(q.n7 - 1).toNat) (d:=gz)with h2|h2
    ·exact hs.gf _ h2
    ·rw[h2];decide
  ·exact⟨Nat.zero_le _,λg hg=>by cases hg⟩
 ·unfold iB
  split
  ·rename_i h
   have:=LP (ahT h)
   rw[List.length_append,List.length_singleton]
   refine⟨by omega,λg hg=>?_⟩
   rcases List.mem_append.1 hg with h2|h2
   ·exact hs.gf g h2
   ·rw[List.mem_singleton.1 h2];exact hf
  ·exact⟨Nat.zero_le _,λg hg=>by cases hg⟩
theorem KT{t:aH}(hs:t.small){ks:List aI}(hl:ks.length<=1000)(h:∀k∈ks,sC k):({ t with keys:=ks }:aH).small:=
 { hs with key:=hl,aJ:=λk hk=>(h k hk).1,ak:=λk hk=>(h k hk).2 }
theorem agJ{q:aY}{lb ak:List B8}{t:aH}(hf:Fit q t)(hg:(eD q).fit)(uU:lb.length<=1000000)(bZ:ak.length<=1000000):(hO q lb ak t).small:=by
 have hs:=hf.small
 have Xv:=hf.ax
 have Xw:=hf.key
 unfold hO
 split
 ·exact { hs with ten:=aiZ _ _ _ }
 split
 ·refine { hs with ax:=?_,pk:=λp hp=>?_ }
  ·show(t.ax++[k6 q lb t]).length<=1000
   rw[List.length_append,List.length_singleton];omega
  ·rcases List.mem_append.1 (show p∈t.ax++[k6 q lb t] from hp)with h|h
   ·exact hs.pk p h
   ·rw[List.mem_singleton.1 h];exact uU
 split
 ·refine KT hs (by rw[List.length_append,List.length_singleton];omega) λk hk=>?_
  rcases List.mem_append.1 hk with h|h
  ·exact G8 hs k h
  ·rw[List.mem_singleton.1 h];exact aiW bZ
 split
 ·exact hs
 split
 ·obtain⟨h1,h2⟩:=afP hs hg
  exact { hs with gr:=h1,gf:=h2 }
 ·refine KT hs (by rw[List.length_set];exact hs.key) λk hk=>?_
  rcases List.mem_or_eq_of_mem_set hk with h|h
  ·exact G8 hs k h
  ·have tS:sC (bh q t):=by
    unfold bh
    rcases Hl (l:=t.keys) (i:=(q.n4 - 1).toNat) (d:=kz)with h2|h2
    ·exact G8 hs _ h2
    ·rw[h2];exact Ct
   rw[h]
   unfold yL
   split
   ·exact aiX tS bZ
   ·exact aiY tS
theorem RW:cQ.small:=⟨Nat.zero_le _,Nat.zero_le _,Nat.zero_le _,Nat.zero_le _,Nat.zero_le _,λp h=>(by cases h),λp h=>(by cases h),λp h=>(by cases h),λp h=>(by cases h)⟩
theorem Lr{q:aY}{lb lt ak:List B8}{t:aH}(hs:t.small)(uU:lb.length<=1000000)(bZ:ak.length<=1000000):(dT q lb lt ak t).small:=by
 unfold dT
 split
 ·rename_i h
  have h0:qi q lt t=0:=by
   unfold dC at h
   split at h
   ·assumption
   ·rename_i h2;exact absurd h h2
  have hq:=(G7 h0).2.1
  have hg:(eD q).fit:=by
   have:=KC hq q.n9 (by simp[aY.rest])
   show -9223372036854775808<=q.n9
   omega
  exact agJ (TI hs h0) hg uU bZ
 ·exact RW
theorem Rk{t:aH}{c:Int}(hs:t.small):(oM t c).small:=by
 unfold oM
 split
 ·have h:=KT hs (ks:=jy t.keys c t.keys.length) (by rw[p7];exact hs.key) λk hk=>by
   unfold jy at hk
   obtain⟨j,hj,rfl⟩:=List.mem_map.1 hk
   have Xy:sC (t.keys.getD j kz):=by
    rcases Hl (l:=t.keys) (i:=j) (d:=kz)with h2|h2
    ·exact G8 hs _ h2
    ·rw[h2];exact Ct
   split
   ·exact ajN Xy
   ·exact Xy
  exact { h with }
 ·exact RW
theorem TK:fT.small:=by
 have e:fT=lE CW (List.replicate 1312 0) (List.replicate 32 0):=by
  unfold fT FW
  rw[if_pos (by kernel_rfl)]
 rw[e]
 exact KR (by simp) (by simp)
theorem P2(w:World)(hg:Laid w):Ok Pr JT [] w λv w'=>v=.bool true/\Mod [] w w':=by
 refine aC Tryz.func9 (J:=[(3,[(2,.eX),(3,.eX),(4,.val)])]) ?_
 rw[oB,pZ]
 have hf:=TK
 have h1:=aw1
 have h2:=aw2
 have h3:=aw3
 have h4:=aw4
 have h5:=aw5
 have h6:=aw6
 have h7:=aw7
 have hT:=Lr (q:=a0) (lb:=[]) (lt:=[]) (ak:=[]) hf (by simp) (by simp)
 generalize eT0:fT=T0 at*
 refine(ah.start w).nw λp w1 H _=>H.GI 0 rfl (by kernel_rfl) λw2 H=>?_
 have H:ah w [] w2 [.aj p a0.cells iu]:=H
 refine Tg λgo aV=>?_
 have main:∀ {pt pr:Nat} {er:Value} {w8:World} {s:bW} {ys zs:List ag} {fp fq:List Nat} {y z:ag},ah w [] w8 ([.aj p a0.cells iu,.aj pt ((dT a0 [] [] [] T0).cs s) aQ,.aj pr (bR 0 2 y z) ct,aA.err er 0]++cJ s (dT a0 [] [] [] T0) ys zs fp fq)->go ⟨pt,0,none⟩ ⟨pr,0,none⟩ er w8:=by
  intro pt pr er w8 s ys zs fp fq y z K
  have hx:dF w8 s (dT a0 [] [] [] T0):=nu (L:=[_,_,_,_]) K
  have htn:=hx.ten.len
  have C3:∀w',Bytes w' ⟨none,0,0⟩ []:=λw'=>Sl.nil w' 1
  refine aV _ _ _ _ (K.bC 1 rfl (K.kM 0 rfl (an (KD s (dT a0 [] [] [] T0) a0 [] [] ⟨none,0,0⟩ [] hT (by simp) w8 (hg.nH K (by simp)) hx (C3 _) (C3 _) (C3 _)) ?_)))
  rintro _ w4 ⟨s2,gu,zs2,de,iJ,y2,z2,Oq,rfl,G⟩
  rw[h4]at G⊢
  have K:=K.join G
  generalize dT a0 [] [] [] (dT a0 [] [] [] T0)=T2 at*
  generalize (dR a0 [] [] [] (dT a0 [] [] [] T0))=R2 at*
  refine⟨_,rfl,ia (tX ⟨rfl,K.nw λp1 w5 K _=>K.nw λp2 w6 K _=>K.cF 21 rfl rfl λw7 K=>K.dm 22 rfl rfl λw8 K=>K.bC 1 rfl ?_⟩)⟩
  refine an (Qo s (dT a0 [] [] [] T0) 9 hT w8 (nu (L:=[_,_,_,_]) (K.take 11))) ?_
  rintro _ w9 ⟨s3,ys3,zs3,fp3,fq3,er3,rfl,G3⟩
  rw[h5]at G3
  rw[h6]
  have K:=K.join G3
  refine⟨_,rfl,ia ⟨_,rfl,rfl,K.nw λp3 bP K _=>K.cF 31 rfl rfl λbQ K=>?_⟩⟩
  have e0:ig bQ er 0:=K.ok 3 _ rfl
  have e2:ig bQ Oq 8:=K.ok 20 _ rfl
  have e3:ig bQ er3 0:=K.ok 30 _ rfl
  refine e0.isNil (K.au 2 rfl (ai pr 1) rfl (K.az 1 rfl (ai pt 2) rfl (ite_true ?_ (an (Gj Oq 8 bQ (hg.nH K (by simp)) e2) ?_))))
  ·rw[show((s.ten.n:Nat):Int)=2 by omega];rfl
  rintro _ cH ⟨rfl,gC⟩
  have K:=K.frame gC
  refine bH (K.au 22 rfl (ai p2 0) rfl (ite_true (by decide) ((e3.mod gC).isNil (K.au 31 rfl (ai p3 0) rfl ⟨?_,K.mod⟩))))
  rw[h7];rfl
 have fin:∀ {pt pr:Nat} {er:Value} {w5:World} {s:bW} {ys zs:List ag} {fp fq:List Nat} {y z:ag},ah w [] w5 [.aj p a0.cells iu,.aj pt (cQ.cs sZ) aQ,.aj pr (bR 0 0 ⟨none,0,0⟩ ⟨none,0,0⟩) ct,aA.err er 0,.row aE 1 s.sec (aG (dT a0 [] [] [] T0).bN),.row cD 3 s.ten (dJ (dT a0 [] [] [] T0).bn),.row cc 6 s.gr (cw (dT a0 [] [] [] T0).aL),.row dM 5 s.ax (aO bE.cs (dT a0 [] [] [] T0).ax ys),.box fp λw=>aM eY w ys (dT a0 [] [] [] T0).ax,.row aW 4 s.key (aO aI.cs (dT a0 [] [] [] T0).keys zs),.box fq λw=>aM cZ w zs (dT a0 [] [] [] T0).keys]->
   cF ⟨pt,0,none⟩ (dT a0 [] [] [] T0).clock s.sec s.ten s.ax s.key s.gr w5 λw6=>dm ⟨pr,0,none⟩ 0 2 y z w6 λw7=>go ⟨pt,0,none⟩ ⟨pr,0,none⟩ er w7:=λ{pt pr er w5 s ys zs fp fq y z} K=>
  K.cF 1 rfl rfl λw6 K=>K.dm 2 rfl rfl λw7 K=>main (ys:=ys) (zs:=zs) (fp:=fp) (fq:=fq) K
 have iS:∀ {w8:World} {M:List aA} {s:bW} {ys zs:List ag} {fp fq:List Nat},ah w [] w8 (M++cJ s T0 ys zs fp fq)->Ok Pr BG [.agg ⟨T0.cs s⟩,.agg ⟨a0.cells⟩,.slice none 0 0] w8 λv w'=>∃s1 jN jO lg lq y z er,v=.tuple ⟨[.agg ⟨(dT a0 [] [] [] T0).cs s1⟩,.agg ⟨bR 0 2 y z⟩,er]⟩/\ah w [] w' (M++(cJ s1 (dT a0 [] [] [] T0) jN jO lg lq++[.cut y (dR a0 [] [] [] T0).cM,.cut z (dR a0 [] [] [] T0).ex,aA.err er 0]))/\Mod [] w8 w':=by
  intro w8 M s ys zs fp fq K
  refine(KD s T0 a0 [] [] ⟨none,0,0⟩ [] hf (by simp) w8 (hg.nH K (by simp)) (nu K) (Sl.nil _ 1) (Sl.nil _ 1) (Sl.nil _ 1)).mono ?_
  rintro v w' ⟨s1,jN,jO,lg,lq,y,z,er,rfl,G⟩
  rw[h1]at G⊢
  rw[h2]
  refine⟨s1,jN,jO,lg,lq,y,z,er,rfl,?_,G.mod⟩
  have K2:=(K.take M.length)
  rw[List.take_left]at K2
  exact K2.join G
 have D2:∀ {pt pr:Nat} {w8:World} {s:bW} {ys zs:List ag} {fp fq:List Nat},ah w [] w8 ([.aj p a0.cells iu,.aj pt (cQ.cs sZ) aQ,.aj pr (bR 0 0 ⟨none,0,0⟩ ⟨none,0,0⟩) ct]++cJ s T0 ys zs fp fq)->
   ek Pr BG [.agg ⟨T0.cs s⟩,.agg ⟨a0.cells⟩,.slice none 0 0] w8 λv w9=>ny.vW v λvs=>bM vs λv1 r=>xx v1 λt0 t1 t2 t3 t4 t5=>bM r λv2 r2=>zx v2 λc0 c1 c2 c3=>bM r2 λv3 r3=>(r3=[]/\cF ⟨pt,0,none⟩ t0 t1 t2 t3 t4 t5 w9 λw6=>dm ⟨pr,0,none⟩ c0 c1 c2 c3 w6 λw7=>go ⟨pt,0,none⟩ ⟨pr,0,none⟩ v3 w7):=by
  intro pt pr w8 s ys zs fp fq K
  refine an (iS K) ?_
  rintro _ w9 ⟨s1,jN,jO,lg,lq,y,z,er,rfl,G,m⟩
  refine⟨_,rfl,ia (tX ⟨rfl,fin (ys:=jN) (zs:=jO) (fp:=lg) (fq:=lq) ?_⟩)⟩
  exact G.bX [0,1,2,12,3,4,5,6,7,8,9] (by decide) rfl
 have Xz:∀ {pt:Nat} {w8:World} {s:bW} {ys zs:List ag} {fp fq:List Nat},ah w [] w8 ([.aj p a0.cells iu,.aj pt (cQ.cs sZ) aQ]++cJ s T0 ys zs fp fq)->
   ek Pr BG [.agg ⟨T0.cs s⟩,.agg ⟨a0.cells⟩,.slice none 0 0] w8 λv w9=>ny.vW v λvs=>bM vs λv1 r=>xx v1 λt0 t1 t2 t3 t4 t5=>bM r λv2 r2=>zx v2 λc0 c1 c2 c3=>bM r2 λv3 r3=>(r3=[]/\nw ct (bR 0 0 ⟨none,0,0⟩ ⟨none,0,0⟩) w9 λpr bP=>(kept ⟨p,0,none⟩ 14 w9 bP/\cF ⟨pt,0,none⟩ t0 t1 t2 t3 t4 t5 bP λw6=>dm pr c0 c1 c2 c3 w6 λw7=>go ⟨pt,0,none⟩ pr v3 w7)):=by
  intro pt w8 s ys zs fp fq K
  refine an (iS K) ?_
  rintro _ w9 ⟨s1,jN,jO,lg,lq,y,z,er,rfl,G,m⟩
  refine⟨_,rfl,ia (tX ⟨rfl,G.gL λpr bP G2 _=>⟨gM (G.aj 0 rfl) (G2.aj 0 rfl) 14,fin (ys:=jN) (zs:=jO) (fp:=lg) (fq:=lq) ?_⟩⟩)⟩
  exact G2.bX [0,1,12,11,2,3,4,5,6,7,8] (by decide) rfl
 have XA:∀ {pr:Nat} {w8:World} {s:bW} {ys zs:List ag} {fp fq:List Nat},ah w [] w8 ([.aj p a0.cells iu,.aj pr (bR 0 0 ⟨none,0,0⟩ ⟨none,0,0⟩) ct]++cJ s T0 ys zs fp fq)->
   ek Pr BG [.agg ⟨T0.cs s⟩,.agg ⟨a0.cells⟩,.slice none 0 0] w8 λv w9=>ny.vW v λvs=>bM vs λv1 r=>xx v1 λt0 t1 t2 t3 t4 t5=>bM r λv2 r2=>zx v2 λc0 c1 c2 c3=>bM r2 λv3 r3=>(r3=[]/\nw aQ (lz 0 ⟨none,0,0⟩ ⟨none,0,0⟩ ⟨none,0,0⟩ ⟨none,0,0⟩ ⟨none,0,0⟩) w9 λpt bP=>(kept ⟨p,0,none⟩ 14 w9 bP/\cF pt t0 t1 t2 t3 t4 t5 bP λw6=>dm ⟨pr,0,none⟩ c0 c1 c2 c3 w6 λw7=>go pt ⟨pr,0,none⟩ v3 w7)):=by
  intro pr w8 s ys zs fp fq K
  refine an (iS K) ?_
  rintro _ w9 ⟨s1,jN,jO,lg,lq,y,z,er,rfl,G,m⟩
  refine⟨_,rfl,ia (tX ⟨rfl,G.gL λpt bP G2 _=>⟨gM (G.aj 0 rfl) (G2.aj 0 rfl) 14,fin (ys:=jN) (zs:=jO) (fp:=lg) (fq:=lq) ?_⟩⟩)⟩
  exact G2.bX [0,12,1,11,2,3,4,5,6,7,8] (by decide) rfl
 have first:∀w8,Ok Pr P9 [] w8 λv w'=>AT w8 w' v T0:=λw8=>eT0▸P1 w8
 have D:=H.drew
 refine D.kM 0 rfl ⟨?_,?_,?_⟩
 ·refine an (first _) ?_
  rintro _ eg ⟨s,ys,zs,fp,fq,rfl,G⟩
  have K:=D.join G
  refine ia ⟨gM (D.aj 0 rfl) (K.aj 0 rfl) 14,?_,?_,?_⟩
  ·refine an (iS K) ?_
   rintro _ w9 ⟨s1,jN,jO,lg,lq,y,z,er,rfl,G,m⟩
   refine⟨_,rfl,ia (tX ⟨rfl,G.gL λpt bP G2 _=>⟨gM (G.aj 0 rfl) (G2.aj 0 rfl) 14,G2.gL λpr bQ G3 _=>⟨gM (G2.aj 0 rfl) (G3.aj 0 rfl) 14,fin (ys:=jN) (zs:=jO) (fp:=lg) (fq:=lq) ?_⟩⟩,G.gL λpr bP G2 _=>⟨gM (G.aj 0 rfl) (G2.aj 0 rfl) 14,G2.gL λpt bQ G3 _=>⟨gM (G2.aj 0 rfl) (G3.aj 0 rfl) 14,fin (ys:=jN) (zs:=jO) (fp:=lg) (fq:=lq) ?_⟩⟩⟩)⟩
   ·exact G3.bX [0,11,12,10,1,2,3,4,5,6,7] (by decide) rfl
   ·exact G3.bX [0,12,11,10,1,2,3,4,5,6,7] (by decide) rfl
  ·refine K.gL λpt bP K2 _=>⟨gM (K.aj 0 rfl) (K2.aj 0 rfl) 14,Xz (ys:=ys) (zs:=zs) (fp:=fp) (fq:=fq) (K2.bX [0,8,1,2,3,4,5,6,7] (by decide) rfl),K2.gL λpr bQ K3 _=>⟨gM (K2.aj 0 rfl) (K3.aj 0 rfl) 14,D2 (ys:=ys) (zs:=zs) (fp:=fp) (fq:=fq) (K3.bX [0,8,9,1,2,3,4,5,6,7] (by decide) rfl)⟩⟩
  ·refine K.gL λpr bP K2 _=>⟨gM (K.aj 0 rfl) (K2.aj 0 rfl) 14,XA (ys:=ys) (zs:=zs) (fp:=fp) (fq:=fq) (K2.bX [0,8,1,2,3,4,5,6,7] (by decide) rfl),K2.gL λpt bQ K3 _=>⟨gM (K2.aj 0 rfl) (K3.aj 0 rfl) 14,D2 (ys:=ys) (zs:=zs) (fp:=fp) (fq:=fq) (K3.bX [0,9,8,1,2,3,4,5,6,7] (by decide) rfl)⟩⟩
 ·refine D.gL λpt bP tV _=>⟨gM (D.aj 0 rfl) (tV.aj 0 rfl) 14,?_,?_⟩
  ·refine an (first _) ?_
   rintro _ eg ⟨s,ys,zs,fp,fq,rfl,G⟩
   have K:=tV.join G
   exact ia ⟨gM (tV.aj 0 rfl) (K.aj 0 rfl) 14,Xz (ys:=ys) (zs:=zs) (fp:=fp) (fq:=fq) K,K.gL λpr bQ K3 _=>⟨gM (K.aj 0 rfl) (K3.aj 0 rfl) 14,D2 (ys:=ys) (zs:=zs) (fp:=fp) (fq:=fq) (K3.bX [0,1,9,2,3,4,5,6,7,8] (by decide) rfl)⟩⟩
  ·refine tV.gL λpr bQ Bo _=>⟨gM (tV.aj 0 rfl) (Bo.aj 0 rfl) 14,an (first _) ?_⟩
   rintro _ eg ⟨s,ys,zs,fp,fq,rfl,G⟩
   have K:=Bo.join G
   exact ia ⟨gM (Bo.aj 0 rfl) (K.aj 0 rfl) 14,D2 (ys:=ys) (zs:=zs) (fp:=fp) (fq:=fq) K⟩
 ·refine D.gL λpr bP tV _=>⟨gM (D.aj 0 rfl) (tV.aj 0 rfl) 14,?_,?_⟩
  ·refine an (first _) ?_
   rintro _ eg ⟨s,ys,zs,fp,fq,rfl,G⟩
   have K:=tV.join G
   exact ia ⟨gM (tV.aj 0 rfl) (K.aj 0 rfl) 14,XA (ys:=ys) (zs:=zs) (fp:=fp) (fq:=fq) K,K.gL λpt bQ K3 _=>⟨gM (K.aj 0 rfl) (K3.aj 0 rfl) 14,D2 (ys:=ys) (zs:=zs) (fp:=fp) (fq:=fq) (K3.bX [0,9,1,2,3,4,5,6,7,8] (by decide) rfl)⟩⟩
  ·refine tV.gL λpt bQ Bo _=>⟨gM (tV.aj 0 rfl) (Bo.aj 0 rfl) 14,an (first _) ?_⟩
   rintro _ eg ⟨s,ys,zs,fp,fq,rfl,G⟩
   have K:=Bo.join G
   exact ia ⟨gM (Bo.aj 0 rfl) (K.aj 0 rfl) 14,D2 (ys:=ys) (zs:=zs) (fp:=fp) (fq:=fq) (K.bX [0,2,1,3,4,5,6,7,8,9] (by decide) rfl)⟩
structure fA where
 q:aY
 sd:ag
 tick:Bool
def vt:fA:=⟨a0,⟨none,0,0⟩,false⟩
def fA.cs(a:fA)(_:ag):List Value:=a.q.cells++[.slice a.sd.a a.sd.n a.sd.c,.bool a.tick]
theorem fA.bA(a:fA)(x:ag):(a.cs x).length=16:=rfl
def OM(_:World)(_:ag)(_:fA):Prop:=True
def qj(w:World)(s:ag)(l:List fA):Prop:=Dv fA.cs 16 OM w s l
theorem qj.av{w w':World}{s:ag}{l:List fA}(h:qj w s l)(m:Mod [] w w'):qj w' s l:=Dv.av (E:=OM) (λ_ _=>trivial) h m
theorem qj.len{w:World}{s:ag}{l:List fA}(h:qj w s l):l.length=s.n:=Dv.len fA.bA (by omega) h
theorem qj.at{w:World}{s:ag}{l:List fA}(h:qj w s l){i:Nat}(hi:i<l.length):
  (s.a.isSome=true/\(0:Int)<=(i:Int)/\(i:Int)<(s.n:Int))/\∀(j:Nat) (v:Value),((l.getD i vt).cs ⟨none,0,0⟩)[j]? = some v->w.cell? (Addr.add (Addr.add (base s.a) (Int.toNat (i:Int)*16)) j)=some v:=by
 obtain⟨h1,x,_,h2⟩:=Dv.at fA.bA (by omega) h (show l[i]? = some (l.getD i vt) by rw[List.getD_eq_getElem?_getD,List.getElem?_eq_getElem hi];rfl)
 exact⟨h1,h2⟩
def It(a:fA):Prop:=(a.q.name.size<=400/\a.q.cM.n<=3000/\a.q.tok.n<=200)/\a.sd.n<=100
theorem P3(x:ag)(l:List fA)(AB:Int)(hm:AB<=1000000)(w:World)(hx:qj w x l):Ok Pr aaJ [.slice x.a x.n x.c,.int .i64 AB] w λv w'=>∃b,v=.bool b/\Mod [] w w'/\(b=false->(l.length:Int)<=AB/\∀a∈l,It a):=by
 refine aC Tryz.func8 (L:=[(2,[(5,.int .i64)])]) ?_
 have aT:=hx.len
 by_cases h8:(l.length:Int)<=AB
 case neg=>
  refine qA (λi w'=>Mod [] w w') (λ_ _=>0) (Mod.refl _ _) ?_
  intro again i w1 m aB
  refine ite_false ?_ ⟨_,rfl,m,λh=>?_⟩
  ·rw[show decide ((x.n:Int)<=AB)=false from decide_eq_false (by omega),Bool.and_false]
  ·rw[decide_eq_true (show AB<(x.n:Int) by omega)]at h;cases h
 refine bG 0 l.length (λi w'=>Mod [] w w'/\∀j,j<i->It (l.getD j vt)) rfl (by omega) ⟨Mod.refl _ _,λj h=>by omega⟩ ?_ ?_
 ·rintro again i w1 _ hi ⟨m,hl⟩ aB
  obtain⟨k1,c1⟩:=(hx.av m).at hi
  refine ite_true (by rw[decide_eq_true (show(i:Int)<(x.n:Int) by omega),decide_eq_true (show(x.n:Int)<=AB by omega)];rfl) ⟨k1,?_⟩
  refine Bs (λj v hv=>?_) (an (Y8 (l.getD i vt).q w1) ?_)
  ·rw[add_add,Nat.zero_add]
   refine c1 j v ?_
   have hj:j<(l.getD i vt).q.cells.length:=(List.getElem?_eq_some_iff.1 hv).1
   show((l.getD i vt).q.cells++_)[j]? = some v
   rw[List.getElem?_append_left hj]
   exact hv
  rintro _ w2 ⟨b,rfl,m2,hb⟩
  refine aN ?_
  cases b with
  |true=>exact ite_true rfl ⟨true,rfl,m.trans m2,λh=>by cases h⟩
  |false=>
   refine ite_false rfl ⟨k1,(l.getD i vt).sd,m2.qa (c1 14 _ rfl),aZ (λh=>⟨true,rfl,m.trans m2,λh=>by cases h⟩) λh=>⟨⟨by omega,by omega⟩,aB _ ⟨m.trans m2,λj hj=>?_⟩⟩⟩
   rcases Nat.lt_or_ge j i with h2|h2
   ·exact hl j h2
   ·have:=of_decide_eq_false h
    rw[show j=i by omega]
    exact⟨hb rfl,by omega⟩
 ·rintro again w1 ⟨m,hl⟩
  refine ite_false (by rw[decide_eq_false (show ¬((l.length:Nat):Int)<(x.n:Int) by omega),Bool.false_and]) ⟨_,rfl,m,λ_=>⟨h8,HL hl⟩⟩
end Go.Proofs.YtgjoehgomjgckaaGreatDoor
end
section
set_option linter.unusedVariables false
set_option linter.unusedSimpArgs false
namespace Go.Ev
open Go Go.RowKit
set_option linter.unusedVariables false
def j8(tb:TypeId)(w w':World):Prop:=∀b cs t,bp w b cs t->∃fL,bp w' b fL t/\fL.length=cs.length/\(t≠tb->∀k,k%4=3->fL[k]? = cs[k]?\/(k<cs.length/\fL[k]? = some (.slice none 0 0)))
theorem bp.inj{w:World}{b:Nat}{cs ds:List Value}{t u:TypeId}(h:bp w b cs t)(k:bp w b ds u):cs=ds/\t=u:=by
 have:=h.symm.trans k
 simp only[Option.some.injEq,Obj.cells.injEq,Array.mk.injEq]at this
 exact⟨this.1,this.2.1⟩
section
variable{tb:TypeId}{w w' w2:World}
theorem j8.trans(h:j8 tb w w')(k:j8 tb w' w2):j8 tb w w2:=λb cs t hb=>by
 obtain⟨c1,h1,h2,h3⟩:=h b cs t hb
 obtain⟨c2,k1,k2,k3⟩:=k b c1 t h1
 refine⟨c2,k1,k2.trans h2,λht i hi=>?_⟩
 rcases k3 ht i hi with e|⟨e1,e2⟩
 ·rw[e];exact h3 ht i hi
 ·exact .inr ⟨by omega,e2⟩
theorem j8.av(m:Mod [] w w'):j8 tb w w':=λb cs t hb=>⟨cs,hb.av m,rfl,λ_ k _=>.inl rfl⟩
theorem j8.aj{g:Nat}{cs fL:List Value}{t:TypeId}(m:Mod [g] w w')(h:bp w g cs t)(h':bp w' g fL t)(hl:fL.length=cs.length)(hs:t≠tb->∀k,k%4=3->fL[k]? = cs[k]?\/(k<cs.length/\fL[k]? = some (.slice none 0 0))):j8 tb w w':=λb ds u hb=>by
 by_cases e:b=g
 ·subst e
  obtain⟨rfl,rfl⟩:=hb.inj h
  exact⟨fL,h',hl,hs⟩
 ·exact⟨ds,hb.mod m (by simpa using e),rfl,λ_ k _=>.inl rfl⟩
def U8(tb:TypeId)(F:List Nat)(w:World)(y:ag):Prop:=(y.a=none/\y.c=0/\y.n=0)\/∃g o cs,g∈F/\y.a=some ⟨g,o,none⟩/\bp w g cs tb/\y.n<=100000000/\y.n<=y.c/\o+y.c<=cs.length
variable{F:List Nat}{y:ag}
theorem U8.tW(h:U8 tb F w y)(o:j8 tb w w'):U8 tb F w' y:=by
 rcases h with h|⟨g,f,cs,h1,h2,h3,h4,h5,h6⟩
 ·exact .inl h
 ·obtain⟨fL,k1,k2,_⟩:=o g cs tb h3
  exact .inr ⟨g,f,fL,h1,h2,k1,h4,h5,by omega⟩
theorem U8.gV(h:U8 tb F w y)(o:∀b∈F,w'.heap[b]? = w.heap[b]?):U8 tb F w' y:=by
 rcases h with h|⟨g,f,cs,h1,h2,h3,h4⟩
 ·exact .inl h
 ·exact .inr ⟨g,f,cs,h1,h2,(o g h1).trans h3,h4⟩
theorem U8.row(h:U8 tb F w y):∀b∈y.row,b∈F:=by
 rcases h with ⟨h,_⟩|⟨g,f,cs,h1,h2,_⟩
 ·simp[ag.row,h]
 ·intro b hb
  have:b=g:=by simpa[ag.row,h2]using hb
  rw[this];exact h1
theorem U8.own{l:List Value}(h:Own w 0 tb 1 y l)(hn:y.n<=100000000)(hF:∀b∈y.row,b∈F):U8 tb F w y:=by
 obtain⟨hl,h1|⟨g,cap,cur,h1,h2,h3,h4,h5,h6,h7⟩⟩:=h
 ·obtain⟨a,n,c⟩:=y
  obtain⟨h1,h2⟩:=h1
  simp only[ag.v,Value.slice.injEq]at h1
  obtain⟨rfl,rfl,rfl⟩:=h1
  exact .inl ⟨rfl,rfl,rfl⟩
 ·simp only[ag.v,Value.slice.injEq]at h1
  have hy:y.a=some ⟨g,0,none⟩:=h1.1
  refine .inr ⟨g,0,cur.toList,hF g (by simp[ag.row,hy]),hy,h3,hn,by rw[h1.2.2];exact h4,by rw[h1.2.2,Array.length_toList];omega⟩
theorem LW{e:TypeId}{sz:Nat}(h:∀w',(∀b∈F,w'.heap[b]? = w.heap[b]?)->∃vs,Own w' 0 e sz y vs):∀b∈y.row,b∈F:=by
 intro b hb
 apply Classical.byContradiction
 intro hn
 obtain⟨vs,h0⟩:=h w λ_ _=>rfl
 have bB:=(Own.yb h0 b hb).2
 obtain⟨us,hu⟩:=h { w with heap:=w.heap.setIfInBounds b (.cells #[] e (1,0)) } λc hc=>by
  have:b≠c:=λe=>hn (e▸hc)
  show(w.heap.setIfInBounds b _)[c]? = _
  rw[Array.getElem?_setIfInBounds_ne this]
 obtain⟨hl,h1|⟨g,cap,cur,h1,h2,h3,h4⟩⟩:=hu
 ·obtain⟨a,n,c⟩:=y
  simp only[ag.v,Value.slice.injEq]at h1
  obtain⟨⟨rfl,-,-⟩,-⟩:=h1
  simp[ag.row]at hb
 ·simp only[ag.v,Value.slice.injEq]at h1
  have hy:y.a=some ⟨g,0,none⟩:=h1.1
  have hbg:b=g:=by simpa[ag.row,hy]using hb
  subst hbg
  have h3:(w.heap.setIfInBounds b (.cells #[] e (1,0)))[b]? = some (.cells cur e (0,0)):=h3
  rw[Array.getElem?_setIfInBounds_self_of_lt bB]at h3
  simp at h3
end
end Go.Ev
namespace Go.Proofs.YtgjoehgomjgckaaGreatDoor
open Go Go.Ev
set_option maxRecDepth 20000
set_option linter.unusedVariables false
theorem Dl(F:List Nat)(y:ag)(w:World)(hy:U8 aE F w y):Ok Pr JF [.slice y.a y.n y.c] w λv w'=>v=.tuple ⟨[]⟩/\Mod y.row w w'/\j8 aE w w':=by
 rcases hy with ⟨h1,h2,h3⟩|⟨g,o,cs,h1,h2,h3,h4,h5,h6⟩
 ·refine(YQ y [] w ⟨by rw[h3];rfl,.inl ⟨by simp[ag.v,h1,h2,h3],h3⟩⟩ (by simp)).mono λv w' h=>⟨h.1,h.2,?_⟩
  have:y.row=[]:=by simp[ag.row,h1]
  exact j8.av (by rw[<- this];exact h.2)
 ·refine(YS g cs y w h3 h5 (.inr ⟨o,h2,h6⟩) h4).mono ?_
  rintro v w' ⟨rfl,m,fL,hl,hb⟩
  have:y.row=[g]:=by simp[ag.row,h2]
  exact⟨rfl,by rw[this];exact m,j8.aj m h3 hb hl λh=>absurd rfl h⟩
theorem YW(rc ri:Int)(y z:ag)(l k:List B8)(hl:l.length<=100000000)(hk:k.length<=100000000){w0 w:World}{S:List Nat}(H:ah w0 S w [.cut y l,.cut z k]):Ok Pr Y2 [.agg ⟨bR rc ri y z⟩] w λv w'=>v=.tuple ⟨[]⟩/\Mod (y.row++z.row) w w':=by
 refine aC Tryz.func45 ?_
 have u8:∀ {y l},l.length<=100000000->Cut w y l->U8 aE y.row w y:=λ{y l} hl h=>by
  rcases h with ⟨rfl,_⟩|⟨g,cur,t,h1,h2,h3,h4,⟨h5,rfl,h7⟩,h6⟩
  ·exact .inl ⟨rfl,rfl,rfl⟩
  ·exact .inr ⟨g,0,cur,by simp[ag.row,h1],h1,h2,by omega,h4,by omega⟩
 have hy:=u8 hl (H.ok 0 _ rfl)
 have hz:=u8 hk (H.ok 1 _ rfl)
 refine(ah.start w).nw λp w1 G _=>G.az 0 rfl (ai p 2) rfl (an (Dl _ y w1 (hy.tW (j8.av G.mod))) ?_)
 rintro _ w2 ⟨rfl,m2,o2⟩
 have hp:bp w2 p (bR rc ri y z) ct:=(G.aj 0 rfl).mod m2 λhb=>by
  have h1:=G.own 0 _ rfl p (by simp[aA.aj])
  rcases h1 with h1|h1
  ·cases h1
  ·have:=aA.lt _ w (H.ok 0 _ rfl) p hb
   omega
 refine hp.az (ai p 3) rfl (an (Dl _ z w2 ((hz.tW (j8.av G.mod)).tW o2)) ?_)
 rintro _ w3 ⟨rfl,m3,o3⟩
 refine⟨rfl,((G.mod.mono (by simp)).trans (m2.mono λb hb=>List.mem_append_left _ hb)).trans (m3.mono λb hb=>List.mem_append_right _ hb)⟩
end Go.Proofs.YtgjoehgomjgckaaGreatDoor
end
section
set_option linter.unusedVariables false
set_option linter.unusedSimpArgs false
namespace Go.Proofs.YtgjoehgomjgckaaGreatDoor
open Go Go.Ev
set_option maxRecDepth 100000
set_option linter.unusedVariables false
def g1:bu:=⟨1,1,2,1024,9,false⟩
theorem YD(x:ag)(l:List bu)(w:World)(hx:Own w 0 cc 6 x (cw l))(hl:l.length<=100000):Ok Pr YL [.slice x.a x.n x.c] w λv w'=>v=.tuple ⟨[]⟩/\Mod x.row w w':=by
 refine aC Tryz.func95 (L:=[(1,[(2,.int .i64)])]) ?_
 have H:=ah.vX (r:=.row cc 6 x (cw l)) hx
 have iQ:fN w x l:=hx.sl
 have aT:=iQ.len
 refine bG 0 l.length (λi w'=>∃m:List Value,m.length=6*l.length/\ah w x.row w' [.row cc 6 x m]) rfl (by omega) ⟨_,GQ l,H⟩ ?_ ?_
 ·rintro again i w1 _ hi ⟨m,hm,H⟩ aB
  have ea:∀j:Nat,Addr.add (Addr.add (base x.a) (Int.toNat (i:Int)*6)) j=Addr.add (base x.a) (i*6+j):=λj=>by rw[Int.toNat_natCast,add_add]
  refine ite_true (by rw[<- aT];simpa using hi) ⟨⟨Sl.pre iQ (by omega),by omega,by omega⟩,?_⟩
  unfold pP
  refine H.gx 0 rfl (ea 0) (by omega) rfl λw2 H=>?_
  refine H.gx 0 rfl (ea 1) (by simp only[List.length_set];omega) rfl λw3 H=>?_
  refine H.gx 0 rfl (ea 2) (by simp only[List.length_set];omega) rfl λw4 H=>?_
  refine H.gx 0 rfl (ea 3) (by simp only[List.length_set];omega) rfl λw5 H=>?_
  refine H.gx 0 rfl (ea 4) (by simp only[List.length_set];omega) rfl λw6 H=>?_
  refine H.gx 0 rfl (ea 5) (by simp only[List.length_set];omega) rfl λw7 H=>?_
  exact⟨⟨by omega,by omega⟩,aB w7 ⟨_,by simp only[List.length_set];exact hm,H⟩⟩
 ·rintro again w1 ⟨m,hm,H⟩
  refine ite_false (by rw[<- aT];simp) ?_
  refine H.uL 0 Ae rfl rfl (by intro u hu;simp only[List.mem_cons,List.not_mem_nil,or_false]at hu;rcases hu with rfl|rfl|rfl|rfl|rfl|rfl<;>rfl) (by omega) (by omega) λs' w2 H _=>?_
  exact⟨rfl,H.mod⟩
end Go.Proofs.YtgjoehgomjgckaaGreatDoor
end
section
set_option linter.unusedVariables false
set_option linter.unusedSimpArgs false
namespace Go.Proofs.YtgjoehgomjgckaaGreatDoor
open Go Go.Ev
set_option maxRecDepth 20000
set_option linter.unusedVariables false
def VO(F:List Nat)(w:World)(z:ag):Prop:=z.n=0\/∃g cs,g∈F/\z.a=some ⟨g,0,none⟩/\bp w g cs cR/\z.n<=1000000/\z.n*4<=cs.length/\∀k,k<z.n->∃y:ag,cs[k*4+3]? = some y.v/\U8 aE F w y
section
variable{w w':World}{F:List Nat}{z:ag}
theorem VO.tW(h:VO F w z)(o:j8 aE w w'):VO F w' z:=by
 rcases h with h|⟨g,cs,h1,h2,h3,h4,h5,h6⟩
 ·exact .inl h
 ·obtain⟨fL,k1,k2,k3⟩:=o g cs _ h3
  refine .inr ⟨g,fL,h1,h2,k1,h4,by omega,λk hk=>?_⟩
  obtain⟨y,hy,hu⟩:=h6 k hk
  rcases k3 (by decide) (k*4+3) (by omega)with e|⟨_,e⟩
  ·exact⟨y,by rw[e];exact hy,hu.tW o⟩
  ·exact⟨⟨none,0,0⟩,e,.inl ⟨rfl,rfl,rfl⟩⟩
theorem VO.gV(h:VO F w z)(o:∀b∈F,w'.heap[b]? = w.heap[b]?):VO F w' z:=by
 rcases h with h|⟨g,cs,h1,h2,h3,h4,h5,h6⟩
 ·exact .inl h
 ·refine .inr ⟨g,cs,h1,h2,(o g h1).trans h3,h4,h5,λk hk=>?_⟩
  obtain⟨y,hy,hu⟩:=h6 k hk
  exact⟨y,hy,hu.gV o⟩
theorem ai0{x y:ag}(h:x.v=y.v):x=y:=by
 obtain⟨a,n,c⟩:=x
 obtain⟨a',n',c'⟩:=y
 simp only[ag.v,Value.slice.injEq]at h
 obtain⟨rfl,rfl,rfl⟩:=h
 rfl
theorem VO.box{vs:List aR}(h:∀w',(∀b∈F,w'.heap[b]? = w.heap[b]?)->fI w' z vs)(hl:vs.length<=1000)(hs:∀v∈vs,v.ak.length<=1000000):VO F w z:=by
 have fV:∀b∈z.row,b∈F:=LW (w:=w) (e:=cR) (sz:=4) λw2 h2=>by
  obtain⟨ys,h3,_⟩:=h w2 h2
  exact⟨_,h3⟩
 obtain⟨ys,ho,he⟩:=h w λ_ _=>rfl
 have uV:vs.length=z.n:=dD.len ⟨ys,ho.sl,Tv he⟩
 have hso:=ho.sl
 obtain⟨j4,h1|⟨g,cap,cur,h1,h2,h3,h4,h5,h6,h7⟩⟩:=ho
 ·exact .inl h1.2
 simp only[ag.v,Value.slice.injEq]at h1
 have hz:z.a=some ⟨g,0,none⟩:=h1.1
 have XB:g∈F:=fV g (by simp[ag.row,hz])
 refine .inr ⟨g,cur.toList,XB,hz,h3,by omega,by rw[Array.length_toList,h6];have:=Nat.mul_le_mul_right 4 h4;omega,λk hk=>?_⟩
 have zm:k<vs.length:=by omega
 have F3:k<ys.length:=by rw[he.1];exact zm
 have mb:∀ {w2:World} {us:List ag},(∀b∈F,w2.heap[b]? = w.heap[b]?)->Own w2 0 cR 4 z (aO aR.cs vs us)->us.length=vs.length->∀y,us[k]? = some y->cur.toList[k*4+3]? = some y.v:=by
  intro w2 us a2 o2 hlu y hy
  have c2:=Sl.oH aR.bA o2.sl (List.getElem?_eq_getElem zm) hy (j:=3) (v:=y.v) rfl
  rw[hz]at c2
  have b2:bp w2 g cur.toList cR:=(a2 g XB).trans h3
  have c2:w2.cell? (Addr.add (Addr.add ⟨g,0,none⟩ (k*4)) 3)=_:=c2
  rw[add_add,ai,b2.cell]at c2
  exact c2
 refine⟨ys[k],mb (λ_ _=>rfl) ⟨j4,.inr ⟨g,cap,cur,by rw[ag.v,h1.1,h1.2.2],h2,h3,h4,h5,h6,h7⟩⟩ he.1 _ (List.getElem?_eq_getElem F3),?_⟩
 have zi:Own w 0 aE 1 ys[k] _:=he.2 k _ _ (List.getElem?_eq_getElem F3) (List.getElem?_eq_getElem zm)
 have j3:=Bytes.len (Own.bytes zi)
 have:=hs _ (List.getElem_mem zm)
 refine U8.own zi (by omega) (LW (w:=w) (e:=aE) (sz:=1) λw2 a2=>?_)
 obtain⟨us,o2,e2⟩:=h w2 a2
 have XC:k<us.length:=by rw[e2.1];exact zm
 have g1:=mb (λ_ _=>rfl) ⟨j4,.inr ⟨g,cap,cur,by rw[ag.v,h1.1,h1.2.2],h2,h3,h4,h5,h6,h7⟩⟩ he.1 _ (List.getElem?_eq_getElem F3)
 have g2:=mb a2 o2 e2.1 _ (List.getElem?_eq_getElem XC)
 have:ys[k]=us[k]:=ai0 (Option.some.inj (g1.symm.trans g2))
 rw[this]
 exact⟨_,e2.2 k _ _ (List.getElem?_eq_getElem XC) (List.getElem?_eq_getElem zm)⟩
end
theorem Iu{w:World}{g k:Nat}{cs:List Value}{v:Value}{K:World->Prop}(hb:bp w g cs cR)(hk:k<cs.length)(hv:k%4=3->v=.slice none 0 0)(h1:dQ v=true)
  (h:∀w',bp w' g (cs.set k v) cR->Mod [g] w w'->j8 aE w w'->K w'):Ev.st ⟨g,k,none⟩ v w K:=
 HX hb hk h1 λw' h2 h3 _=>h w' h2 h3 (j8.aj h3 hb h2 (by simp) λ_ j hj=>by
  rw[List.getElem?_set]
  by_cases e:k=j
  ·subst e
   rw[if_pos rfl,if_pos hk,hv hj]
   exact .inr ⟨hk,rfl⟩
  ·rw[if_neg e]
   exact .inl rfl)
theorem ZW(i1 i2 i3:Int)(F:List Nat)(z:ag)(w:World)(hF:∀b∈F,b<w.heap.size)(hz:VO F w z):Ok Pr Z2 [.agg ⟨bY i1 i2 i3 z⟩] w λv w'=>v=.tuple ⟨[]⟩/\Mod F w w'/\j8 aE w w':=by
 refine aC Tryz.func96 (L:=[(2,[(2,.int .i64)])]) ?_
 refine qE λp w1 hp hb m1 _=>?_
 have XD:p∉F:=λh=>by have:=hF p h;omega
 have uV:z.n<=1000000:=by
  rcases hz with h|⟨g,cs,_,_,_,h,_⟩<;>omega
 refine bG 0 z.n (λi w'=>Mod F w w'/\j8 aE w w'/\bp w' p (bY i1 i2 i3 z) aW) rfl (by omega) ⟨m1.mono (by simp),j8.av m1,hb⟩ ?_ ?_
 ·rintro again i w2 _ hi ⟨m,o,hb⟩ aB
  rcases hz.tW o with h|⟨g,cs,h1,h2,h3,h4,h5,h6⟩
  ·omega
  obtain⟨y,hy,hu⟩:=h6 i hi
  have ve:p∉[g]:=by simp only[List.mem_singleton];rintro rfl;exact XD h1
  have bF:z.a.isSome=true/\(0:Int)<=(i:Int)/\(i:Int)<(z.n:Int):=⟨by rw[h2];rfl,by omega,by omega⟩
  have ea:∀j:Nat,Addr.add (Addr.add (base z.a) (Int.toNat (i:Int)*4)) j=⟨g,i*4+j,none⟩:=λj=>by
   rw[h2]
   show Addr.add (Addr.add ⟨g,0,none⟩ _) j=_
   rw[add_add,ai,Int.toNat_natCast]
  refine hb.az (ai p 3) rfl (ite_true (decide_eq_true (by omega)) (hb.az (ai p 3) rfl ⟨bF,?_⟩))
  refine⟨y,by rw[ea,h3.cell];exact hy,an (Dl F y w2 hu) ?_⟩
  rintro _ w3 ⟨rfl,m3,o3⟩
  have XE:=hu.row
  have hb:=hb.mod m3 λh=>XD (XE p h)
  obtain⟨cs,fY⟩:∃fL,bp w3 g fL cR/\fL.length=cs.length:=by
   obtain⟨fL,k1,k2,_⟩:=o3 g cs _ h3
   exact⟨fL,k1,k2⟩
  have h3:=fY.1
  have hl:=fY.2
  refine hb.az (ai p 3) rfl ⟨bF,?_⟩
  unfold gU
  have mF:∀ {u u':World},Mod [g] u u'->Mod F u u':=λm=>m.mono λb hb=>by rw[List.mem_singleton.1 hb];exact h1
  rw[ea 0,ea 1,ea 2,ea 3]
  refine Iu h3 (by omega) (by omega) rfl λw4 h4 m4 o4=>Iu h4 (by simp only[List.length_set];omega) (by omega) rfl λw5 h5 m5 o5=>Iu h5 (by simp only[List.length_set];omega) (by omega) rfl λw6 h6 m6 o6=>Iu h6 (by simp only[List.length_set];omega) (λ_=>rfl) rfl λw7 h7 m7 o7=>?_
  exact⟨⟨by omega,by omega⟩,aB w7 ⟨((((m.trans (m3.mono XE)).trans (mF m4)).trans (mF m5)).trans (mF m6)).trans (mF m7),((((o.trans o3).trans o4).trans o5).trans o6).trans o7,(((hb.mod m4 ve).mod m5 ve).mod m6 ve).mod m7 ve⟩⟩
 ·rintro again w2 ⟨m,o,hb⟩
  exact hb.az (ai p 3) rfl (ite_false (decide_eq_false (by omega)) ⟨rfl,m,o⟩)
theorem Ys(x:ag)(l:List bL)(w:World)(hx:Own w 0 cD 3 x (dJ l))(hl:l.length<=100000):Ok Pr YA [.slice x.a x.n x.c] w λv w'=>v=.tuple ⟨[]⟩/\Mod x.row w w':=by
 refine aC Tryz.func94 (L:=[(1,[(2,.int .i64)])]) ?_
 have H:=ah.vX (r:=.row cD 3 x (dJ l)) hx
 have iQ:fk w x l:=fk.of hx.sl
 have aT:=iQ.len
 have hlen:(dJ l).length=3*l.length:=by have:=hx.sl.len;omega
 refine bG 0 l.length (λi w'=>∃m:List Value,m.length=3*l.length/\ah w x.row w' [.row cD 3 x m]) rfl (by omega) ⟨_,hlen,H⟩ ?_ ?_
 ·rintro again i w1 _ hi ⟨m,hm,H⟩ aB
  have ea:∀j:Nat,Addr.add (Addr.add (base x.a) (Int.toNat (i:Int)*3)) j=Addr.add (base x.a) (i*3+j):=λj=>by rw[Int.toNat_natCast,add_add]
  refine ite_true (by rw[<- aT];simpa using hi) ⟨⟨Sl.pre hx.sl (by omega),by omega,by omega⟩,?_⟩
  unfold Br
  refine H.gx 0 rfl (ea 0) (by omega) rfl λw2 H=>?_
  refine H.gx 0 rfl (ea 1) (by simp only[List.length_set];omega) rfl λw3 H=>?_
  refine H.gx 0 rfl (ea 2) (by simp only[List.length_set];omega) rfl λw4 H=>?_
  exact⟨⟨by omega,by omega⟩,aB w4 ⟨_,by simp only[List.length_set];exact hm,H⟩⟩
 ·rintro again w1 ⟨m,hm,H⟩
  refine ite_false (by rw[<- aT];simp) ?_
  refine H.uL 0 Ce rfl rfl (by intro u hu;simp only[List.mem_cons,List.not_mem_nil,or_false]at hu;rcases hu with rfl|rfl|rfl<;>rfl) (by omega) (by omega) λs' w2 H _=>?_
  exact⟨rfl,H.mod⟩
def yM(ys:List ag)(i:Nat)(cs:List Value):Prop:=cs.length=ys.length*5/\∀j,i<=j->∀y,ys[j]? = some y->cs[j*5+2]? = some y.v
theorem yM.set{ys:List ag}{i:Nat}{cs:List Value}(h:yM ys i cs){k:Nat}(hk:k<i*5+5)(v:Value):yM ys (i+1) (cs.set k v):=by
 refine⟨by rw[List.length_set];exact h.1,λj hj y hy=>?_⟩
 rw[List.getElem?_set_ne (by omega)]
 exact h.2 j (by omega) y hy
theorem yM.yN{ys:List ag}{i:Nat}{cs:List Value}(h:yM ys (i+1) cs){k:Nat}(hk:k<i*5+5)(v:Value):yM ys (i+1) (cs.set k v):=by
 refine⟨by rw[List.length_set];exact h.1,λj hj y hy=>?_⟩
 rw[List.getElem?_set_ne (by omega)]
 exact h.2 j (by omega) y hy
def yO(zs:List ag)(i:Nat)(cs:List Value):Prop:=cs.length=zs.length*4/\∀j,i<=j->∀z,zs[j]? = some z->∃a b c,cs[j*4]? = some (.int .i64 a)/\cs[j*4+1]? = some (.int .i64 b)/\cs[j*4+2]? = some (.int .i64 c)/\cs[j*4+3]? = some z.v
theorem yO.set{zs:List ag}{i:Nat}{cs:List Value}(h:yO zs i cs){k:Nat}(hk:k<i*4+4)(v:Value):yO zs (i+1) (cs.set k v):=by
 refine⟨by rw[List.length_set];exact h.1,λj hj y hy=>?_⟩
 rw[List.getElem?_set_ne (by omega),List.getElem?_set_ne (by omega),List.getElem?_set_ne (by omega),List.getElem?_set_ne (by omega)]
 exact h.2 j (by omega) y hy
theorem yO.yN{zs:List ag}{i:Nat}{cs:List Value}(h:yO zs (i+1) cs){k:Nat}(hk:k<i*4+4)(v:Value):yO zs (i+1) (cs.set k v):=by
 refine⟨by rw[List.length_set];exact h.1,λj hj y hy=>?_⟩
 rw[List.getElem?_set_ne (by omega),List.getElem?_set_ne (by omega),List.getElem?_set_ne (by omega),List.getElem?_set_ne (by omega)]
 exact h.2 j (by omega) y hy
theorem ajO{A:Type}{l:List A}{k:Nat}{a:A}(h:l[k]? = some a):l.set k a=l:=by
 apply List.ext_getElem?
 intro i
 rw[List.getElem?_set]
 split
 ·rename_i e
  subst e
  rw[if_pos (List.getElem?_eq_some_iff.1 h).1,h]
 ·rfl
def oh(F:List Nat)(y:ag)(ys zs:List ag):World->Prop:=λw=>U8 aE F w y/\(∀x∈ys,U8 aE F w x)/\∀z∈zs,VO F w z
section
variable{w0 w w':World}{F G S R:List Nat}{y:ag}{ys zs:List ag}{L:List aA}{k:Nat}
theorem oh.tW(h:oh F y ys zs w)(o:j8 aE w w'):oh F y ys zs w':=⟨h.1.tW o,λx hx=>(h.2.1 x hx).tW o,λz hz=>(h.2.2 z hz).tW o⟩
theorem oh.gV(h:oh F y ys zs w)(o:∀b∈F,w'.heap[b]? = w.heap[b]?):oh F y ys zs w':=⟨h.1.gV o,λx hx=>(h.2.1 x hx).gV o,λz hz=>(h.2.2 z hz).gV o⟩
theorem _root_.Go.Ev.ah.iH(H:ah w0 S w L)(hk:L[k]? = some (.box F (oh F y ys zs)))(m:Mod R w w')(hR:∀b∈R,b∈F)(o:j8 aE w w'):ah w0 S w' L:=by
 have G:=H.iq k hk (r':=.box F (oh F y ys zs)) m (λb hb=>.inl (hR b hb)) ⟨λb hb=>Nat.lt_of_lt_of_le ((H.ok k _ hk).1 b hb) m.size,λw7 h7=>((H.box k hk).tW o).gV h7⟩ (λb hb=>.inl hb)
 rwa [ajO hk]at G
theorem _root_.Go.Ev.U8.up(h:U8 aE F w y)(s:∀b∈F,b∈G):U8 aE G w y:=by
 rcases h with h|⟨g,f,cs,h1,h2⟩
 ·exact .inl h
 ·exact .inr ⟨g,f,cs,s g h1,h2⟩
theorem VO.up(h:VO F w y)(s:∀b∈F,b∈G):VO G w y:=by
 rcases h with h|⟨g,cs,h1,h2,h3,h4,h5,h6⟩
 ·exact .inl h
 ·refine .inr ⟨g,cs,s g h1,h2,h3,h4,h5,λk hk=>?_⟩
  obtain⟨x,h7,h8⟩:=h6 k hk
  exact⟨x,h7,h8.up s⟩
end
def XF(s:bW)(t:aH)(ys zs:List ag)(F:List Nat):List aA:=
 [.row cD 3 s.ten (dJ t.bn),.row cc 6 s.gr (cw t.aL),.row dM 5 s.ax (aO bE.cs t.ax ys),.row aW 4 s.key (aO aI.cs t.keys zs),.box F (oh F s.sec ys zs)]
theorem YE{w:World}{S:List Nat}(s:bW)(t:aH)(ys zs:List ag)(F:List Nat)(hs:t.small)(gb:ys.length=t.ax.length)(gR:zs.length=t.keys.length)(H:ah w S w (XF s t ys zs F)):Ok Pr Pa [.agg ⟨t.cs s⟩] w λv w'=>v=.tuple ⟨[]⟩/\Mod S w w':=by
 refine aC Tryz.func44 (L:=[(5,[(2,.int .i64)]),(10,[(3,.int .i64)])]) ?_
 have sy:=hs.ten
 have sB:=hs.gr
 have sA:=hs.ax
 have nS:=hs.key
 have H:ah w S w [.row cD 3 s.ten (dJ t.bn),.row cc 6 s.gr (cw t.aL),.row dM 5 s.ax (aO bE.cs t.ax ys),.row aW 4 s.key (aO aI.cs t.keys zs),.box F (oh F s.sec ys zs)]:=H
 have qn:t.ax.length=s.ax.n:=by
  have h:=(H.cG 2 rfl).len
  rw[gw bE.bA _ _ gb]at h
  omega
 have br:t.keys.length=s.key.n:=by
  have h:=(H.cG 3 rfl).len
  rw[gw aI.bA _ _ gR]at h
  omega
 have hp0:yM ys 0 (aO bE.cs t.ax ys):=by
  refine⟨by rw[gw bE.bA _ _ gb,gb],λj _ y hy=>?_⟩
  have qX:j<t.ax.length:=by rw[<- gb];exact(List.getElem?_eq_some_iff.1 hy).1
  rw[Hu bE.bA t.ax ys j 2 _ y (List.getElem?_eq_getElem qX) hy (by omega)]
  rfl
 have FO:yO zs 0 (aO aI.cs t.keys zs):=by
  refine⟨by rw[gw aI.bA _ _ gR,gR],λj _ z hz=>?_⟩
  have qX:j<t.keys.length:=by rw[<- gR];exact(List.getElem?_eq_some_iff.1 hz).1
  have g:=λi (hi:i<4)=>Hu aI.bA t.keys zs j i _ z (List.getElem?_eq_getElem qX) hz hi
  refine⟨(t.keys[j]).id,(t.keys[j]).ten,(t.keys[j]).set,?_,?_,?_,?_⟩
  ·have:=g 0 (by omega);rw[Nat.add_zero]at this;rw[this];rfl
  ·rw[g 1 (by omega)];rfl
  ·rw[g 2 (by omega)];rfl
  ·rw[g 3 (by omega)];rfl
 generalize aO bE.cs t.ax ys=cp at*
 generalize aO aI.cs t.keys zs=ck at*
 refine H.nw λp w1 H _=>?_
 have H:ah w S w1 [.row cD 3 s.ten (dJ t.bn),.row cc 6 s.gr (cw t.aL),.row dM 5 s.ax cp,.row aW 4 s.key ck,.box F (oh F s.sec ys zs),.aj p (t.cs s) aQ]:=H
 have hu:=(H.box 4 rfl).1
 refine H.az 5 rfl (ai p 1) rfl (an (Dl F s.sec _ hu) ?_)
 rintro _ w2 ⟨rfl,m2,o2⟩
 have H:=H.iH (k:=4) rfl m2 hu.row o2
 refine H.az 5 rfl (ai p 2) rfl (an (Ys s.ten t.bn _ (H.l8 0 rfl) (by omega)) ?_)
 rintro _ w3 ⟨rfl,m3⟩
 have H:=H.iq 0 rfl (r':=.no) m3 (λb hb=>.inl hb) trivial (λb hb=>by cases hb)
 refine H.az 5 rfl (ai p 5) rfl (an (YD s.gr t.aL _ (H.l8 1 rfl) (by omega)) ?_)
 rintro _ w4 ⟨rfl,m4⟩
 have H:=H.iq 1 rfl (r':=.no) m4 (λb hb=>.inl hb) trivial (λb hb=>by cases hb)
 have H:ah w S w4 [.row dM 5 s.ax cp,.row aW 4 s.key ck,.box F (oh F s.sec ys zs),.aj p (t.cs s) aQ]:=H.drop 2
 refine bG 0 t.ax.length (λi w'=>∃cs,yM ys i cs/\ah w S w' [.row dM 5 s.ax cs,.row aW 4 s.key ck,.box F (oh F s.sec ys zs),.aj p (t.cs s) aQ]) rfl (by omega) ⟨cp,hp0,H⟩ ?_ ?_
 ·rintro again i w5 _ hi ⟨cs,fY,H⟩ aB
  have XG:i<ys.length:=by omega
  have Ak:s.ax.a.isSome=true/\(0:Int)<=(i:Int)/\(i:Int)<(s.ax.n:Int):=⟨Sl.pre (H.cG 0 rfl) (by omega),by omega,by omega⟩
  have ea:∀j:Nat,Addr.add (Addr.add (base s.ax.a) (Int.toNat (i:Int)*5)) j=Addr.add (base s.ax.a) (i*5+j):=λj=>by rw[Int.toNat_natCast,add_add]
  have hu:U8 aE F w5 ys[i]:=(H.box 2 rfl).2.1 _ (List.getElem_mem XG)
  have iz:w5.cell? (Addr.add (base s.ax.a) (i*5+2))=some (ys[i]).v:=(H.cG 0 rfl).cell _ _ (fY.2 i (Nat.le_refl _) _ (List.getElem?_eq_getElem XG))
  refine H.az 3 rfl (ai p 3) rfl (ite_true (decide_eq_true (by omega)) (H.az 3 rfl (ai p 3) rfl ⟨Ak,ys[i],by rw[ea];exact iz,?_⟩))
  refine an (Dl F _ w5 hu) ?_
  rintro _ w6 ⟨rfl,m6,o6⟩
  have H:=H.iH (k:=2) rfl m6 hu.row o6
  have hl:=fY.1
  refine H.az 3 rfl (ai p 3) rfl ⟨Ak,?_⟩
  unfold xq
  refine H.gx 0 rfl (ea 0) (by omega) rfl λw7 H=>H.gx 0 rfl (ea 1) (by simp only[List.length_set];omega) rfl λw8 H=>H.gx 0 rfl (ea 2) (by simp only[List.length_set];omega) rfl λw9 H=>H.gx 0 rfl (ea 3) (by simp only[List.length_set];omega) rfl λbP H=>H.gx 0 rfl (ea 4) (by simp only[List.length_set];omega) rfl λbQ H=>?_
  exact⟨⟨by omega,by omega⟩,aB bQ ⟨_,(((((fY.set (k:=i*5) (by omega) _).yN (k:=i*5+1) (by omega) _).yN (k:=i*5+2) (by omega) _).yN (k:=i*5+3) (by omega) _).yN (k:=i*5+4) (by omega) _),H⟩⟩
 rintro again w5 ⟨cs,_,H⟩
 refine H.az 3 rfl (ai p 3) rfl (ite_false (decide_eq_false (by omega)) ?_)
 have H:ah w S w5 [.row aW 4 s.key ck,.box F (oh F s.sec ys zs),.aj p (t.cs s) aQ]:=H.drop 1
 refine bG 0 t.keys.length (λi w'=>∃cs,yO zs i cs/\ah w S w' [.row aW 4 s.key cs,.box F (oh F s.sec ys zs),.aj p (t.cs s) aQ]) rfl (by omega) ⟨ck,FO,H⟩ ?_ ?_
 ·rintro again i w6 _ hi ⟨cs,fY,H⟩ aB
  have XH:i<zs.length:=by omega
  have Ak:s.key.a.isSome=true/\(0:Int)<=(i:Int)/\(i:Int)<(s.key.n:Int):=⟨Sl.pre (H.cG 0 rfl) (by omega),by omega,by omega⟩
  have ea:∀j:Nat,Addr.add (Addr.add (base s.key.a) (Int.toNat (i:Int)*4)) j=Addr.add (base s.key.a) (i*4+j):=λj=>by rw[Int.toNat_natCast,add_add]
  have hv:VO F w6 zs[i]:=(H.box 1 rfl).2.2 _ (List.getElem_mem XH)
  obtain⟨a,b,c,c0,c1,c2,c3⟩:=fY.2 i (Nat.le_refl _) _ (List.getElem?_eq_getElem XH)
  have bZ:=H.cG 0 rfl
  refine H.az 2 rfl (ai p 4) rfl (ite_true (decide_eq_true (by omega)) (H.az 2 rfl (ai p 4) rfl ⟨Ak,mC (c0:=a) (c1:=b) (c2:=c) (c3:=zs[i]) (λj v hj=>?_) (an (ZW a b c F _ w6 (H.ok 1 _ rfl).1 hv) ?_)⟩))
  ·rw[ea]
   refine bZ.cell _ _ ?_
   have hj4:j<4:=(List.getElem?_eq_some_iff.1 hj).1
   match j,hj4,hj with
   |0,_,hj=>exact c0.trans hj
   |1,_,hj=>exact c1.trans hj
   |2,_,hj=>exact c2.trans hj
   |3,_,hj=>exact c3.trans hj
  rintro _ w7 ⟨rfl,m7,o7⟩
  have H:=H.iH (k:=1) rfl m7 (λb hb=>hb) o7
  have hl:=fY.1
  refine H.az 2 rfl (ai p 4) rfl ⟨Ak,?_⟩
  unfold cO
  refine H.gx 0 rfl (ea 0) (by omega) rfl λw7 H=>H.gx 0 rfl (ea 1) (by simp only[List.length_set];omega) rfl λw8 H=>H.gx 0 rfl (ea 2) (by simp only[List.length_set];omega) rfl λw9 H=>H.gx 0 rfl (ea 3) (by simp only[List.length_set];omega) rfl λbP H=>?_
  exact⟨⟨by omega,by omega⟩,aB bP ⟨_,((((fY.set (k:=i*4) (by omega) _).yN (k:=i*4+1) (by omega) _).yN (k:=i*4+2) (by omega) _).yN (k:=i*4+3) (by omega) _),H⟩⟩
 ·rintro again w6 ⟨cs,_,H⟩
  exact H.az 2 rfl (ai p 4) rfl (ite_false (decide_eq_false (by omega)) ⟨rfl,H.mod⟩)
theorem YX{w:World}{S:List Nat}(s:bW)(t:aH)(ys zs:List ag)(fp fq:List Nat)(hs:t.small)(H:ah w S w (cJ s t ys zs fp fq)):Ok Pr Pa [.agg ⟨t.cs s⟩] w λv w'=>v=.tuple ⟨[]⟩/\Mod S w w':=by
 have vf:=hs.sec
 have XI:=H.box 4 rfl
 have XJ:=H.box 6 rfl
 have H:=H.merge 4 6 (t:=.box (fp++fq) λw=>aM eY w ys t.ax/\aM cZ w zs t.keys) rfl rfl (by decide) (λa b=>⟨λc hc=>(List.mem_append.1 hc).elim (a.1 c) (b.1 c),λw' h=>⟨a.2 w' λc hc=>h c (List.mem_append_left _ hc),b.2 w' λc hc=>h c (List.mem_append_right _ hc)⟩⟩) (λb hb=>List.mem_append.1 hb)
 have H:=H.merge 4 0 (t:=.box ((fp++fq)++s.sec.row) (oh ((fp++fq)++s.sec.row) s.sec ys zs)) rfl rfl (by decide) (λa b=>⟨λc hc=>(List.mem_append.1 hc).elim (a.1 c) (λhc=>(Own.yb b c hc).2),λw' h=>?_⟩) (λb hb=>List.mem_append.1 hb)
 ·exact YE s t ys zs _ hs XI.1 XJ.1 (H.bX (L':=XF s t ys zs ((fp++fq)++s.sec.row)) [1,2,3,5,4] (by decide) rfl)
 have b':Own w' 0 aE 1 s.sec (aG t.bN):=(aA.row aE 1 s.sec (aG t.bN)).gV _ _ (λc hc=>h c (List.mem_append_right _ hc)) b
 have a':=λw2 (h2:∀c∈fp++fq,w2.heap[c]? = w'.heap[c]?)=>a.2 w2 λc hc=>(h2 c hc).trans (h c (List.mem_append_left _ hc))
 have I5:=Bytes.len (Own.bytes b')
 refine⟨U8.own b' (by omega) (λc hc=>List.mem_append_right _ hc),λy hy=>?_,λz hz=>?_⟩
 ·obtain⟨j,hj,rfl⟩:=List.getElem_of_mem hy
  have qX:j<t.ax.length:=by rw[<- XI.1];exact hj
  have e1:∀w2,(∀b∈fp++fq,w2.heap[b]? = w'.heap[b]?)->Own w2 0 aE 1 ys[j] (aG (t.ax[j]).key):=λw2 a2=>(a' w2 a2).1.2 j _ _ (List.getElem?_eq_getElem hj) (List.getElem?_eq_getElem qX)
  have j3:=Bytes.len (Own.bytes (e1 w' λ_ _=>rfl))
  have:=hs.pk _ (List.getElem_mem qX)
  exact(U8.own (e1 w' λ_ _=>rfl) (by omega) (LW (w:=w') λw2 a2=>⟨_,e1 w2 a2⟩)).up λc hc=>List.mem_append_left _ hc
 ·obtain⟨j,hj,rfl⟩:=List.getElem_of_mem hz
  have qX:j<t.keys.length:=by rw[<- XJ.1];exact hj
  exact(VO.box (vs:=(t.keys[j]).ay) (λw2 a2=>(a' w2 a2).2.2 j _ _ (List.getElem?_eq_getElem hj) (List.getElem?_eq_getElem qX)) (hs.aJ _ (List.getElem_mem qX)) (hs.ak _ (List.getElem_mem qX))).up λc hc=>List.mem_append_left _ hc
theorem TL{set:Int}(h:isSet set=true):(bJ set).k<=4/\(bJ set).du<=11/\(bJ set).dv<=5:=by
 have:=iA h
 exact⟨this.k.2,by rcases this.du with h|h<;>omega,by rcases this.dv with h|h<;>omega⟩
theorem agK(set:Int)(ak:List B8):(ff set ak).length<=1000000:=by
 unfold ff
 split
 ·rename_i h
  unfold g9 at h
  split at h
  ·rename_i h1
   split at h
   ·rename_i h2
    have:=(Me h1 (d:=ak.take 32) (by rw[List.length_take];omega)).2.1
    rw[this,(su h1).1]
    have:=(TL h1).1
    omega
   ·omega
  ·omega
 ·simp
theorem agL(set:Int)(b m:List B8):(pL set b m).length<=1000000:=by
 unfold pL
 split
 ·rename_i h
  unfold jL at h
  split at h
  ·rename_i h1
   have hs:=(DU h1).1
   unfold lP
   split
   ·rw[agz]
    obtain⟨h1,h2,h3⟩:=TL hs
    have:=Nat.mul_le_mul h2 h1
    omega
   ·simp
  ·rename_i h1;exact absurd h h1
 ·simp
theorem agM(set:Int)(b m:List B8):(ob set b m).length<=1000000:=by
 unfold ob
 split
 ·rw[List.length_take];omega
 ·simp
theorem agN(set:Int)(l c:List B8):(mz set l c).length<=1000000:=by
 unfold mz
 split
 ·split
  ·rw[List.length_take];omega
  ·rw[GF];omega
 ·simp
theorem SM(k:aI)(v:Int)(us:Int->Bool):(kJ k v us).length<=1000000:=by
 unfold kJ
 split
 ·exact agK _ _
 ·simp
theorem Lt(k:aI)(m:List B8):(me k m).length<=1000000/\(ju k m).length<=1000000:=by
 unfold me ju
 split
 ·exact⟨agL _ _ _,agM _ _ _⟩
 ·simp
theorem ahU(k:aI)(v:Int)(c:List B8):(oL k v c).length<=1000000:=by
 unfold oL
 split
 ·exact agN _ _ _
 ·simp
theorem agO(q:aY)(lb ak:List B8)(t:aH):(jx q lb ak t).cM.length<=1000000/\(jx q lb ak t).ex.length<=1000000:=by
 unfold jx
 split
 ·exact⟨by simp[CN],by simp[CN]⟩
 split
 ·exact⟨by simp[uQ],by simp[uQ]⟩
 split
 ·exact⟨SM _ _ _,by simp[AA]⟩
 split
 ·unfold qx
  split
  ·exact Lt _ _
  split
  ·exact⟨ahU _ _ _,by simp⟩
  ·exact⟨(Lt _ _).1,by rw[xV];exact(Lt _ _).2⟩
 split
 ·unfold th
  split
  ·simp
  ·exact⟨by rw[afG];omega,by simp⟩
 ·unfold rP
  split
  ·exact⟨SM _ _ _,by simp⟩
  ·simp
theorem ahV(q:aY)(lb lt ak:List B8)(t:aH):(dR q lb lt ak t).cM.length<=1000000/\(dR q lb lt ak t).ex.length<=1000000:=by
 unfold dR
 split
 ·exact agO _ _ _ _
 ·simp
theorem _root_.Go.Ev.ah.gone{w0 w w':World}{S:List Nat}{L M:List aA}(H:ah w0 S w (L++M))(m:Mod (L.flatMap (·.fp)) w w'):ah w0 S w' M:=
 H.back (L':=[]) ⟨m,λk r h=>by simp at h,λk r h=>by simp at h,λj k r s _ h=>by simp at h⟩
def bT(a:fA)(lb lt ak:List B8)(t:aH):aH:=if a.tick=true then oM t a.q.gS else dT a.q lb lt ak t
def BT(w w':World)(v:Value)(T:aH):Prop:=∃s ys zs fp fq,v=.tuple ⟨[.agg ⟨T.cs s⟩,.bool true]⟩/\ah w [] w' (cJ s T ys zs fp fq)
def rQ(w:World)(a:fA)(lb lt ak:List B8):Prop:=Bytes w a.q.cM lb/\Bytes w a.q.tok lt/\Bytes w a.sd ak
theorem rQ.av{w w':World}{a:fA}{lb lt ak:List B8}(h:rQ w a lb lt ak)(m:Mod [] w w'):rQ w' a lb lt ak:=⟨h.1.av m,h.2.1.av m,h.2.2.av m⟩
theorem HN{b:Nat}{a:fA}{z:ag}{w:World}(hb:bp w b (a.cs z) pQ):∀(j:Nat) (v:Value),a.q.cells[j]? = some v->w.cell? (Addr.add (Addr.add ⟨b,0,none⟩ 0) j)=some v:=λj v hj=>by
 rw[add_add,ai,Nat.zero_add,hb.cell]
 have hl:j<a.q.cells.length:=(List.getElem?_eq_some_iff.1 hj).1
 unfold fA.cs
 rw[List.getElem?_append_left hl]
 exact hj
theorem YF(s:bW)(t:aH)(a:fA)(lb lt ak:List B8)(hs:t.small)(ha:a.tick=true)(w:World)(hg:Laid w)(hx:dF w s t)(hr:rQ w a lb lt ak):
  Ok Pr Ka [.agg ⟨t.cs s⟩,.agg ⟨a.cs ⟨none,0,0⟩⟩] w λv w'=>BT w w' v (bT a lb lt ak t):=by
 refine aC Tryz.func23 (J:=[(8,[(18,.bool)])]) ?_
 rw[oB,pZ]
 refine(ah.start w).nw λp w1 H _=>H.nw λp1 w2 H _=>H.nw λp2 w3 H _=>?_
 have H:ah w [] w3 [.aj p (t.cs s) aQ,.aj p1 (a.cs ⟨none,0,0⟩) pQ,.aj p2 (cQ.cs sZ) aQ]:=H
 refine H.mV 1 rfl (ai p1 15) rfl (ite_true ha ?_)
 have vq:Addr.add (Addr.add ⟨p1,0,none⟩ 0) 10=⟨p1,10,none⟩:=by rw[add_add,ai]
 have hT:bT a lb lt ak t=oM t a.q.gS:=by unfold bT;rw[if_pos ha]
 rw[hT]
 have Di:=Rk (c:=a.q.gS) hs
 refine H.bC 0 rfl (H.au 1 rfl vq rfl (an (Qo s t a.q.gS hs _ (hx.av H.mod)) ?_))
 rintro _ w4 ⟨s1,jN,jO,lg,lq,er,rfl,G⟩
 have K:=H.join G
 refine⟨_,rfl,ia ⟨_,rfl,rfl,K.nw λp3 w5 K _=>K.cF 11 rfl rfl λw6 K=>K.bC 0 rfl (K.au 1 rfl vq rfl (an (abO s t a.q.gS hs _ (hx.av K.mod)) ?_))⟩⟩
 rintro _ w7 ⟨s2,gu,zs2,de,iJ,rfl,G2⟩
 have K:=K.join G2
 generalize oM t a.q.gS=T at*
 generalize yq t a.q.gS=M at*
 generalize ku t a.q.gS=C at*
 refine⟨_,rfl,ia ⟨_,rfl,_,rfl,rfl,K.nw λp4 w8 K _=>K.cF 19 rfl rfl λw9 K=>?_⟩⟩
 have K:ah w [] w9 [.aj p (t.cs s) aQ,.aj p1 (a.cs ⟨none,0,0⟩) pQ,.aj p2 (cQ.cs sZ) aQ,.row aE 1 s1.sec (aG T.bN),.row cD 3 s1.ten (dJ T.bn),.row cc 6 s1.gr (cw T.aL),.row dM 5 s1.ax (aO bE.cs T.ax jN),.box lg λw=>aM eY w jN T.ax,.row aW 4 s1.key (aO aI.cs T.keys jO),.box lq λw=>aM cZ w jO T.keys,aA.err er C,.aj p3 (T.cs s1) aQ,.row aE 1 s2.sec (aG T.bN),.row cD 3 s2.ten (dJ T.bn),.row cc 6 s2.gr (cw T.aL),.row dM 5 s2.ax (aO bE.cs T.ax gu),.box de λw=>aM eY w gu T.ax,.row aW 4 s2.key (aO aI.cs T.keys zs2),.box iJ λw=>aM cZ w zs2 T.keys,.aj p4 (T.cs s2) aQ]:=K
 have D:=K.drew
 have r1:dF w9.drew s1 T:=nu (L:=[_,_,_]) (D.take 10)
 have r2:dF w9.drew s2 T:=nu (L:=[_,_,_,_,_,_,_,_,_,_,_,_]) (D.take 19)
 refine D.bC 19 rfl (D.bC 11 rfl (D.bC 19 rfl (an (JD s1 s2 T Di _ r1 r2) ?_)))
 rintro _ bP ⟨rfl,o9⟩
 have E:=D.frame o9
 refine aN ⟨gM (D.aj 19 rfl) (E.aj 19 rfl) 6,ite_true (by simp) (an (Gj er C bP (hg.nH E (by simp)) (E.ok 10 _ rfl)) ?_)⟩
 rintro _ bQ ⟨rfl,oa⟩
 have F:=E.frame oa
 refine bH ⟨gM (E.aj 19 rfl) (F.aj 19 rfl) 6,F.cF 2 rfl rfl λcH F=>F.bC 2 rfl ?_⟩
 refine⟨s2,gu,zs2,de,iJ,by rw[decide_eq_true rfl];rfl,?_⟩
 exact F.bX (L':=cJ s2 T gu zs2 de iJ) [12,13,14,15,16,17,18] (by decide) rfl
theorem Zi(s:bW)(t:aH)(a:fA)(lb lt ak:List B8)(hs:t.small)(ha:a.tick=false)(hl:lb.length<=1000000)(bZ:ak.length<=1000000)(w:World)(hg:Laid w)(hx:dF w s t)(hr:rQ w a lb lt ak):
  Ok Pr Ka [.agg ⟨t.cs s⟩,.agg ⟨a.cs ⟨none,0,0⟩⟩] w λv w'=>BT w w' v (bT a lb lt ak t):=by
 refine aC Tryz.func23 (J:=[(8,[(18,.bool)])]) ?_
 rw[oB,pZ]
 refine(ah.start w).nw λp w1 H _=>H.nw λp1 w2 H _=>H.nw λp2 w3 H _=>?_
 have H:ah w [] w3 [.aj p (t.cs s) aQ,.aj p1 (a.cs ⟨none,0,0⟩) pQ,.aj p2 (cQ.cs sZ) aQ]:=H
 refine H.mV 1 rfl (ai p1 15) rfl (ite_false ha ?_)
 have hT:bT a lb lt ak t=dT a.q lb lt ak t:=by unfold bT;rw[if_neg (by rw[ha];decide)]
 rw[hT]
 have Di:=Lr (q:=a.q) (lt:=lt) hs hl bZ
 have hRs:=ahV a.q lb lt ak t
 have r:=hr.av H.mod
 refine H.bC 0 rfl (Bs (HN (H.aj 1 rfl)) (H.az 1 rfl (ai p1 14) rfl (an (KD s t a.q lb lt a.sd ak hs bZ _ (hg.nH H (by simp)) (hx.av H.mod) r.1 r.2.1 r.2.2) ?_)))
 rintro _ w4 ⟨s1,jN,jO,lg,lq,y1,z1,er,rfl,G⟩
 have K:=H.join G
 refine⟨_,rfl,ia (tX ⟨rfl,K.nw λp3 w5 K _=>K.nw λp4 w6 K _=>K.cF 13 rfl rfl λw7 K=>K.dm 14 rfl rfl λw8 K=>?_⟩)⟩
 have r:=hr.av K.mod
 refine K.bC 0 rfl (Bs (HN (K.aj 1 rfl)) (K.az 1 rfl (ai p1 14) rfl (an (aex s t a.q lb lt a.sd ak hs bZ _ (hx.av K.mod) r.1 r.2.1 r.2.2) ?_)))
 rintro _ w9 ⟨s2,gu,zs2,de,iJ,y2,z2,rfl,G2⟩
 have K:=K.join G2
 generalize dT a.q lb lt ak t=T at*
 generalize dR a.q lb lt ak t=R at*
 generalize dC a.q lb lt ak t=C at*
 refine⟨_,rfl,ia (tX ⟨_,rfl,rfl,K.nw λp5 bP K _=>K.nw λp6 bQ K _=>K.cF 24 rfl rfl λcH K=>K.dm 25 rfl rfl λeg K=>?_⟩)⟩
 have K:ah w [] eg [.aj p (t.cs s) aQ,.aj p1 (a.cs ⟨none,0,0⟩) pQ,.aj p2 (cQ.cs sZ) aQ,.row aE 1 s1.sec (aG T.bN),.row cD 3 s1.ten (dJ T.bn),.row cc 6 s1.gr (cw T.aL),.row dM 5 s1.ax (aO bE.cs T.ax jN),.box lg λw=>aM eY w jN T.ax,.row aW 4 s1.key (aO aI.cs T.keys jO),.box lq λw=>aM cZ w jO T.keys,.cut y1 R.cM,.cut z1 R.ex,aA.err er C,.aj p3 (T.cs s1) aQ,.aj p4 (bR C R.id y1 z1) ct,.row aE 1 s2.sec (aG T.bN),.row cD 3 s2.ten (dJ T.bn),.row cc 6 s2.gr (cw T.aL),.row dM 5 s2.ax (aO bE.cs T.ax gu),.box de λw=>aM eY w gu T.ax,.row aW 4 s2.key (aO aI.cs T.keys zs2),.box iJ λw=>aM cZ w zs2 T.keys,.cut y2 R.cM,.cut z2 R.ex,.aj p5 (T.cs s2) aQ,.aj p6 (bR C R.id y2 z2) ct]:=K
 refine fo λgo aV=>?_
 have fin:∀ {fQ:World},ah w [] fQ [.aj p (t.cs s) aQ,.aj p1 (a.cs ⟨none,0,0⟩) pQ,.aj p2 (cQ.cs sZ) aQ,.row aE 1 s1.sec (aG T.bN),.row cD 3 s1.ten (dJ T.bn),.row cc 6 s1.gr (cw T.aL),.row dM 5 s1.ax (aO bE.cs T.ax jN),.box lg λw=>aM eY w jN T.ax,.row aW 4 s1.key (aO aI.cs T.keys jO),.box lq λw=>aM cZ w jO T.keys,.cut y1 R.cM,.cut z1 R.ex,aA.err er C,.aj p3 (T.cs s1) aQ,.aj p4 (bR C R.id y1 z1) ct,.row aE 1 s2.sec (aG T.bN),.row cD 3 s2.ten (dJ T.bn),.row cc 6 s2.gr (cw T.aL),.row dM 5 s2.ax (aO bE.cs T.ax gu),.box de λw=>aM eY w gu T.ax,.row aW 4 s2.key (aO aI.cs T.keys zs2),.box iJ λw=>aM cZ w zs2 T.keys,.cut y2 R.cM,.cut z2 R.ex,.aj p5 (T.cs s2) aQ,.aj p6 (bR C R.id y2 z2) ct]->go true fQ:=by
  intro fQ K
  have K:ah w [] fQ (cJ s1 T jN jO lg lq++([.cut y1 R.cM,.cut z1 R.ex]++([.aj p2 (cQ.cs sZ) aQ,.aj p3 (T.cs s1) aQ,.aj p4 (bR C R.id y1 z1) ct,.aj p5 (T.cs s2) aQ]++cJ s2 T gu zs2 de iJ))):=K.bX [3,4,5,6,7,8,9,10,11,2,13,14,24,15,16,17,18,19,20,21] (by decide) rfl
  refine aV _ _ (K.bC 10 rfl (an (YX s1 T jN jO lg lq Di K.sub) ?_))
  rintro _ ir ⟨rfl,kI⟩
  have K:=K.gone kI
  refine K.dO 4 rfl (an (YW C R.id y1 z1 R.cM R.ex (by omega) (by omega) K.sub) ?_)
  rintro _ gH ⟨rfl,xh⟩
  have K:=K.gone (by simpa[aA.cut]using xh)
  refine K.bC 3 rfl (K.cF 0 rfl rfl λlI K=>K.bC 0 rfl ?_)
  exact⟨s2,gu,zs2,de,iJ,rfl,K.bX (L':=cJ s2 T gu zs2 de iJ) [4,5,6,7,8,9,10] (by decide) rfl⟩
 have D:=K.drew
 have r1:dF eg.drew s1 T:=nu (L:=[_,_,_]) (D.take 10)
 have r2:dF eg.drew s2 T:=nu (L:=[_,_,_,_,_,_,_,_,_,_,_,_,_,_,_]) (D.take 22)
 refine D.bC 13 rfl (D.bC 24 rfl (an (JD s1 s2 T Di _ r1 r2) ?_))
 rintro _ fQ ⟨rfl,jJ⟩
 have E:=D.frame jJ
 refine aN (E.dO 14 rfl (E.dO 25 rfl (ite_true rfl (an (Yr C R.id y1 z1 y2 z2 R.cM R.ex (by omega) (by omega) _ (Cut.bytes (E.ok 10 _ rfl)) (Cut.bytes (E.ok 11 _ rfl)) (Cut.bytes (E.ok 22 _ rfl)) (Cut.bytes (E.ok 23 _ rfl))) ?_))))
 rintro _ ir ⟨rfl,kI⟩
 have E:=E.frame kI
 refine aN (ite_true rfl (an (Gj er C ir (hg.nH E (by simp)) (E.ok 12 _ rfl)) ?_))
 rintro _ gH ⟨rfl,xh⟩
 have E:=E.frame xh
 have r:=hr.av E.mod
 refine bH (E.bC 0 rfl (Bs (HN (E.aj 1 rfl)) (E.bC 0 rfl (Bs (HN (E.aj 1 rfl)) (ite_true (decide_eq_true rfl) (an (acU s t a.q lt hs _ (hx.av E.mod) r.2.1) ?_))))))
 have kp:∀ {u u':World},bp u p1 (a.cs ⟨none,0,0⟩) pQ->bp u' p1 (a.cs ⟨none,0,0⟩) pQ->kept (Addr.add ⟨p1,0,none⟩ 0) 14 u u':=λh h' j _=>by rw[add_add,ai,h.cell,h'.cell]
 rintro e17 lI ⟨he,ng⟩
 have F:=E.gW ng he
 refine⟨kp (E.aj 1 rfl) (F.aj 1 rfl),gM (E.aj 0 rfl) (F.aj 0 rfl) 6,an (Gj e17 _ lI (hg.nH F (by simp)) he.1) ?_⟩
 rintro _ pF ⟨rfl,Ob⟩
 have G:=F.frame Ob
 refine bH ⟨kp (F.aj 1 rfl) (G.aj 1 rfl),gM (F.aj 0 rfl) (G.aj 0 rfl) 6,an (QT s t a.q lt hs _ (hx.av G.mod) (hr.av G.mod).2.1) ?_⟩
 rintro _ qt ⟨rfl,Oc⟩
 refine bH ?_
 rw[decide_eq_true rfl]
 exact fin ((G.frame Oc).take 26)
theorem J8(s:bW)(t:aH)(a:fA)(lb lt ak:List B8)(hs:t.small)(hl:lb.length<=1000000)(bZ:ak.length<=1000000)(w:World)(hg:Laid w)(hx:dF w s t)(hr:rQ w a lb lt ak):
  Ok Pr Ka [.agg ⟨t.cs s⟩,.agg ⟨a.cs ⟨none,0,0⟩⟩] w λv w'=>BT w w' v (bT a lb lt ak t):=by
 cases ha:a.tick with
 |true=>exact YF s t a lb lt ak hs ha w hg hx hr
 |false=>exact Zi s t a lb lt ak hs ha hl bZ w hg hx hr
theorem ahW{a:fA}{lb lt ak:List B8}{t:aH}(hs:t.small)(hl:lb.length<=1000000)(bZ:ak.length<=1000000):(bT a lb lt ak t).small:=by
 unfold bT
 split
 ·exact Rk hs
 ·exact Lr hs hl bZ
end Go.Proofs.YtgjoehgomjgckaaGreatDoor
end
