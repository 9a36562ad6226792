/- Texts of this claim, packed and shortened. -/
import Derived.KernelRfl
import Derived.Test.YtpchgbolambkcaaGreatDoorQ3
import Derived.Test.YtpchgbolambkcaaGreatDoorQ1
import Derived.Test.YtpchgbolambkcaaGreatDoorQ2
section
set_option linter.unusedVariables false
set_option linter.unusedSimpArgs false
namespace Go.Proofs.YtpchgbolambkcaaGreatDoor
open Go Go.Ev
set_option maxRecDepth 20000
set_option linter.unusedVariables false
def lE (w:World) (x:ah) (p:cv):Prop:=Own w 0 aM 1 x (aL p.key)
def qI (w:World) (x:ah) (k:ct):Prop:=KJ w x k.bu
def kA (s:cL) (t:aJ) (ys zs:List ah) (fp fq:List Nat):List aB:=
 [.row aM 1 s.sec (aL t.fy),.row cZ 3 s.ten (gM t.bq),.row dJ 6 s.gr (gX t.cM),.row ey 5 s.aE (bP cv.cs t.aE ys),.box fp fun w=>br lE w ys t.aE,.row bW 4 s.key (bP ct.cs t.keys zs),.box fq fun w=>br qI w zs t.keys]
theorem JR {w:World} {ys:List ah} {l:List cv} (h:br lE w ys l):br zJ w ys l:=⟨h.1,fun i x v hx hv=>Own.bytes (h.2 i x v hx hv)⟩
theorem JS {w:World} {ys:List ah} {l:List ct} (h:br qI w ys l):br xK w ys l:=⟨h.1,fun i x v hx hv=>(h.2 i x v hx hv).bu⟩
theorem SU {w0 w:World} {S:List Nat} {L:List aB} {s:cL} {t:aJ} {ys zs:List ah} {fp fq:List Nat} (H:aq w0 S w (L ++ kA s t ys zs fp fq)):bN w s t:=by
 have H:=H.drop L.length
 rw [List.drop_left] at H
 exact ⟨Own.bytes (H.kK 0 rfl),fE.of (H.gQ 1 rfl),⟨ys,H.gQ 3 rfl,JR (H.box 4 rfl)⟩,⟨zs,H.gQ 5 rfl,JS (H.box 6 rfl)⟩,H.gQ 2 rfl⟩
theorem aah (p:cv) (x z:ah):p.cs z=(p.cs x).set 2 z.v:=rfl
theorem alS (k:ct) (x z:ah):k.cs z=(k.cs x).set 3 z.v:=rfl
theorem ahQ (s:cL) (t:aJ) (hs:t.small) (w:World) (hx:bN w s t):Ok Pr Pp [.agg ⟨t.cs s⟩] w fun r w'=>∃ s' ys zs fp fq,r=.agg ⟨t.cs s'⟩∧aq w [] w' (kA s' t ys zs fp fq):=by
 refine agB ?_
 unfold PL
 rw [lV]
 have lF:=hs.sec
 have rK:=hs.ten
 have sS:=hs.aE
 have DQ:=hs.key
 have xL:=hs.gr
 have Ho:=hs.pk
 have Hp:=hs.lS
 have ux:=hs.bV
 obtain ⟨h1,h2,⟨xs,h3,pT⟩,⟨us,h4,oW⟩,h5⟩:=hx
 have Lp:=h1.len
 refine (aq.start w).nw fun p w1 H _=>H.nw fun p1 w2 H _=>?_
 have H:aq w [] w2 [.av p (t.cs s) aA,.av p1 (mO 0 ⟨none,0,0⟩ ⟨none,0,0⟩ ⟨none,0,0⟩ ⟨none,0,0⟩ ⟨none,0,0⟩) aA]:=H
 have H:=H.drew
 refine H.ay 0 rfl (an p 1) rfl (H.ay 0 rfl (an p 2) rfl (H.ay 0 rfl (an p 3) rfl (H.ay 0 rfl (an p 4) rfl (H.ay 0 rfl (an p 5) rfl (aC (Mw s.sec t.fy lF _ (h1.aI H.mod)) ?_)))))
 rintro _ w3 ⟨y1,rfl,DS,m3⟩
 have H3:=H.gG m3 DS
 refine dP ⟨H.kept m3 0 rfl (an p 5) 1,H.kept m3 0 rfl (an p 4) 1,H.kept m3 0 rfl (an p 3) 1,H.kept m3 0 rfl (an p 2) 1,aC (WE s.ten t.bq (by omega) _ (h2.aI H3.mod)) ?_⟩
 rintro _ w4 ⟨y2,rfl,BH,_,m4⟩
 have H4:=H3.gG m4 BH
 refine dP ⟨H3.kept m4 0 rfl (an p 5) 1,H3.kept m4 0 rfl (an p 4) 1,H3.kept m4 0 rfl (an p 3) 1,aC (aeS s.aE t.aE xs pT.1 (by omega) _ (h3.aI H4.mod)) ?_⟩
 rintro _ w5 ⟨y3,rfl,hy3,GB,m5⟩
 have H5:=H4.gG m5 hy3
 refine dP ⟨H4.kept m5 0 rfl (an p 5) 1,H4.kept m5 0 rfl (an p 4) 1,aC (aeT s.key t.keys us oW.1 (by omega) _ (h4.aI H5.mod)) ?_⟩
 rintro _ w6 ⟨y4,rfl,hy4,UK,m6⟩
 have H6:=H5.gG m6 hy4
 refine dP ⟨H5.kept m6 0 rfl (an p 5) 1,aC (afc s.gr t.cM (by omega) _ (h5.aI H6.mod)) ?_⟩
 rintro _ w7 ⟨y5,rfl,hy5,hn5,m7⟩
 have H7:=H6.gG m7 hy5
 refine dP ?_
 refine H7.st 0 rfl (an p 1) (by show 1<6; omega) rfl fun w8 H8=>H8.st 0 rfl (an p 2) (by show 2<6; omega) rfl fun w9 H9=>H9.st 0 rfl (an p 3) (by show 3<6; omega) rfl fun dN rF=>rF.st 0 rfl (an p 4) (by show 4<6; omega) rfl fun fZ rG=>rG.st 0 rfl (an p 5) (by show 5<6; omega) rfl fun dO uD=>?_
 have H:aq w [] dO [.av p (t.cs ⟨y1,y2,y3,y4,y5⟩) aA,.av p1 (mO 0 ⟨none,0,0⟩ ⟨none,0,0⟩ ⟨none,0,0⟩ ⟨none,0,0⟩ ⟨none,0,0⟩) aA,.row aM 1 y1 (aL t.fy),.row cZ 3 y2 (gM t.bq),.row ey 5 y3 (bP cv.cs t.aE xs),.row bW 4 y4 (bP ct.cs t.keys us),.row dJ 6 y5 (gX t.cM)]:=uD
 have zH:=(H.gQ 4 rfl).len
 rw [kI cv.eo _ _ pT.1] at zH
 have vZ:=(H.gQ 5 rfl).len
 rw [kI ct.eo _ _ oW.1] at vZ
 have e3:t.aE.length=y3.n:=by omega
 have e4:t.keys.length=y4.n:=by omega
 have H:=H.eu (L':=[.av p (t.cs ⟨y1,y2,y3,y4,y5⟩) aA,.av p1 (mO 0 ⟨none,0,0⟩ ⟨none,0,0⟩ ⟨none,0,0⟩ ⟨none,0,0⟩ ⟨none,0,0⟩) aA,.row aM 1 y1 (aL t.fy),.row cZ 3 y2 (gM t.bq),.row dJ 6 y5 (gX t.cM),.row bW 4 y4 (bP ct.cs t.keys us)] ++ [.row ey 5 y3 (bP cv.cs t.aE xs)]) [0,1,2,3,6,5,4] (by decide) rfl
 refine H.ay 0 rfl (an p 3) rfl ?_
 refine ep 0 t.aE.length (fun i w'=>iL cv.cs 5 lE ey w [] [.av p (t.cs ⟨y1,y2,y3,y4,y5⟩) aA,.av p1 (mO 0 ⟨none,0,0⟩ ⟨none,0,0⟩ ⟨none,0,0⟩ ⟨none,0,0⟩ ⟨none,0,0⟩) aA,.row aM 1 y1 (aL t.fy),.row cZ 3 y2 (gM t.bq),.row dJ 6 y5 (gX t.cM),.row bW 4 y4 (bP ct.cs t.keys us)] w' y3 t.aE xs i) rfl (by omega) (iL.start H) ?_ ?_
 ·intro again i gH _ hi R aR
  have R:=R.frame (Mod.drew [] gH)
  have ha:t.aE[i]? = some t.aE[i]:=List.getElem?_eq_getElem hi
  have fK:xs[i]? = some (xs[i]'(by rw [pT.1]; exact hi)):=List.getElem?_eq_getElem _
  have ux:=Ho _ (List.getElem_mem hi)
  have lq:=pT.2 i _ _ fK ha
  obtain ⟨cU,hc⟩:=R.at cv.eo (by omega) pT.1 ha fK
  generalize t.aE[i]=v at *
  generalize xs[i]'(by rw [pT.1]; exact hi)=z at *
  have F:=R.front
  refine ite_true (decide_eq_true (show (i:Int)<(y3.n:Int) by omega)) (F.ay 0 rfl (an p 3) rfl (F.ay 0 rfl (an p 3) rfl ⟨cU,z,hc 2 z.v rfl,aC (Mw z v.key ux _ (Bytes.aI lq F.mod)) ?_⟩))
  rintro _ kN Hq
  obtain ⟨u,rfl,hu⟩:=Hq.ab2
  exact dP ⟨F.kept hu.mod 0 rfl (an p 3) 1,cU,R.step cv.eo pT.1 ha fK (hu:oN _ _ fun w=>lE w u v) (by omega:2<5) (aah v z u) fun nv R=>⟨⟨by omega,by omega⟩,aR nv R⟩⟩
 ·intro again gH R
  obtain ⟨ys,fp,H⟩:=R.done rfl pT.1
  have H:=H.eu (L':=[.av p (t.cs ⟨y1,y2,y3,y4,y5⟩) aA,.av p1 (mO 0 ⟨none,0,0⟩ ⟨none,0,0⟩ ⟨none,0,0⟩ ⟨none,0,0⟩ ⟨none,0,0⟩) aA,.row aM 1 y1 (aL t.fy),.row cZ 3 y2 (gM t.bq),.row dJ 6 y5 (gX t.cM),.row ey 5 y3 (bP cv.cs t.aE ys),.box fp fun w=>br lE w ys t.aE] ++ [.row bW 4 y4 (bP ct.cs t.keys us)]) [0,1,2,3,4,6,7,5] (by decide) rfl
  refine ite_false (decide_eq_false (by show ¬ ((t.aE.length:Int)<(y3.n:Int)); omega)) (H.ay 0 rfl (an p 4) rfl ?_)
  obtain ⟨L,hL⟩:∃ L,L=[aB.av p (t.cs ⟨y1,y2,y3,y4,y5⟩) aA,.av p1 (mO 0 ⟨none,0,0⟩ ⟨none,0,0⟩ ⟨none,0,0⟩ ⟨none,0,0⟩ ⟨none,0,0⟩) aA,.row aM 1 y1 (aL t.fy),.row cZ 3 y2 (gM t.bq),.row dJ 6 y5 (gX t.cM),.row ey 5 y3 (bP cv.cs t.aE ys),.box fp fun w=>br lE w ys t.aE]:=⟨_,rfl⟩
  rw [← hL] at H
  have DT:L[0]? = some (.av p (t.cs ⟨y1,y2,y3,y4,y5⟩) aA):=by rw [hL]; rfl
  refine ep 0 t.keys.length (fun i w'=>iL ct.cs 4 qI bW w [] L w' y4 t.keys us i) rfl (by omega) (iL.start H) ?_ ?_
  ·intro again i mN _ hi R aR
   have ha:t.keys[i]? = some t.keys[i]:=List.getElem?_eq_getElem hi
   have fK:us[i]? = some (us[i]'(by rw [oW.1]; exact hi)):=List.getElem?_eq_getElem _
   have hv1:=Hp _ (List.getElem_mem hi)
   have UL:=ux _ (List.getElem_mem hi)
   have lq:=oW.2 i _ _ fK ha
   obtain ⟨cU,hc⟩:=R.at ct.eo (by omega) oW.1 ha fK
   generalize t.keys[i]=k at *
   generalize us[i]'(by rw [oW.1]; exact hi)=z at *
   have F:=R.front
   obtain ⟨vs,pQ,zL⟩:=lq
   refine ite_true (decide_eq_true (show (i:Int)<(y4.n:Int) by omega)) (F.ay 0 DT (an p 4) rfl ⟨cU,z,hc 3 z.v rfl,aC (aeQ z k.bu vs zL.1 (by omega) _ (pQ.aI F.mod)) ?_⟩)
   rintro _ pU ⟨u,rfl,hu,hun,rL⟩
   have BC:=(Own.sl hu).len
   rw [kI cJ.eo _ _ zL.1] at BC
   have asQ:k.bu.length=u.n:=by omega
   obtain ⟨qs,fq,hq,D⟩:=R
   have D:=D.gG rL hu
   rw [List.append_assoc] at D
   refine dP (D.anH ct.eo hq oW.1 ha fK (by omega:3<4) (alS k z u) fun wh D=>?_)
   have D:aq w [] wh ((L ++ [.row bW 4 y4 (bP ct.cs t.keys (qs ++ u :: us.drop (i+1))),.box fq fun w=>br qI w qs (t.keys.take i)]) ++ [.row eW 4 u (bP cJ.cs k.bu vs)]):=by rw [List.append_assoc]; exact D
   have hqu:(qs ++ u :: us.drop (i+1))[i]? = some u:=by rw [List.getElem?_append_right (by omega),hq,Nat.sub_self]; rfl
   have cell:∀ {w2:World},aq w [] w2 (L ++ [.row bW 4 y4 (bP ct.cs t.keys (qs ++ u :: us.drop (i+1))),.box fq fun w=>br qI w qs (t.keys.take i)])→w2.cell? (Addr.add (Addr.add (base y4.a) (Int.toNat (i:Int) * 4)) 3)=some u.v:=fun G=>by
    rw [Int.toNat_natCast]
    exact (G.gQ L.length A7).Dp ct.eo ha hqu (j:=3) rfl
   refine ⟨u,cell D.front,?_⟩
   refine ep 0 k.bu.length (fun n w'=>iL cJ.cs 4 vH eW w [] (L ++ [.row bW 4 y4 (bP ct.cs t.keys (qs ++ u :: us.drop (i+1))),.box fq fun w=>br qI w qs (t.keys.take i)]) w' u k.bu vs n) rfl (by omega) (iL.start D) ?_ ?_
   ·intro aaV n xN _ hn R2 TT
    have R2:=R2.frame (Mod.drew [] xN)
    have hb:k.bu[n]? = some k.bu[n]:=List.getElem?_eq_getElem hn
    have UM:vs[n]? = some (vs[n]'(by rw [zL.1]; exact hn)):=List.getElem?_eq_getElem _
    have lF:=UL _ (List.getElem_mem hn)
    have qE:=zL.2 n _ _ UM hb
    obtain ⟨abH,Lq⟩:=R2.at cJ.eo (by omega) zL.1 hb UM
    generalize k.bu[n]=v at *
    generalize vs[n]'(by rw [zL.1]; exact hn)=x at *
    have F2:=R2.front
    refine ite_true (decide_eq_true (by omega)) ⟨u,cell F2,u,cell F2,abH,x,Lq 3 x.v rfl,aC (Mw x v.bV lF _ (Bytes.aI qE F2.mod)) ?_⟩
    rintro _ Lr h20
    obtain ⟨y,rfl,hy⟩:=h20.ab2
    exact dP ⟨RN hy.mod (cell F2),abH,R2.step cJ.eo zL.1 hb UM (hy:oN _ _ fun w=>vH w y v) (by omega:3<4) (ZF v x y) fun Ls R2=>⟨⟨by omega,by omega⟩,TT Ls R2⟩⟩
   ·intro aaV xN R2
    obtain ⟨zs,f2,G⟩:=R2.done rfl zL.1
    obtain ⟨f3,G⟩:=G.amO
    have G:=G.E8 (Q':=fun w=>qI w u k) (L ++ [aB.row bW 4 y4 (bP ct.cs t.keys (qs ++ u :: us.drop (i+1))),.box fq fun w=>br qI w qs (t.keys.take i)]).length A7 fun w h=>⟨zs,h.1,h.2⟩
    rw [List.set_append_right _ _ (Nat.le_refl _),Nat.sub_self,List.set_cons_zero,List.append_assoc] at G
    exact ite_false (decide_eq_false (by omega)) ⟨⟨by omega,by omega⟩,aR _ (iL.close hq ha G)⟩
  ·intro again mN R
   obtain ⟨zs,fq,H⟩:=R.done rfl oW.1
   subst hL
   refine ite_false (decide_eq_false (show ¬ ((t.keys.length:Int)<(y4.n:Int)) by omega)) (H.aG 0 rfl (H.aV 1 rfl rfl fun pU H=>H.aG 1 rfl ?_))
   exact ⟨⟨y1,y2,y3,y4,y5⟩,ys,zs,fp,fq,rfl,H.drop 2⟩
end Go.Proofs.YtpchgbolambkcaaGreatDoor
end
section
set_option linter.unusedVariables false
set_option linter.unusedSimpArgs false
namespace Go.Ev
open Go Go.RowKit
set_option linter.unusedVariables false
def ov (vs:List Value) (p:Nat) (l:List Value):List Value:=vs.take p ++ (l ++ vs.drop (p+l.length))
theorem amP (vs:List Value) (p:Nat):ov vs p []=vs:=by unfold ov; simp
theorem alT (vs:List Value) (p:Nat) (v:Value) (l:List Value) (h:p<vs.length):ov (vs.set p v) (p+1) l=ov vs p (v :: l):=by
 unfold ov
 rw [List.length_cons,List.drop_set_of_lt (by omega),show p+(l.length+1)=p+1+l.length by omega,List.take_set,List.take_add_one,List.getElem?_eq_getElem h,List.set_append_right _ _ (by rw [List.length_take]; omega),List.length_take,Nat.min_eq_left (by omega),Nat.sub_self]
 simp
theorem aq.vt {w0:World} {S:List Nat} {k:Nat} {e:TypeId} {sz:Nat} {s:ah} {o:Nat} {K:World→Prop}:∀ (l:List Value) {i:Nat} {vs:List Value} {L:List aB} {w:World},aq w0 S w L→L[k]? = some (.row e sz s vs)→o+i+l.length≤vs.length→(∀ v∈l,fW v=true)→
  (∀ w',aq w0 S w' (L.set k (.row e sz s (ov vs (o+i) l)))→K w')→Ev.vt l (Addr.add (base s.a) o) i w K
 | [],i,vs,L,w,H,hk,hl,h1,h=>by
  refine h w ?_
  rw [amP,Cm hk]
  exact H
 | v :: r,i,vs,L,w,H,hk,hl,h1,h=>by
  rw [List.length_cons] at hl
  refine H.jD k (i:=o+i) hk (by rw [add_add]) (by omega) (h1 v (List.mem_cons_self ..)) fun w1 H1=>?_
  have bR:k<L.length:=(List.getElem?_eq_some_iff.1 hk).1
  refine aq.vt r H1 (by rw [List.getElem?_set,if_pos rfl,if_pos bR]) (by rw [List.length_set]; omega) (fun u hu=>h1 u (List.mem_cons_of_mem _ hu)) fun w' H'=>h w' ?_
  rw [List.set_set,show o+(i+1)=o+i+1 by omega,alT _ _ _ _ (by omega)] at H'
  exact H'
section
variable {A:Type} {C:A→ah→List Value} {sz:Nat} {te:TypeId} {w0 w:World} {S:List Nat} {L:List aB} {s:ah} {ls:List A} {xs:List ah} {i:Nat}
theorem Y4 {a:A} {x:ah} (hx:xs.length=ls.length) (ha:ls[i]? = some a) (fK:xs[i]? = some x):bP C ls xs=bP C (ls.take i) (xs.take i) ++ (C a x ++ bP C (ls.drop (i+1)) (xs.drop (i+1))):=by
 have hi:=(List.getElem?_eq_some_iff.1 ha).1
 have h1:=Cz (C:=C) (ls.take i) (xs.take i) (by simp [hx]) (ls.drop i) (xs.drop i)
 rw [List.take_append_drop,List.take_append_drop] at h1
 rw [h1,List.drop_eq_getElem_cons hi,List.drop_eq_getElem_cons (show i<xs.length by omega),tH]
 congr 3
 ·exact Option.some.inj ((List.getElem?_eq_getElem hi).symm.trans ha)
 ·exact Option.some.inj ((List.getElem?_eq_getElem (by omega)).symm.trans fK)
theorem amQ (hC:∀ a x,(C a x).length=sz) (hx:xs.length=ls.length) (hi:i<ls.length) (a':A) (x':ah):ov (bP C ls xs) (i * sz) (C a' x')=bP C (ls.set i a') (xs.set i x'):=by
 obtain ⟨a,ha⟩:∃ a,ls[i]? = some a:=⟨_,List.getElem?_eq_getElem hi⟩
 obtain ⟨x,fK⟩:∃ x,xs[i]? = some x:=⟨_,List.getElem?_eq_getElem (by omega)⟩
 have e2:=Y4 (C:=C) (ls:=ls.set i a') (xs:=xs.set i x') (i:=i) (a:=a') (x:=x') (by simp [hx]) (by rw [List.getElem?_set,if_pos rfl,if_pos hi]) (by rw [List.getElem?_set,if_pos rfl,if_pos (by omega)])
 rw [List.take_set_of_le (Nat.le_refl _),List.take_set_of_le (Nat.le_refl _),List.drop_set_of_lt (by omega),List.drop_set_of_lt (by omega)] at e2
 have hl:(bP C (ls.take i) (xs.take i)).length=i * sz:=by
  rw [kI hC _ _ (by simp [hx]),List.length_take,Nat.min_eq_left (by omega)]
 rw [e2]
 unfold ov
 rw [Y4 hx ha fK,List.take_append_of_le_length (by omega),List.take_of_length_le (by omega),List.drop_append,List.drop_of_length_le (by omega),List.nil_append,hl,hC,Nat.add_sub_cancel_left,List.drop_append,List.drop_of_length_le (by rw [hC]; omega),hC,Nat.sub_self]
 rfl
theorem aq.putAt (H:aq w0 S w L) (k:Nat) (hk:L[k]? = some (.row te sz s (bP C ls xs))) (hC:∀ a x,(C a x).length=sz) (hx:xs.length=ls.length) (hi:i<ls.length) (a':A) (x':ah) (h1:∀ v∈C a' x',fW v=true) {K:World→Prop}
  (h:∀ w',aq w0 S w' (L.set k (.row te sz s (bP C (ls.set i a') (xs.set i x'))))→K w'):Ev.vt (C a' x') (Addr.add (base s.a) (Int.toNat (i:Int) * sz)) 0 w K:=by
 rw [Int.toNat_natCast]
 refine aq.vt (C a' x') H hk ?_ h1 fun w' H'=>h w' ?_
 ·rw [kI hC _ _ hx,hC]
  have:=Nat.mul_le_mul_right sz (show i+1≤ls.length from hi)
  rw [Nat.succ_mul] at this
  omega
 ·rw [Nat.add_zero,amQ hC hx hi] at H'
  exact H'
end
end Go.Ev
end
section
set_option linter.unusedVariables false
set_option linter.unusedSimpArgs false
namespace Go.Proofs.YtpchgbolambkcaaGreatDoor
open Go Go.Ev
set_option maxRecDepth 20000
set_option linter.unusedVariables false
theorem XA (s:cL) (t:aJ) (hs:t.small) (w:World) (hx:bN w s t):Ok Pr I3 [.agg ⟨t.cs s⟩] w fun r w'=>∃ s' ys zs fp fq,r=.agg ⟨t.cs s'⟩∧aq w [] w' (kA s' t ys zs fp fq):=by
 refine agy ?_
 unfold PI
 rw [lV]
 have lF:=hs.sec
 have rK:=hs.ten
 have sS:=hs.aE
 have DQ:=hs.key
 have xL:=hs.gr
 have Ho:=hs.pk
 have Hp:=hs.lS
 have ux:=hs.bV
 have zH:=hx.aE.len
 have vZ:=hx.key.len
 obtain ⟨h1,h2,⟨xs,h3,pT⟩,⟨us,h4,oW⟩,h5⟩:=hx
 have Lp:=h1.len
 have wg:=(fE.len h2)
 have Hl:=kO.len h5
 refine (aq.start w).nw fun p w1 H _=>H.nw fun p1 w2 H _=>?_
 have H:aq w [] w2 [.av p (t.cs s) aA,.av p1 (mO 0 ⟨none,0,0⟩ ⟨none,0,0⟩ ⟨none,0,0⟩ ⟨none,0,0⟩ ⟨none,0,0⟩) aA]:=H
 refine H.ay 0 rfl (an p 1) rfl (H.CZ hO (h1.aI H.mod) (by omega) fun y1 w3 H _=>H.st 0 rfl (an p 1) (by show 1<6; omega) rfl fun w4 H=>H.ay 0 rfl (an p 2) rfl ?_)
 refine H.clone AD ((fE.sl h2).aI H.mod) (vo (C:=bZ.cs) (fun a x v hv=>bZ.jM a x v hv) _ _) (by show s.ten.n * 32≤_; omega) (by show s.ten.n≤_; omega) fun y2 w5 H _=>H.st 0 rfl (an p 2) (by show 2<6; omega) rfl fun w6 H=>H.ay 0 rfl (an p 3) rfl ?_
 refine H.clone Sv (h3.aI H.mod) (vo cv.jM _ _) (by show s.aE.n * 56≤_; omega) (by show s.aE.n≤_; omega) fun y3 w7 H GB=>H.st 0 rfl (an p 3) (by show 3<6; omega) rfl fun w8 H=>?_
 have H:aq w [] w8 ([.av p (t.cs ⟨y1,y2,y3,s.key,s.gr⟩) aA,.av p1 (mO 0 ⟨none,0,0⟩ ⟨none,0,0⟩ ⟨none,0,0⟩ ⟨none,0,0⟩ ⟨none,0,0⟩) aA,.row aM 1 y1 (aL t.fy),.row cZ 3 y2 (gM t.bq)] ++ [.row ey 5 y3 (bP cv.cs t.aE xs)]):=H
 have e3:t.aE.length=y3.n:=by rw [GB]; exact zH
 refine ep 0 t.aE.length (fun i w'=>iL cv.cs 5 lE ey w [] [.av p (t.cs ⟨y1,y2,y3,s.key,s.gr⟩) aA,.av p1 (mO 0 ⟨none,0,0⟩ ⟨none,0,0⟩ ⟨none,0,0⟩ ⟨none,0,0⟩ ⟨none,0,0⟩) aA,.row aM 1 y1 (aL t.fy),.row cZ 3 y2 (gM t.bq)] w' y3 t.aE xs i) rfl (by omega) (iL.start H) ?_ ?_
 ·intro again i gH _ hi R aR
  have F0:=R.front
  have R:=R.frame (Mod.drew [] gH)
  have ha:t.aE[i]? = some t.aE[i]:=List.getElem?_eq_getElem hi
  have fK:xs[i]? = some (xs[i]'(by rw [pT.1]; exact hi)):=List.getElem?_eq_getElem _
  have ux:=Ho _ (List.getElem_mem hi)
  have lq:=pT.2 i _ _ fK ha
  obtain ⟨cU,hc⟩:=R.at cv.eo (by omega) pT.1 ha fK
  generalize t.aE[i]=v at *
  generalize xs[i]'(by rw [pT.1]; exact hi)=z at *
  have F:=R.front
  have hb:Bytes gH.drew z v.key:=Bytes.aI lq F.mod
  have vW:=Bytes.len hb
  refine F0.ay 0 rfl (an p 3) rfl (ite_true (decide_eq_true (show (i:Int)<(y3.n:Int) by omega)) (F.ay 0 rfl (an p 3) rfl (F.ay 0 rfl (an p 3) rfl ⟨cU,z,hc 2 z.v rfl,(aq.start gH.drew).CZ hO hb (by omega) fun u kN U _=>?_⟩)))
  have hu:oN gH.drew kN fun w=>lE w u v:=U.boxed fun w' h=>h 0 _ rfl
  exact ⟨F.kept hu.mod 0 rfl (an p 3) 1,cU,R.step cv.eo pT.1 ha fK hu (by omega:2<5) (aah v z u) fun nv R=>⟨⟨by omega,by omega⟩,aR nv R⟩⟩
 ·intro again gH R
  have F0:=R.front
  obtain ⟨ys,fp,H⟩:=R.done rfl pT.1
  refine F0.ay 0 rfl (an p 3) rfl (ite_false (decide_eq_false (show ¬ ((t.aE.length:Int)<(y3.n:Int)) by omega)) (H.ay 0 rfl (an p 4) rfl ?_))
  refine H.clone Sw (h4.aI H.mod) (vo ct.jM _ _) (by show s.key.n * 48≤_; omega) (by show s.key.n≤_; omega) fun y4 kN H UK=>H.st 0 rfl (an p 4) (by show 4<6; omega) rfl fun nv H=>?_
  have e4:t.keys.length=y4.n:=by rw [UK]; exact vZ
  obtain ⟨L,hL⟩:∃ L,L=[aB.av p (t.cs ⟨y1,y2,y3,y4,s.gr⟩) aA,.av p1 (mO 0 ⟨none,0,0⟩ ⟨none,0,0⟩ ⟨none,0,0⟩ ⟨none,0,0⟩ ⟨none,0,0⟩) aA,.row aM 1 y1 (aL t.fy),.row cZ 3 y2 (gM t.bq),.row ey 5 y3 (bP cv.cs t.aE ys),.box fp fun w=>br lE w ys t.aE]:=⟨_,rfl⟩
  have H:aq w [] nv (L ++ [.row bW 4 y4 (bP ct.cs t.keys us)]):=by rw [hL]; exact H
  have DT:L[0]? = some (.av p (t.cs ⟨y1,y2,y3,y4,s.gr⟩) aA):=by rw [hL]; rfl
  refine ep 0 t.keys.length (fun i w'=>iL ct.cs 4 qI bW w [] L w' y4 t.keys us i) rfl (by omega) (iL.start H) ?_ ?_
  ·intro again i mN _ hi R aR
   have F0:=R.front
   have R:=R.frame (Mod.drew [] mN)
   have ha:t.keys[i]? = some t.keys[i]:=List.getElem?_eq_getElem hi
   have fK:us[i]? = some (us[i]'(by rw [oW.1]; exact hi)):=List.getElem?_eq_getElem _
   have hv1:=Hp _ (List.getElem_mem hi)
   have UL:=ux _ (List.getElem_mem hi)
   have lq:=oW.2 i _ _ fK ha
   obtain ⟨cU,hc⟩:=R.at ct.eo (by omega) oW.1 ha fK
   have A6:t.keys.set i t.keys[i]=t.keys:=Cm ha
   generalize t.keys[i]=k at *
   generalize us[i]'(by rw [oW.1]; exact hi)=z at *
   have F:=R.front
   refine F0.ay 0 DT (an p 4) rfl (ite_true (decide_eq_true (show (i:Int)<(y4.n:Int) by omega)) (F.ay 0 DT (an p 4) rfl (F.ay 0 DT (an p 4) rfl ⟨cU,wF hc (aC (ahO k z hv1 UL _ (oQ.aI lq F.mod)) ?_)⟩)))
   rintro _ pU ⟨u,rfl,hu⟩
   have uK:=hu.box
   obtain ⟨qs,fq,hq,D⟩:=R
   obtain ⟨f2,D⟩:=D.yK uK
   refine Xx ⟨RN uK.mod (F.cell 0 DT (an p 4) rfl),cU,?_⟩
   have G5:(qs ++ us.drop i).length=t.keys.length:=by rw [List.length_append,List.length_drop,oW.1]; omega
   have hsu:(qs ++ us.drop i).set i u=qs ++ u :: us.drop (i+1):=by
    rw [List.set_append_right _ _ (by omega),hq,Nat.sub_self,List.drop_eq_getElem_cons (by rw [oW.1]; exact hi),List.set_cons_zero]
   rw [List.append_assoc] at D
   show vt (k.cs u) _ 0 _ _
   refine D.putAt L.length A7 ct.eo G5 hi k u (ct.jM k u) fun wh D=>⟨⟨by omega,by omega⟩,aR _ (iL.close (z:=u) hq ha (fp:=fq) (l6:=f2) ?_)⟩
   rw [List.set_append_right _ _ (Nat.le_refl _),Nat.sub_self,A6,hsu] at D
   exact D
  ·intro again mN R
   have F0:=R.front
   obtain ⟨zs,fq,H⟩:=R.done rfl oW.1
   subst hL
   refine F0.ay 0 rfl (an p 4) rfl (ite_false (decide_eq_false (show ¬ ((t.keys.length:Int)<(y4.n:Int)) by omega)) (H.ay 0 rfl (an p 5) rfl ?_))
   refine H.clone KB (h5.aI H.mod) (ZE _) (by show s.gr.n * 48≤_; omega) (by show s.gr.n≤_; omega) fun y5 pU H _=>H.st 0 rfl (an p 5) (by show 5<6; omega) rfl fun wh H=>?_
   refine H.aG 0 rfl (H.aV 1 rfl rfl fun xN H=>H.aG 1 rfl ?_)
   refine ⟨⟨y1,y2,y3,y4,y5⟩,ys,zs,fp,fq,rfl,?_⟩
   exact H.eu [2,3,8,4,5,6,7] (by decide) rfl
end Go.Proofs.YtpchgbolambkcaaGreatDoor
end
section
set_option linter.unusedVariables false
set_option linter.unusedSimpArgs false
namespace Go.Proofs.YtpchgbolambkcaaGreatDoor
open Go Go.Ev
set_option maxRecDepth 20000
set_option linter.unusedVariables false
def sZ:cL:=⟨⟨none,0,0⟩,⟨none,0,0⟩,⟨none,0,0⟩,⟨none,0,0⟩,⟨none,0,0⟩⟩
def bK:aJ:=⟨0,[],[],[],[],[]⟩
theorem aq.aaW {w0 w:World} {S:List Nat} {L:List aB} (H:aq w0 S w L) {Q:World→Prop} (h:∀ w,Q w):aq w0 S w (L ++ [.box [] Q]):=
 H.push (Mod.refl [] w) ⟨fun b hb=>(by cases hb),fun w' _=>h w'⟩ (fun b hb=>(by cases hb))
theorem RW {w0 w:World} {S:List Nat} {L:List aB} (H:aq w0 S w L):aq w0 S w (L ++ kA sZ bK [] [] [] []):=by
 have H:=H.jC aM 1
 have H:=H.jC cZ 3
 have H:=H.jC dJ 6
 have H:=H.jC ey 5
 have H:=aq.aaW H (Q:=fun w=>br lE w [] ([]:List cv)) fun w=>⟨rfl,fun i x l h=>by simp at h⟩
 have H:=H.jC bW 4
 have H:=aq.aaW H (Q:=fun w=>br qI w [] ([]:List ct)) fun w=>⟨rfl,fun i x l h=>by simp at h⟩
 simp only [List.append_assoc,List.cons_append,List.nil_append] at H
 exact H
def kB (name:ByteArray) (vk sec:List B8):aJ:=⟨0,sec,[⟨1,0,name⟩],[⟨1,1,vk,0,0⟩],[],[]⟩
theorem Rl {name:ByteArray} {vk sec:List B8} (h1:vk.length≤1000000) (h2:sec.length≤1000000):(kB name vk sec).small where
 sec:=h2
 ten:=by show 1≤1000; omega
 aE:=by show 1≤1000; omega
 key:=by show 0≤1000; omega
 gr:=by show 0≤1000; omega
 pk:=fun p hp=>by rw [List.mem_singleton.1 hp]; exact h1
 lS:=fun k hk=>by cases hk
 bV:=fun k hk=>by cases hk
 gf:=fun k hk=>by cases hk
theorem amR {w:World} {name:ByteArray} {vk sec:List B8} {x y:ah} {p q:Nat} (hx:Bytes w x vk) (hy:Bytes w y sec) (hp:bQ w p (lK 1 0 name) cZ) (hq:bQ w q (rU 1 1 x 0 0) ey):bN w ⟨y,⟨some ⟨p,0,none⟩,1,1⟩,⟨some ⟨q,0,none⟩,1,1⟩,⟨none,0,0⟩,⟨none,0,0⟩⟩ (kB name vk sec) where
 sec:=hy
 ten:=fE.of (by
  have:=hp.sl 3 1 1 (by simp) (by omega)
  simpa [gM,bP,kB,bZ.cs,lK] using this)
 aE:=⟨[x],by
  have:=hq.sl 5 1 1 (by simp) (by omega)
  rw [show (kB name vk sec).aE=[⟨1,1,vk,0,0⟩] from rfl,E6]
  simpa [cv.cs,rU] using this,rfl,fun i u l h1 h2=>by
   cases i with
   | zero=>
    simp only [List.getElem?_cons_zero,Option.some.injEq,kB] at h1 h2
    subst h1 h2; exact hx
   | succ i=>simp [kB] at h2⟩
 key:=Dv.nil w
 gr:=kO.nil w
def Hr (name:ByteArray) (vk sec:List B8):aJ:=if dh (kB name vk sec)=true then kB name vk sec else bK
def UN (name:ByteArray) (vk sec:List B8):Int:=if dh (kB name vk sec)=true then 0 else 2
def ab4 (w w':World) (v:Value) (t:aJ) (rest:List Value) (M:List aB):Prop:=∃ s ys zs fp fq,v=.tuple ⟨.agg ⟨t.cs s⟩ :: rest⟩∧aq w [] w' (kA s t ys zs fp fq ++ M)
theorem ahi (name:ByteArray) (x y:ah) (vk sec:List B8) (h1:vk.length≤1000000) (h2:sec.length≤1000000) (w:World) (hx:Bytes w x vk) (hy:Bytes w y sec):Ok Pr qP [.string name,.slice x.a x.n x.c,.slice y.a y.n y.c] w fun v w'=>ab4 w w' v (Hr name vk sec) [.int .i64 (UN name vk sec)] []:=by
 refine afO ?_
 unfold ON
 rw [lV]
 have hT:Hr name vk sec=if dh (kB name vk sec)=true then kB name vk sec else bK:=rfl
 have hC:UN name vk sec=if dh (kB name vk sec)=true then 0 else 2:=rfl
 generalize Hr name vk sec=T at *
 generalize UN name vk sec=C at *
 refine (aq.start w).nw fun p w1 H _=>H.nw fun p1 w2 H _=>H.nw fun p2 w3 H _=>?_
 have H:aq w [] w3 [.av p (bK.cs sZ) aA,.av p1 (lK 1 0 name) cZ,.av p2 (rU 1 1 x 0 0) ey]:=H
 refine aC (XA ⟨y,⟨some ⟨p1,0,none⟩,1,1⟩,⟨some ⟨p2,0,none⟩,1,1⟩,⟨none,0,0⟩,⟨none,0,0⟩⟩ (kB name vk sec) (Rl h1 h2) w3 (amR (hx.aI H.mod) (hy.aI H.mod) (H.av 1 rfl) (H.av 2 rfl))) ?_
 rintro _ w4 ⟨s,ys,zs,fp,fq,rfl,D⟩
 have H:=H.join D
 refine jT (H.nw fun p3 w5 H _=>H.aV 10 rfl rfl fun w6 H=>H.aG 10 rfl ?_)
 have H:aq w [] w6 ([.av p (bK.cs sZ) aA,.av p1 (lK 1 0 name) cZ,.av p2 (rU 1 1 x 0 0) ey] ++ (kA s (kB name vk sec) ys zs fp fq ++ [.av p3 ((kB name vk sec).cs s) aA])):=H
 have hr:bN w6 s (kB name vk sec):=SU (L:=[.av p (bK.cs sZ) aA,.av p1 (lK 1 0 name) cZ,.av p2 (rU 1 1 x 0 0) ey]) (H.take 10)
 refine aC (Ch s (kB name vk sec) (Rl h1 h2) w6 hr) ?_
 rintro _ w7 ⟨rfl,m7⟩
 have H:=H.frame m7
 refine bh ?_
 cases hm:dh (kB name vk sec) with
 | false=>
  rw [hm,if_neg (by decide)] at hT hC
  subst hT hC
  refine ite_true rfl (H.aV 0 rfl rfl fun w8 H=>H.aG 0 rfl ⟨sZ,[],[],[],[],rfl,?_⟩)
  exact (RW H).drop 11
 | true=>
  rw [hm,if_pos rfl] at hT hC
  subst hT hC
  refine ite_false rfl (H.aG 10 rfl (H.aV 0 rfl rfl fun w8 H=>H.aG 0 rfl ⟨s,ys,zs,fp,fq,rfl,?_⟩))
  exact (H.take 10).drop 3
end Go.Proofs.YtpchgbolambkcaaGreatDoor
end
section
set_option linter.unusedVariables false
set_option linter.unusedSimpArgs false
namespace Go.Proofs.YtpchgbolambkcaaGreatDoor
open Go Go.Ev
set_option maxRecDepth 100000
set_option linter.unusedVariables false
def On (bz:Int) (bA bB:ah) (bH bI bJ:ah) (jn jo:Int) (jq jr:Int) (js jt:Int) (ju jv:Int) (jw jx iV:Int) (iW:ByteArray) (iX iY iZ:ah) (w:World) (R:Value→World→Prop):Prop:=
 nw aA (aT bz bA bB bH bI bJ) w fun a b=>
 nw cV (kQ jn jo jq jr js jt ju jv jw jx iV iW iX iY iZ) b fun c d=>
 nw aA (zc Pr aA) d fun e f=>
 nw eH (zc Pr eH) f fun g i=>
 au .i64 (Addr.add (Addr.add c 0) 2) i fun j=>
 az (!decide (j=14))
 (aG a i fun k l m n o p=>
 dD (Addr.add c 0) i fun q s t u v x y z A B C D E F=>
 ay (Addr.add c 14) i fun G=>
 ax Pr EP [.agg ⟨aT k l m n o p⟩,.agg ⟨dW q s t u v x y z A B C D E F⟩,.slice G.a G.n G.c] i fun I J=>
 bU.bY I fun L=>
 aD L fun M N=>
 ez M fun O Q S T U V=>
 aD N fun X Y=>
 qh X fun Z aa ba ca=>
 aD Y fun da ea=>
 (ea=[]∧
 aV e O Q S T U V J fun fa=>
 ew g Z aa ba ca fa fun ga=>
 aG e ga fun ia ja ka la ma na=>
 eX g ga fun oa pa qa sa=>
 R (.tuple ⟨[.agg ⟨aT ia ja ka la ma na⟩,.agg ⟨jI oa pa qa sa⟩,da]⟩) ga))
 (au .i64 (Addr.add (Addr.add c 0) 10) i fun ta=>
 nw dx (zc Pr dx) i fun ua va=>
 rX ua 0 0 14 0 0 0 0 0 0 0 ta eO ⟨none,0,0⟩ ⟨none,0,0⟩ va fun xa=>
 dD (Addr.add c 0) xa fun ya za Aa Ba Ca Da Ea Fa Ga Ia Ja La Ma Na=>
 dD ua xa fun Oa Qa Sa Ta Ua Va Xa Ya Za ab bb cb db eb=>
 ax Pr ai2 [.agg ⟨dW ya za Aa Ba Ca Da Ea Fa Ga Ia Ja La Ma Na⟩,.agg ⟨dW Oa Qa Sa Ta Ua Va Xa Ya Za ab bb cb db eb⟩] xa fun fb gb=>
 aQ fb fun ib=>
 ay (Addr.add c 14) gb fun jb=>
 az ((!ib) || (decide (0<(jb.n:Int))))
 (ax Pr wD [.int .i64 2] gb fun kb lb=>
 aV e 0 ⟨none,0,0⟩ ⟨none,0,0⟩ ⟨none,0,0⟩ ⟨none,0,0⟩ ⟨none,0,0⟩ lb fun mb=>
 ew g 2 0 ⟨none,0,0⟩ ⟨none,0,0⟩ mb fun nb=>
 aG e nb fun ob pb qb sb tb ub=>
 eX g nb fun vb xb yb zb=>
 R (.tuple ⟨[.agg ⟨aT ob pb qb sb tb ub⟩,.agg ⟨jI vb xb yb zb⟩,kb]⟩) nb)
 (aG a gb fun Ab Bb Cb Db Eb Fb=>
 au .i64 (Addr.add (Addr.add c 0) 10) gb fun Gb=>
 ax Pr ah8 [.agg ⟨aT Ab Bb Cb Db Eb Fb⟩,.int .i64 Gb] gb fun Ib Jb=>
 bU.bY Ib fun Lb=>
 aD Lb fun Mb Nb=>
 ez Mb fun Ob Qb Sb Tb Ub Vb=>
 aD Nb fun Xb Yb=>
 aF .i64 Xb fun Zb=>
 aD Yb fun ac bc=>
 (bc=[]∧
 aV a Ob Qb Sb Tb Ub Vb Jb fun cc=>
 dF ac fun dc=>
 az (!dc)
 (ax Pr Cv [ac] cc fun ec fc=>
 aF .i64 ec fun gc=>
 aV e 0 ⟨none,0,0⟩ ⟨none,0,0⟩ ⟨none,0,0⟩ ⟨none,0,0⟩ ⟨none,0,0⟩ fc fun ic=>
 ew g gc 0 ⟨none,0,0⟩ ⟨none,0,0⟩ ic fun jc=>
 aG e jc fun kc lc mc nc oc pc=>
 eX g jc fun qc sc tc uc=>
 R (.tuple ⟨[.agg ⟨aT kc lc mc nc oc pc⟩,.agg ⟨jI qc sc tc uc⟩,ac]⟩) jc)
 (aG a cc fun vc xc yc Ac Bc Cc=>
 aV e vc xc yc Ac Bc Cc cc fun Dc=>
 ew g 0 0 ⟨none,0,0⟩ ⟨none,0,0⟩ Dc fun Ec=>
 aG e Ec fun Fc Gc Ic Jc Lc Mc=>
 eX g Ec fun Nc Oc Qc Sc=>
 R (.tuple ⟨[.agg ⟨aT Fc Gc Ic Jc Lc Mc⟩,.agg ⟨jI Nc Oc Qc Sc⟩,.nilIface]⟩) Ec))))
theorem afz {bz:Int} {bA bB:ah} {bH bI bJ:ah} {jn jo:Int} {jq jr:Int} {js jt:Int} {ju jv:Int} {jw jx iV:Int} {iW:ByteArray} {iX iY iZ:ah} {w:World} {R:Value→World→Prop} (h:On bz bA bB bH bI bJ jn jo jq jr js jt ju jv jw jx iV iW iX iY iZ w R):Ok Pr Er [.agg ⟨aT bz bA bB bH bI bJ⟩,.agg ⟨kQ jn jo jq jr js jt ju jv jw jx iV iW iX iY iZ⟩] w R:=
 aP (m:=⟨true,true⟩) (J:=[]) (L:=[]) aN Tryz.func78 (by kernel_rfl) ((by kernel_rfl:aO Pr _ _ _ Tryz.f78 _ w R=On bz bA bB bH bI bJ jn jo jq jr js jt ju jv jw jx iV iW iX iY iZ w R).mpr h)
def Rm (bz:Int) (bA bB:ah) (bH bI bJ:ah) (bD bE:Int) (bF bG:Int) (bS bT:Int) (cB cC:Int) (cD cE cx:Int) (cy:ByteArray) (cz cA bV:ah) (w:World) (R:Value→World→Prop):Prop:=
 nw aA (aT bz bA bB bH bI bJ) w fun a b=>
 nw dx (dW bD bE bF bG bS bT cB cC cD cE cx cy cz cA) b fun c d=>
 nw aA (zc Pr aA) d fun e f=>
 nw eH (zc Pr eH) f fun g i=>
 aG a i fun j k l m n o=>
 dD c i fun p q s t u v x y z A B C D E=>
 ax Pr IT [.agg ⟨aT j k l m n o⟩,.agg ⟨dW p q s t u v x y z A B C D E⟩,.slice bV.a bV.n bV.c] i fun F G=>
 bU.bY F fun I=>
 aD I fun J L=>
 sI J fun M=>
 aD L fun N O=>
 (O=[]∧
 nw eH (zc Pr eH) G fun Q S=>
 fD (fun (T:Value)=>[(10,some (T))])
 (fun T U=>dF T fun V=>
 az (!V)
 (ax Pr Cv [T] U fun X Y=>
 aF .i64 X fun Z=>
 aV e 0 ⟨none,0,0⟩ ⟨none,0,0⟩ ⟨none,0,0⟩ ⟨none,0,0⟩ ⟨none,0,0⟩ Y fun aa=>
 ew g Z 0 ⟨none,0,0⟩ ⟨none,0,0⟩ aa fun ba=>
 aG e ba fun ca da ea fa ga ia=>
 eX g ba fun ja ka la ma=>
 R (.tuple ⟨[.agg ⟨aT ca da ea fa ga ia⟩,.agg ⟨jI ja ka la ma⟩,T]⟩) ba)
 (cK M fun na=>
 aG (Addr.add na 14) (World.drew U) fun oa pa qa sa ta ua=>
 eX Q (World.drew U) fun va xa ya za=>
 aV e oa pa qa sa ta ua (World.drew U) fun Aa=>
 (kept Q 4 (World.drew U) Aa∧
 ew g va xa ya za Aa fun Ba=>
 aG e Ba fun Ca Da Ea Fa Ga Ia=>
 eX g Ba fun Ja La Ma Na=>
 R (.tuple ⟨[.agg ⟨aT Ca Da Ea Fa Ga Ia⟩,.agg ⟨jI Ja La Ma Na⟩,.nilIface]⟩) Ba)))
 (fun Oa=>
 dF N fun Qa=>
 az Qa
 (ax Pr IJ [.pointer M] S fun Sa Ta=>
 bU.bY Sa fun Ua=>
 aD Ua fun Va Xa=>
 qh Va fun Ya Za ab bb=>
 aD Xa fun cb db=>
 (db=[]∧
 ew Q Ya Za ab bb Ta fun eb=>
 Oa cb eb))
 (Oa N S)))
theorem ahR {bz:Int} {bA bB:ah} {bH bI bJ:ah} {bD bE:Int} {bF bG:Int} {bS bT:Int} {cB cC:Int} {cD cE cx:Int} {cy:ByteArray} {cz cA bV:ah} {w:World} {R:Value→World→Prop} (h:Rm bz bA bB bH bI bJ bD bE bF bG bS bT cB cC cD cE cx cy cz cA bV w R):Ok Pr EP [.agg ⟨aT bz bA bB bH bI bJ⟩,.agg ⟨dW bD bE bF bG bS bT cB cC cD cE cx cy cz cA⟩,.slice bV.a bV.n bV.c] w R:=
 aP (m:=⟨true,true⟩) (J:=[(5,[(10,.val)])]) (L:=[]) aN Tryz.func118 (by kernel_rfl) ((by kernel_rfl:aO Pr _ _ _ Tryz.f118 _ w R=Rm bz bA bB bH bI bJ bD bE bF bG bS bT cB cC cD cE cx cy cz cA bV w R).mpr h)
def OX (code:Int) (w:World) (R:Value→World→Prop):Prop:=
 nw qo [.int .i64 code,.string aly] w fun a b=>
 R (.iface kH (.pointer (some a))) b
theorem afZ {code:Int} {w:World} {R:Value→World→Prop} (h:OX code w R):Ok Pr wD [.int .i64 code] w R:=
 aP (m:=⟨true,true⟩) (J:=[]) (L:=[]) aN Tryz.func120 (by kernel_rfl) ((by kernel_rfl:aO Pr _ _ _ Tryz.f120 _ w R=OX code w R).mpr h)
def OY (bz:Int) (bA bB:ah) (bH bI bJ:ah) (bD bE:Int) (bF bG:Int) (bS bT:Int) (cB cC:Int) (cD cE cx:Int) (cy:ByteArray) (cz cA bV:ah) (w:World) (R:Value→World→Prop):Prop:=
 nw aA (aT bz bA bB bH bI bJ) w fun a b=>
 nw dx (dW bD bE bF bG bS bT cB cC cD cE cx cy cz cA) b fun c d=>
 iJ []
 (fun e=>dD c (World.drew e) fun f g i j k l m n o p q s t u=>
 aG a (World.drew e) fun v x y z A B=>
 ax Pr Pp [.agg ⟨aT v x y z A B⟩] (World.drew e) fun C D=>
 ez C fun E F G I J L=>
 (kept c 14 (World.drew e) D∧
 nw Jo (ad6 f g i j k l m n o p q s t u E F G I J L 0 bV) D fun M N=>
 au .i64 (Addr.add (Addr.add M 0) 0) (World.drew N) fun O=>
 ay (Addr.add a 3) (World.drew N) fun Q=>
 ax Pr Ah [.int .i64 O,.int .i64 (Q.n:Int)] (World.drew N) fun S T=>
 aQ S fun U=>
 az (!U)
 (ax Pr wD [.int .i64 6] T fun V X=>
 R (.tuple ⟨[.pointer none,V]⟩) X)
 (ay (Addr.add (Addr.add M 14) 3) (World.drew T) fun Y=>
 au .i64 (Addr.add (Addr.add M 0) 0) (World.drew T) fun Z=>
 (aH (Z - 1)∧
 aZ Y.a (Z - 1) Y.n
 (au .i64 (Addr.add (Addr.add (base Y.a) (Int.toNat (Z - 1) * 5)) 3) (World.drew (World.drew T)) fun aa=>
 au .u64 (Addr.add (Addr.add (base Y.a) (Int.toNat (Z - 1) * 5)) 4) (World.drew (World.drew T)) fun ba=>
 au .i64 (Addr.add (Addr.add M 0) 1) (World.drew (World.drew T)) fun ca=>
 ax Pr Pt (qv aa ba ca) (World.drew (World.drew T)) fun da ea=>
 bU.bY da fun fa=>
 aD fa fun ga ia=>
 aF .i64 ga fun ja=>
 aD ia fun ka la=>
 aF .u64 ka fun ma=>
 aD la fun na oa=>
 (oa=[]∧
 dF na fun pa=>
 az (!pa)
 (ax Pr wD [.int .i64 8] ea fun qa sa=>
 R (.tuple ⟨[.pointer none,qa]⟩) sa)
 (st (Addr.add (Addr.add (base Y.a) (Int.toNat (Z - 1) * 5)) 3) (.int .i64 ja) ea fun ta=>
 st (Addr.add (Addr.add (base Y.a) (Int.toNat (Z - 1) * 5)) 4) (.int .u64 ma) ta fun ua=>
 ax Pr IA [.pointer (some M)] ua fun va xa=>
 aQ va fun ya=>
 az (!ya)
 (ax Pr wD [.int .i64 9] xa fun za Aa=>
 R (.tuple ⟨[.pointer none,za]⟩) Aa)
 (ax Pr It [.pointer (some M)] xa fun Ba Ca=>
 R (.tuple ⟨[.pointer (some M),Ba]⟩) Ca))))))))
 (fun Da=>
 fD (fun (Ea:Bool)=>[(20,some (.bool Ea))])
 (fun Ea Fa=>az Ea
 (ax Pr wD [.int .i64 2] Fa fun Ga Ia=>
 R (.tuple ⟨[.pointer none,Ga]⟩) Ia)
 (Da Fa))
 (fun Ja=>
 aG a d fun La Ma Na Oa Qa Sa=>
 ax Pr EJ [.agg ⟨aT La Ma Na Oa Qa Sa⟩] d fun Ta Ua=>
 aQ Ta fun Va=>
 dD c Ua fun Xa Ya Za ab bb cb db eb fb gb ib jb kb lb=>
 az (!Va)
 (Ja true Ua)
 (ax Pr RC [.agg ⟨dW Xa Ya Za ab bb cb db eb fb gb ib jb kb lb⟩] Ua fun mb nb=>
 aQ mb fun ob=>
 Ja (!ob) nb)))
theorem af0 {bz:Int} {bA bB:ah} {bH bI bJ:ah} {bD bE:Int} {bF bG:Int} {bS bT:Int} {cB cC:Int} {cD cE cx:Int} {cy:ByteArray} {cz cA bV:ah} {w:World} {R:Value→World→Prop} (h:OY bz bA bB bH bI bJ bD bE bF bG bS bT cB cC cD cE cx cy cz cA bV w R):Ok Pr IT [.agg ⟨aT bz bA bB bH bI bJ⟩,.agg ⟨dW bD bE bF bG bS bT cB cC cD cE cx cy cz cA⟩,.slice bV.a bV.n bV.c] w R:=
 aP (m:=⟨true,true⟩) (J:=[(3,[]),(2,[(20,.bool)])]) (L:=[]) aN Tryz.func160 (by kernel_rfl) ((by kernel_rfl:aO Pr _ _ _ Tryz.f160 _ w R=OY bz bA bB bH bI bJ bD bE bF bG bS bT cB cC cD cE cx cy cz cA bV w R).mpr h)
def Oo (j:Option Addr) (w:World) (R:Value→World→Prop):Prop:=
 nw eH (zc Pr eH) w fun a b=>
 iJ []
 (fun c=>ax Pr ae7 [.pointer j] c fun d e=>
 bU.bY d fun f=>
 aD f fun g i=>
 qh g fun k l m n=>
 aD i fun o p=>
 (p=[]∧
 ew a k l m n e fun q=>
 eX a q fun s t u v=>
 R (.tuple ⟨[.agg ⟨jI s t u v⟩,o]⟩) q))
 (fun x=>
 cK j fun y=>
 au .i64 (Addr.add (Addr.add y 0) 2) b fun z=>
 az (decide (z=1))
 (ax Pr MN [.pointer j] b fun A B=>
 bU.bY A fun C=>
 aD C fun D E=>
 qh D fun F G I J=>
 aD E fun L M=>
 (M=[]∧
 ew a F G I J B fun N=>
 eX a N fun O Q S T=>
 R (.tuple ⟨[.agg ⟨jI O Q S T⟩,L]⟩) N))
 (az (decide (z=2))
 (ax Pr ae5 [.pointer j] b fun U V=>
 bU.bY U fun X=>
 aD X fun Y Z=>
 qh Y fun aa ba ca da=>
 aD Z fun ea fa=>
 (fa=[]∧
 ew a aa ba ca da V fun ga=>
 eX a ga fun ia ja ka la=>
 R (.tuple ⟨[.agg ⟨jI ia ja ka la⟩,ea]⟩) ga))
 (az (decide (z=3))
 (ax Pr ae6 [.pointer j] b fun ma na=>
 bU.bY ma fun oa=>
 aD oa fun pa qa=>
 qh pa fun sa ta ua va=>
 aD qa fun xa ya=>
 (ya=[]∧
 ew a sa ta ua va na fun za=>
 eX a za fun Aa Ba Ca Da=>
 R (.tuple ⟨[.agg ⟨jI Aa Ba Ca Da⟩,xa]⟩) za))
 (fD (fun (Ea:Bool)=>[(27,some (.bool Ea))])
 (fun Ea Fa=>az Ea
 (ax Pr agj [.pointer j] Fa fun Ga Ia=>
 bU.bY Ga fun Ja=>
 aD Ja fun La Ma=>
 qh La fun Na Oa Qa Sa=>
 aD Ma fun Ta Ua=>
 (Ua=[]∧
 ew a Na Oa Qa Sa Ia fun Va=>
 eX a Va fun Xa Ya Za ab=>
 R (.tuple ⟨[.agg ⟨jI Xa Ya Za ab⟩,Ta]⟩) Va))
 (fD (fun (bb:Bool)=>[(35,some (.bool bb))])
 (fun bb cb=>az bb
 (ax Pr afp [.pointer j] cb fun db eb=>
 bU.bY db fun fb=>
 aD fb fun gb ib=>
 qh gb fun jb kb lb mb=>
 aD ib fun nb ob=>
 (ob=[]∧
 ew a jb kb lb mb eb fun pb=>
 eX a pb fun qb sb tb ub=>
 R (.tuple ⟨[.agg ⟨jI qb sb tb ub⟩,nb]⟩) pb))
 (x cb))
 (fun vb=>
 az (decide (z=12))
 (vb (decide (z=12)) Fa)
 (vb (decide (z=13)) Fa))))
 (fun xb=>
 az (decide (z=9))
 (xb (decide (z=9)) b)
 (az (decide (z=10))
 (xb (decide (z=10)) b)
 (xb (decide (z=11)) b)))))))
theorem afA {j:Option Addr} {w:World} {R:Value→World→Prop} (h:Oo j w R):Ok Pr IJ [.pointer j] w R:=
 aP (m:=⟨true,true⟩) (J:=[(15,[]),(11,[(27,.bool)]),(14,[(35,.bool)])]) (L:=[]) aN Tryz.func161 (by kernel_rfl) ((by kernel_rfl:aO Pr _ _ _ Tryz.f161 _ w R=Oo j w R).mpr h)
def OZ (l8 many:Int) (w:World) (R:Value→World→Prop):Prop:=
 R (.bool ((decide (1≤l8)) && (decide (l8≤many)))) w
theorem af1 {l8 many:Int} {w:World} {R:Value→World→Prop} (h:OZ l8 many w R):Ok Pr Ah [.int .i64 l8,.int .i64 many] w R:=
 aP (m:=⟨true,true⟩) (J:=[]) (L:=[]) aN Tryz.func183 (by kernel_rfl) ((by kernel_rfl:aO Pr _ _ _ Tryz.f183 _ w R=OZ l8 many w R).mpr h)
def Nw (j:Option Addr) (w:World) (R:Value→World→Prop):Prop:=
 iJ []
 (fun a=>cK j fun b=>
 au .i64 (Addr.add (Addr.add b 0) 4) (World.drew a) fun c=>
 cK j fun d=>
 ay (Addr.add (Addr.add d 14) 4) (World.drew a) fun e=>
 ax Pr Ah [.int .i64 c,.int .i64 (e.n:Int)] (World.drew a) fun f g=>
 aQ f fun i=>
 az (!i)
 (R (.bool false) g)
 (cK j fun k=>
 ay (Addr.add (Addr.add k 14) 4) (World.drew g) fun l=>
 cK j fun m=>
 au .i64 (Addr.add (Addr.add m 0) 4) (World.drew g) fun n=>
 (aH (n - 1)∧
 aZ l.a (n - 1) l.n
 (iI (Addr.add (base l.a) (Int.toNat (n - 1) * 4)) (World.drew g) fun o p q s=>
 nw bW (zc Pr bW) (World.drew g) fun t u=>
 (kept (Addr.add (base l.a) (Int.toNat (n - 1) * 4)) 4 (World.drew g) u∧
 (kept (Addr.add (Addr.add m 0) 4) 1 (World.drew g) u∧
 (kept (Addr.add (Addr.add k 14) 4) 1 (World.drew g) u∧
 kR t o p q s u fun v=>
 au .i64 (Addr.add t 1) v fun x=>
 cK j fun y=>
 st (Addr.add y 20) (.int .i64 x) v fun z=>
 cK j fun A=>
 au .i64 (Addr.add (Addr.add A 0) 2) z fun B=>
 fD (fun (C:Bool)=>[(104,some (.bool C))])
 (fun C D=>az C
 (iI t (World.drew D) fun E F G I=>
 cK j fun J=>
 au .i64 (Addr.add (Addr.add J 0) 5) (World.drew D) fun L=>
 ((ax Pr X3 [.agg ⟨fu E F G I⟩,.int .i64 L] (World.drew D) fun M N=>
 bU.bY M fun O=>
 aD O fun Q S=>
 IL Q fun T U V X=>
 aD S fun Y Z=>
 aQ Y fun aa=>
 (Z=[]∧
 nw eW (zc Pr eW) N fun ba ca=>
 (kept (Addr.add (Addr.add J 0) 5) 1 N ca∧
 (kept t 4 N ca∧
 rT ba T U V X ca fun da=>
 R (.bool aa) da))))∧
 (nw eW (zc Pr eW) (World.drew D) fun ea fa=>
 (kept (Addr.add (Addr.add J 0) 5) 1 (World.drew D) fa∧
 (kept t 4 (World.drew D) fa∧
 ax Pr X3 [.agg ⟨fu E F G I⟩,.int .i64 L] fa fun ga ia=>
 bU.bY ga fun ja=>
 aD ja fun ka la=>
 IL ka fun ma na oa pa=>
 aD la fun qa sa=>
 aQ qa fun ta=>
 (sa=[]∧
 rT ea ma na oa pa ia fun ua=>
 R (.bool ta) ua))))))
 (az (decide (B=12))
 (cK j fun va=>
 au .i64 (Addr.add (Addr.add va 0) 8) (World.drew D) fun xa=>
 cK j fun ya=>
 ay (Addr.add (Addr.add ya 14) 3) (World.drew D) fun za=>
 ax Pr Ah [.int .i64 xa,.int .i64 (za.n:Int)] (World.drew D) fun Aa Ba=>
 aQ Aa fun Ca=>
 R (.bool Ca) Ba)
 (R (.bool true) D)))
 (fun Da=>
 az (decide (B=5))
 (Da (decide (B=5)) z)
 (az (decide (B=6))
 (Da (decide (B=6)) z)
 (az (decide (B=7))
 (Da (decide (B=7)) z)
 (az (decide (B=8))
 (Da (decide (B=8)) z)
 (az (decide (B=10))
 (Da (decide (B=10)) z)
 (Da (decide (B=11)) z)))))))))))))
 (fun Ea=>
 cK j fun Fa=>
 au .i64 (Addr.add (Addr.add Fa 0) 2) w fun Ga=>
 fD (fun (Ia:Bool)=>[(11,some (.bool Ia))])
 (fun Ia Ja=>az Ia
 (cK j fun La=>
 au .i64 (Addr.add (Addr.add La 0) 3) Ja fun Ma=>
 cK j fun Na=>
 st (Addr.add Na 20) (.int .i64 Ma) Ja fun Oa=>
 cK j fun Qa=>
 au .i64 (Addr.add (Addr.add Qa 0) 3) (World.drew Oa) fun Sa=>
 cK j fun Ta=>
 ay (Addr.add (Addr.add Ta 14) 2) (World.drew Oa) fun Ua=>
 ax Pr Ah [.int .i64 Sa,.int .i64 (Ua.n:Int)] (World.drew Oa) fun Va Xa=>
 aQ Va fun Ya=>
 R (.bool Ya) Xa)
 (az (decide (Ga=13))
 (cK j fun Za=>
 au .i64 (Addr.add (Addr.add Za 0) 7) (World.drew Ja) fun ab=>
 cK j fun bb=>
 ay (Addr.add (Addr.add bb 14) 5) (World.drew Ja) fun cb=>
 ax Pr Ah [.int .i64 ab,.int .i64 (cb.n:Int)] (World.drew Ja) fun db eb=>
 aQ db fun fb=>
 az (!fb)
 (R (.bool false) eb)
 (cK j fun gb=>
 ay (Addr.add (Addr.add gb 14) 5) (World.drew eb) fun ib=>
 cK j fun jb=>
 au .i64 (Addr.add (Addr.add jb 0) 7) (World.drew eb) fun kb=>
 (aH (kb - 1)∧
 aZ ib.a (kb - 1) ib.n
 (au .i64 (Addr.add (Addr.add (base ib.a) (Int.toNat (kb - 1) * 6)) 1) (World.drew eb) fun lb=>
 cK j fun mb=>
 st (Addr.add (Addr.add mb 0) 4) (.int .i64 lb) (World.drew eb) fun nb=>
 Ea nb))))
 (Ea Ja)))
 (fun ob=>
 az (decide (Ga=1))
 (ob (decide (Ga=1)) w)
 (az (decide (Ga=2))
 (ob (decide (Ga=2)) w)
 (ob (decide (Ga=3)) w))))
theorem aeU {j:Option Addr} {w:World} {R:Value→World→Prop} (h:Nw j w R):Ok Pr IA [.pointer j] w R:=
 aP (m:=⟨true,true⟩) (J:=[(11,[]),(5,[(11,.bool)]),(22,[(104,.bool)])]) (L:=[]) aN Tryz.func185 (by kernel_rfl) ((by kernel_rfl:aO Pr _ _ _ Tryz.f185 _ w R=Nw j w R).mpr h)
def MG (j:Option Addr) (w:World) (R:Value→World→Prop):Prop:=
 cK j fun a=>
 ay (Addr.add (Addr.add a 14) 3) (World.drew w) fun b=>
 cK j fun c=>
 au .i64 (Addr.add (Addr.add c 0) 0) (World.drew w) fun d=>
 (aH (d - 1)∧
 aZ b.a (d - 1) b.n
 (au .i64 (Addr.add (Addr.add (base b.a) (Int.toNat (d - 1) * 5)) 1) (World.drew w) fun e=>
 cK j fun f=>
 ay (Addr.add (Addr.add f 14) 2) (World.drew (World.drew w)) fun g=>
 cK j fun i=>
 au .i64 (Addr.add i 20) (World.drew (World.drew w)) fun k=>
 ax Pr NF (sr g e k) (World.drew (World.drew w)) fun l m=>
 aQ l fun n=>
 az n
 (R (.nilIface) m)
 (cK j fun o=>
 au .i64 (Addr.add (Addr.add o 0) 2) m fun p=>
 fD (fun (q:Bool)=>[(36,some (.bool q))])
 (fun q s=>az q
 (AQ (fun (t:Addr) (u:Value)=>[(4,some (.pointer (some t))),(5,some (u))])
 (fun t u v=>dF u fun x=>
 az (!x)
 (R u v)
 (qm t (World.drew v) fun y z A B C D=>
 cK j fun E=>
 au .i64 (Addr.add (Addr.add E 0) 4) (World.drew v) fun F=>
 cK j fun G=>
 au .i64 (Addr.add (Addr.add G 0) 0) (World.drew v) fun I=>
 cK j fun J=>
 au .i64 (Addr.add (Addr.add J 0) 2) (World.drew v) fun L=>
 cK j fun M=>
 au .i64 (Addr.add (Addr.add M 14) 0) (World.drew v) fun N=>
 ax Pr agk [.agg ⟨pz y z A B C D⟩,.int .i64 F,.int .i64 I,.int .i64 L,.int .i64 N] (World.drew v) fun O Q=>
 R O Q))
 (fun S=>
 cK j fun T=>
 ay (Addr.add (Addr.add T 14) 5) (World.drew s) fun U=>
 cK j fun V=>
 ay (Addr.add (Addr.add V 14) 1) (World.drew s) fun X=>
 cK j fun Y=>
 ay (Addr.add (Addr.add Y 0) 13) (World.drew s) fun Z=>
 ((ax Pr W1 (CY U X Z) (World.drew s) fun aa ba=>
 bU.bY aa fun ca=>
 aD ca fun da ea=>
 Pu da fun fa ga ia ja ka la=>
 aD ea fun ma na=>
 (na=[]∧
 nw dJ (zc Pr dJ) ba fun oa pa=>
 (kept (Addr.add (Addr.add Y 0) 13) 1 ba pa∧
 (kept (Addr.add (Addr.add V 14) 1) 1 ba pa∧
 (kept (Addr.add (Addr.add T 14) 5) 1 ba pa∧
 tw oa fa ga ia ja ka la pa fun qa=>
 S oa ma qa)))))∧
 (nw dJ (zc Pr dJ) (World.drew s) fun sa ta=>
 (kept (Addr.add (Addr.add Y 0) 13) 1 (World.drew s) ta∧
 (kept (Addr.add (Addr.add V 14) 1) 1 (World.drew s) ta∧
 (kept (Addr.add (Addr.add T 14) 5) 1 (World.drew s) ta∧
 ax Pr W1 (CY U X Z) ta fun ua va=>
 bU.bY ua fun xa=>
 aD xa fun ya za=>
 Pu ya fun Aa Ba Ca Da Ea Fa=>
 aD za fun Ga Ia=>
 (Ia=[]∧
 tw sa Aa Ba Ca Da Ea Fa va fun Ja=>
 S sa Ga Ja))))))))
 (ax Pr wD [.int .i64 10] s fun La Ma=>
 R La Ma))
 (fun Na=>
 az (decide (p=9))
 (Na (decide (p=9)) m)
 (az (decide (p=10))
 (Na (decide (p=10)) m)
 (Na (decide (p=11)) m))))))
theorem aef {j:Option Addr} {w:World} {R:Value→World→Prop} (h:MG j w R):Ok Pr It [.pointer j] w R:=
 aP (m:=⟨true,true⟩) (J:=[(8,[(36,.bool)]),(9,[(4,.DE),(5,.val)])]) (L:=[]) aN Tryz.func186 (by kernel_rfl) ((by kernel_rfl:aO Pr _ _ _ Tryz.f186 _ w R=MG j w R).mpr h)
def MU (j:Option Addr) (w:World) (R:Value→World→Prop):Prop:=
 nw eH (zc Pr eH) w fun a b=>
 cK j fun c=>
 ay (Addr.add (Addr.add c 14) 2) (World.drew b) fun d=>
 cK j fun e=>
 au .i64 (Addr.add (Addr.add e 0) 3) (World.drew b) fun f=>
 cK j fun g=>
 dR (Addr.add (Addr.add g 0) 11) (World.drew b) fun i=>
 ax Pr OH (AH d f i) (World.drew b) fun k l=>
 bU.bY k fun m=>
 aD m fun n o=>
 aK n fun p=>
 aD o fun q s=>
 aF .i64 q fun t=>
 aD s fun u v=>
 (v=[]∧
 cK j fun x=>
 st (Addr.add (Addr.add x 14) 2) (.slice p.a p.n p.c) l fun y=>
 ew a 0 t ⟨none,0,0⟩ ⟨none,0,0⟩ y fun z=>
 eX a z fun A B C D=>
 R (.tuple ⟨[.agg ⟨jI A B C D⟩,u]⟩) z)
theorem aeo {j:Option Addr} {w:World} {R:Value→World→Prop} (h:MU j w R):Ok Pr MN [.pointer j] w R:=
 aP (m:=⟨true,true⟩) (J:=[]) (L:=[]) aN Tryz.func187 (by kernel_rfl) ((by kernel_rfl:aO Pr _ _ _ Tryz.f187 _ w R=MU j w R).mpr h)
end Go.Proofs.YtpchgbolambkcaaGreatDoor
end
section
set_option linter.unusedVariables false
set_option linter.unusedSimpArgs false
namespace Go.Ev
open Go Go.RowKit
theorem aq.nwm {w0 w:World} {S:List Nat} {L:List aB} (H:aq w0 S w L) {t:TypeId} {cs:List Value} {K:Addr→World→Prop} (h:∀ b w',aq w0 S w' (L ++ [.av b cs t])→Mod [] w w'→K ⟨b,0,none⟩ w'):Ev.nw t cs w K:=
 oL fun b w' hb h1 h2 _=>h b w' (H.push h2 h1 (by simp [aB.av,hb])) h2
theorem nx (b i j:Nat):Addr.add (Addr.add ⟨b,0,none⟩ i) j=⟨b,i+j,none⟩:=by rw [an,tN]
end Go.Ev
namespace Go.Proofs.YtpchgbolambkcaaGreatDoor
open Go Go.Ev
set_option maxRecDepth 20000
set_option linter.unusedVariables false
def TU (q:bL) (t:aJ) (s:cL) (ow:Int) (sd:ah):List Value:=
 [.int .i64 q.n0,.int .i64 q.n1,.int .i64 q.n2,.int .i64 q.n3,.int .i64 q.n4,.int .i64 q.n5,.int .i64 q.n6,.int .i64 q.n7,.int .i64 q.n8,.int .i64 q.n9,.int .i64 q.l7,.string q.name,.slice q.dG.a q.dG.n q.dG.c,.slice q.tok.a q.tok.n q.tok.c,
  .int .i64 t.clock,.slice s.sec.a s.sec.n s.sec.c,.slice s.ten.a s.ten.n s.ten.c,.slice s.aE.a s.aE.n s.aE.c,.slice s.key.a s.key.n s.key.c,.slice s.gr.a s.gr.n s.gr.c,.int .i64 ow,.slice sd.a sd.n sd.c]
def yL (op:Int):Bool:=decide (op=1) || (decide (op=2) || decide (op=3))
def AS (op:Int):Bool:=decide (op=5) || (decide (op=6) || (decide (op=7) || (decide (op=8) || (decide (op=10) || decide (op=11)))))
def lY (b:Nat) (q:bL) (t:aJ) (s:cL) (ow:Int) (sd:ah) (ys zs:List ah) (fp fq:List Nat):List aB:=.av b (TU q t s ow sd) Jo :: kA s t ys zs fp fq
theorem W6 (c:Int) (hc:c≠0) (w:World):Ok Pr wD [.int .i64 c] w fun v w'=>gy w w' v c∧Mod [] w w':=by
 refine afZ ?_
 unfold OX
 exact oL fun b w' hb h1 h2 _=>⟨gy.mk h1 (by omega) hc,h2⟩
theorem W7 (id many:Int) (w:World):Ok Pr Ah [.int .i64 id,.int .i64 many] w fun v w'=>v=.bool (aW 1 many id)∧w'=w:=by
 refine af1 ?_
 unfold OZ
 exact ⟨rfl,rfl⟩
theorem SV {w0 w:World} {S:List Nat} {b:Nat} {q:bL} {t:aJ} {s:cL} {ow:Int} {sd:ah} {ys zs:List ah} {fp fq:List Nat} (H:aq w0 S w (lY b q t s ow sd ys zs fp fq)):bN w s t:=SU (L:=[_]) H
theorem Ap {n:Int} {m:Nat} (h:aW 1 (m:Int) n=true):∃ i:Nat,n - 1=(i:Int)∧(n - 1).toNat=i∧i<m:=by
 unfold aW at h
 rw [Bool.and_eq_true,decide_eq_true_eq,decide_eq_true_eq] at h
 exact ⟨(n - 1).toNat,by omega,rfl,by omega⟩
end Go.Proofs.YtpchgbolambkcaaGreatDoor
end
section
set_option linter.unusedVariables false
set_option linter.unusedSimpArgs false
namespace Go.Proofs.YtpchgbolambkcaaGreatDoor
open Go Go.Ev
set_option maxRecDepth 20000
set_option linter.unusedVariables false
theorem aai {w0 w:World} {S:List Nat} {b:Nat} {q:bL} {t:aJ} {s:cL} {ow:Int} {sd:ah} {ys zs:List ah} {fp fq:List Nat} {M:List aB} (H:aq w0 S w (lY b q t s ow sd ys zs fp fq ++ M)) {i:Nat} (hi:i<t.aE.length) :
  t.aE[i]? = some (t.aE.getD i eJ)∧(s.aE.a.isSome=true∧(0:Int)≤(i:Int)∧(i:Int)<(s.aE.n:Int))∧∃ x,ys[i]? = some x∧∀ (j:Nat) (v:Value),((t.aE.getD i eJ).cs x)[j]? = some v→w.cell? (Addr.add (Addr.add (base s.aE.a) (Int.toNat (i:Int) * 5)) j)=some v:=by
 have hk:t.aE[i]? = some (t.aE.getD i eJ):=by rw [List.getD_eq_getElem?_getD,List.getElem?_eq_getElem hi]; rfl
 have h:br lE w ys t.aE:=H.box 5 rfl
 have hr:=H.gQ 4 rfl
 have hl:=hr.len
 rw [kI cv.eo _ _ h.1] at hl
 have hx:ys[i]? = some (ys[i]'(by rw [h.1]; exact hi)):=List.getElem?_eq_getElem _
 refine ⟨hk,⟨hr.pre (by omega),by omega,by omega⟩,_,hx,fun j v hv=>?_⟩
 rw [Int.toNat_natCast]
 exact hr.Dp cv.eo hk hx hv
end Go.Proofs.YtpchgbolambkcaaGreatDoor
end
section
set_option linter.unusedVariables false
set_option linter.unusedSimpArgs false
namespace Go.Ev
open Go Go.RowKit
section
variable {A:Type} {C:A→ah→List Value} {sz:Nat} {te:TypeId} {w0 w:World} {S:List Nat} {L:List aB} {s:ah} {ls:List A} {xs:List ah} {i:Nat}
theorem aq.nO (H:aq w0 S w L) (k:Nat) (hk:L[k]? = some (.row te sz s (bP C ls xs))) (hC:∀ a x,(C a x).length=sz) (hx:xs.length=ls.length) {a a':A} {x:ah} (ha:ls[i]? = some a) (fK:xs[i]? = some x) {j:Nat} (hj:j<sz) {v:Value} (hv:fW v=true) (hz:C a' x=(C a x).set j v) {K:World→Prop}
  (h:∀ w',aq w0 S w' (L.set k (.row te sz s (bP C (ls.set i a') xs)))→K w'):Ev.st (Addr.add (Addr.add (base s.a) (Int.toNat (i:Int) * sz)) j) v w K:=by
 have hi:=(List.getElem?_eq_some_iff.1 ha).1
 refine H.jD k (i:=i * sz+j) hk (by rw [add_add,Int.toNat_natCast]) ?_ hv fun w' H'=>h w' ?_
 ·rw [kI hC _ _ hx]
  have:=Nat.mul_le_mul_right sz (show i+1≤ls.length from hi)
  rw [Nat.succ_mul] at this
  omega
 ·rw [J9 hC ls xs i j a a' x x v ha fK hj hz,Cm fK] at H'
  exact H'
end
end Go.Ev
namespace Go.Proofs.YtpchgbolambkcaaGreatDoor
open Go Go.Ev
set_option maxRecDepth 20000
set_option linter.unusedVariables false
def yX (q:bL) (p:cv):cv:={ p with high:=ur p.high p.used q.n1,used:=A8 p.high p.used q.n1 }
def dy (q:bL) (t:aJ):cv:=t.aE.getD (q.n0 - 1).toNat eJ
def mW (q:bL) (t:aJ):aJ:={ t with aE:=t.aE.set (q.n0 - 1).toNat (yX q (dy q t)) }
theorem mem_set {A:Type} {l:List A} {i:Nat} {a x:A} (h:x∈l.set i a):x∈l∨x=a:=by
 rcases List.mem_or_eq_of_mem_set h with h | h
 ·exact .inl h
 ·exact .inr h
theorem alU {q:bL} {t:aJ} {i:Nat} (en:(q.n0 - 1).toNat=i) (hi:i<t.aE.length):t.aE[i]? = some (dy q t):=by
 unfold dy; rw [en,List.getD_eq_getElem?_getD,List.getElem?_eq_getElem hi]; rfl
theorem Rn {q:bL} {t:aJ} (hs:t.small) (hw:aW 1 (t.aE.length:Int) q.n0=true):(mW q t).small where
 sec:=hs.sec
 ten:=hs.ten
 aE:=by show (t.aE.set _ _).length≤1000; rw [List.length_set]; exact hs.aE
 key:=hs.key
 gr:=hs.gr
 pk:=fun p hp=>by
  obtain ⟨i,_,en,hi⟩:=Ap hw
  rcases mem_set hp with h | h
  ·exact hs.pk p h
  ·rw [h]; exact hs.pk (dy q t) (List.mem_of_getElem? (alU en hi))
 lS:=hs.lS
 bV:=hs.bV
 gf:=hs.gf
def xm (F:Bool) (D:Int) (q:bL) (t:aJ):Int:=
 if (dh t && iP q)=true then
  (if aW 1 (t.aE.length:Int) q.n0=true then
   (if kU (dy q t).high (dy q t).used q.n1=0 then (if F=true then D else 9) else 8)
  else 6)
 else 2
def SW (w w':World) (v:Value) (C:Int) (qk:bL) (ow:Int) (t1:aJ) (sd:ah):Prop:=
 ∃ (pj:Option Addr) (er:Value),v=.tuple ⟨[.pointer pj,er]⟩∧gy w w' er C∧Mod [] w w'∧
  (C=0→∃ b s ys zs fp fq,pj=some ⟨b,0,none⟩∧aq w [] w' (lY b qk t1 s ow sd ys zs fp fq))
def anI (w:World) (q qk:bL) (t1:aJ) (sd:ah) (F:Bool) (ow:Int):Prop:=
 ∀ {w1:World} {b:Nat} {s:cL} {ys zs:List ah} {fp fq:List Nat},aq w [] w1 (lY b q t1 s 0 sd ys zs fp fq)→
  Ok Pr IA [.pointer (some ⟨b,0,none⟩)] w1 fun v w'=>v=.bool F∧∃ q' BI,(F=true→q'=qk∧BI=ow)∧aq w [] w' (lY b q' t1 s BI sd ys zs fp fq)
def alV (w:World) (qk:bL) (t1:aJ) (sd:ah) (ow D:Int):Prop:=
 ∀ {w1:World} {b:Nat} {s:cL} {ys zs:List ah} {fp fq:List Nat},aq w [] w1 (lY b qk t1 s ow sd ys zs fp fq)→
  Ok Pr It [.pointer (some ⟨b,0,none⟩)] w1 fun v w'=>gy w1 w' v D∧Mod [] w1 w'
theorem akA {q:bL} {t:aJ} (h:aW 1 (t.aE.length:Int) q.n0=true):aW 1 ((mW q t).aE.length:Int) q.n0=true:=by
 show aW 1 ((t.aE.set _ _).length:Int) _=true
 rw [List.length_set]; exact h
theorem agH (s:cL) (t:aJ) (q:bL) (sd:ah) (hs:t.small) (w:World) (hx:bN w s t) {F:Bool} {D:Int} {qk:bL} {ow:Int}
  (anJ:iP q=true→aW 1 (t.aE.length:Int) q.n0=true→anI w q qk (mW q t) sd F ow)
  (nP:dh t=true→aW 1 (t.aE.length:Int) q.n0=true→alV w qk (mW q t) sd ow D) :
  Ok Pr IT [.agg ⟨t.cs s⟩,.agg ⟨q.cells⟩,.slice sd.a sd.n sd.c] w fun v w'=>SW w w' v (xm F D q t) qk ow (mW q t) sd:=by
 refine af0 ?_
 unfold OY
 have rJ:=hx.aE.len
 have hC:xm F D q t=if (dh t && iP q)=true then (if aW 1 (t.aE.length:Int) q.n0=true then (if kU (dy q t).high (dy q t).used q.n1=0 then (if F=true then D else 9) else 8) else 6) else 2:=rfl
 generalize xm F D q t=C at *
 refine (aq.start w).nw fun p w1 H _=>H.nw fun p1 w2 H _=>?_
 have H:aq w [] w2 [.av p (t.cs s) aA,.av p1 q.cells dx]:=H
 have no:∀ {w3:World} (c:Int),Mod [] w w3→c≠0→C=c→ax Pr wD [.int .i64 c] w3 fun v w4=>SW w w4 (.tuple ⟨[.pointer none,v]⟩) C qk ow (mW q t) sd:=by
  intro w3 c m hc e
  refine aC (W6 c hc w3) ?_
  rintro er w4 ⟨h,m4⟩
  exact ⟨none,er,rfl,by rw [e]; exact h.from m.size,m.trans m4,fun h0=>absurd (e.symm.trans h0) hc⟩
 refine iB fun go bX=>?_
 have go':∀ w3,Mod [] w2 w3→(dh t && iP q)=true→go w3:=by
  intro w3 m3 uo
  refine bX w3 ?_
  rw [if_pos uo] at hC
  rw [Bool.and_eq_true] at uo
  have H3:=H.frame m3
  have D:=H3.drew
  refine D.dD 1 rfl (D.aG 0 rfl (aC (ahQ s t hs _ (hx.aI D.mod)) ?_))
  rintro _ w4 ⟨s',ys,zs,fp,fq,rfl,ab5⟩
  have D4:=D.join ab5
  refine jT ⟨D.kept ab5.mod 1 rfl rfl 14,D4.nw fun b w5 D5 _=>?_⟩
  have J:aq w [] w5 (lY b q t s' 0 sd ys zs fp fq ++ [.av p (t.cs s) aA,.av p1 q.cells dx]):=D5.eu [9,2,3,4,5,6,7,8,0,1] (by decide) rfl
  have J2:=J.drew
  refine J2.au 0 rfl (nx b 0 0) rfl (J2.ay 8 rfl (an p 3) rfl (aC (W7 _ _ _) ?_))
  rintro _ w6 ⟨rfl,Hs⟩
  subst Hs
  refine bh ?_
  show az (!aW 1 (s.aE.n:Int) q.n0) _ _
  rw [← rJ]
  cases c1:aW 1 (t.aE.length:Int) q.n0 with
  | false=>
   rw [c1,if_neg (by decide)] at hC
   exact ite_true rfl (no 6 J2.mod (by decide) hC)
  | true=>
  rw [c1,if_pos rfl] at hC
  obtain ⟨i,ei,en,hi⟩:=Ap c1
  have J3:=J2.drew
  refine ite_false rfl (J3.ay 0 rfl (nx b 14 3) rfl (J3.au 0 rfl (nx b 0 0) rfl ⟨by have:=hs.aE; unfold aH; omega,?_⟩))
  show aZ s'.aE.a (q.n0 - 1) s'.aE.n _
  rw [ei]
  have J4:=J3.drew
  obtain ⟨zM,cU,x,fK,hc⟩:=aai J4 hi
  have hwp:t.aE.getD i eJ=dy q t:=by unfold dy; rw [en]
  rw [hwp] at zM hc
  refine ⟨cU,_,hc 3 _ rfl,_,hc 4 _ rfl,J4.au 0 rfl (nx b 0 1) rfl (aC (ahN (dy q t).high (dy q t).used q.n1 _) ?_)⟩
  rintro _ w8 ⟨er,rfl,Ht,m8⟩
  have J5:=J4.frame m8
  refine ⟨_,rfl,_,rfl,_,rfl,rfl,Ht.1.isNil ?_⟩
  by_cases Lt:kU (dy q t).high (dy q t).used q.n1=0
  case neg=>
   rw [if_neg Lt] at hC
   exact ite_true (by rw [decide_eq_false Lt]; rfl) (no 8 J5.mod (by decide) hC)
  rw [if_pos Lt] at hC
  refine ite_false (by rw [decide_eq_true Lt]; rfl) ?_
  have Hu:ys.length=t.aE.length:=(J5.box 5 rfl:br lE _ ys t.aE).1
  refine J5.nO 4 rfl cv.eo Hu zM fK (a':={ dy q t with high:=ur (dy q t).high (dy q t).used q.n1 }) (by omega:3<5) rfl rfl fun dN K=>?_
  refine K.nO 4 rfl cv.eo (by rw [List.length_set]; exact Hu) (a:={ dy q t with high:=ur (dy q t).high (dy q t).used q.n1 }) (a':=yX q (dy q t)) (by rw [List.getElem?_set,if_pos rfl,if_pos hi]) fK (by omega:4<5) rfl rfl fun fZ K=>?_
  rw [List.set_set,List.set_set] at K
  have K:=K.E8 (Q':=fun w=>br lE w ys (t.aE.set i (yX q (dy q t)))) 5 rfl fun w h=>by
   have:=br.put h (i:=i) (x:=x) (a:=yX q (dy q t)) (h.2 i x _ fK zM:lE w x (dy q t))
   rwa [Cm fK] at this
  have K:aq w [] fZ (lY b q (mW q t) s' 0 sd ys zs fp fq):=by
   have K:=K.take 8
   unfold lY kA mW
   rw [en]
   exact K
  refine aC (anJ uo.2 c1 K) ?_
  rintro _ dO ⟨rfl,q',BI,hq',K2⟩
  refine bh ?_
  cases F with
  | false=>
   rw [if_neg (by decide)] at hC
   exact ite_true rfl (no 9 K2.mod (by decide) hC)
  | true=>
  rw [if_pos rfl] at hC
  obtain ⟨rfl,rfl⟩:=hq' rfl
  refine ite_false rfl (aC (nP uo.1 c1 K2) ?_)
  rintro er kN ⟨Hq,Lu⟩
  exact ⟨some ⟨b,0,none⟩,er,rfl,by rw [hC]; exact Hq.from K2.mod.size,K2.mod.trans Lu,fun h0=>⟨b,s',ys,zs,fp,fq,rfl,K2.frame Lu⟩⟩
 refine gm fun iH fH=>?_
 have no':∀ {w3:World},Mod [] w2 w3→(dh t && iP q)=false→iH true w3:=fun m e=>by
  refine fH _ _ (ite_true rfl (no 2 (H.mod.trans m) (by decide) ?_))
  rw [e,if_neg (by decide)] at hC
  exact hC
 refine H.aG 0 rfl (aC (PR s t hs _ (hx.aI H.mod)) ?_)
 rintro _ w3 ⟨rfl,m3⟩
 have H3:=H.frame m3
 refine bh (H3.dD 1 rfl ?_)
 cases e1:dh t with
 | false=>exact ite_true rfl (no' m3 (by rw [e1]; rfl))
 | true=>
 refine ite_false rfl (aC (aja q _) ?_)
 rintro _ w4 ⟨rfl,m4⟩
 refine bh ?_
 cases e2:iP q with
 | false=>exact no' (m3.trans m4) (by rw [e1,e2]; rfl)
 | true=>exact fH _ _ (ite_false rfl (go' _ (m3.trans m4) (by rw [e1,e2]; rfl)))
end Go.Proofs.YtpchgbolambkcaaGreatDoor
end
section
set_option linter.unusedVariables false
set_option linter.unusedSimpArgs false
namespace Go.Proofs.YtpchgbolambkcaaGreatDoor
open Go Go.Ev
set_option maxRecDepth 20000
set_option linter.unusedVariables false
theorem aq.aaX {w0 w:World} {S:List Nat} {L:List aB} (H:aq w0 S w L):aq w0 S w (L ++ [.cut ⟨none,0,0⟩ []]):=
 H.push (Mod.refl _ _) (.inl ⟨rfl,rfl⟩) (by simp [aB.cut,ah.row])
theorem KV {w0 w:World} {S:List Nat} {L:List aB} (H:aq w0 S w L):aq w0 S w (L ++ [.cut ⟨none,0,0⟩ [],.cut ⟨none,0,0⟩ []]):=by
 have H:=aq.aaX (aq.aaX H)
 rwa [List.append_assoc] at H
structure rz where
 id:Int
 dG:List B8
 ex:List B8
theorem wM:zc Pr eH=gx 0 0 ⟨none,0,0⟩ ⟨none,0,0⟩:=by kernel_rfl
def DU (w0:World) (S:List Nat) (w':World) (v:Value) (b:Nat) (T:aJ) (R:rz) (C:Int):Prop:=
 ∃ (rc ri:Int) (y z:ah) (er:Value),v=.tuple ⟨[.agg ⟨gx rc ri y z⟩,er]⟩∧(C≠0→aq w0 S w' [aB.err er C])∧
  (C=0→er=.nilIface∧rc=0∧ri=R.id∧∃ q s ow sd ys zs fp fq,aq w0 S w' (lY b q T s ow sd ys zs fp fq ++ [.cut y R.dG,.cut z R.ex]))
theorem aaj {w:World} {e:Value} (h:eR w e 0):e=.nilIface:=by
 rcases h with ⟨h,_⟩ | ⟨b,s,rfl,_,hc⟩
 ·exact h
 ·exact absurd rfl hc
theorem DU.no {w0 w':World} {S:List Nat} {v:Value} {b:Nat} {T:aJ} {R:rz} {C:Int} {rc ri:Int} {y z:ah} {er:Value} {L:List aB} (k:Nat) (hC:C≠0) (H:aq w0 S w' L) (hk:L[k]? = some (aB.err er C)) (hv:v=.tuple ⟨[.agg ⟨gx rc ri y z⟩,er]⟩):DU w0 S w' v b T R C:=
 ⟨rc,ri,y,z,er,hv,fun _=>H.only k hk,fun h=>absurd h hC⟩
def rA (q:bL) (t:aJ):aJ:={ t with bq:=vM t.bq q.n3 q.name }
def A9 (q:bL) (t:aJ):rz:=⟨yV t.bq q.n3 q.name,[],[]⟩
theorem aeV {w0 w:World} {S:List Nat} {b:Nat} {q:bL} {t:aJ} {s:cL} {ow:Int} {sd:ah} {ys zs:List ah} {fp fq:List Nat} (H:aq w0 S w (lY b q t s ow sd ys zs fp fq)) (hs:t.small) :
  Ok Pr MN [.pointer (some ⟨b,0,none⟩)] w fun v w'=>DU w0 S w' v b (rA q t) (A9 q t) (kV t.bq q.n3 q.name):=by
 refine aeo ?_
 unfold MU
 rw [wM]
 have rK:=hs.ten
 refine H.nw fun p w1 H _=>?_
 have D:=H.drew
 have hR:bN _ s t:=SV (D.take 8)
 refine nc (D.ay 0 rfl (nx b 14 2) rfl (nc (D.au 0 rfl (nx b 0 3) rfl (nc (D.dR 0 rfl (nx b 0 11) rfl (aC (ahf s.ten t.bq (by omega) q.n3 q.name _ hR.ten) ?_))))))
 rintro _ w2 ⟨y,er,rfl,K⟩
 have D:=D.join K
 refine ⟨_,rfl,_,rfl,_,rfl,rfl,nc (D.st 0 rfl (nx b 14 2) (by show 16<22; omega) rfl fun w3 D=>D.ew 8 rfl rfl fun w4 D=>D.eX 8 rfl ?_)⟩
 refine ⟨0,yV t.bq q.n3 q.name,⟨none,0,0⟩,⟨none,0,0⟩,er,rfl,fun _=>D.only 10 rfl,fun h0=>?_⟩
 have he:eR w4 er (kV t.bq q.n3 q.name):=D.ok 10 _ rfl
 rw [h0] at he
 refine ⟨aaj he,rfl,rfl,q,⟨s.sec,y,s.aE,s.key,s.gr⟩,ow,sd,ys,zs,fp,fq,?_⟩
 have D:=D.eu (L':=lY b q (rA q t) ⟨s.sec,y,s.aE,s.key,s.gr⟩ ow sd ys zs fp fq) [0,1,9,3,4,5,6,7] (by decide) rfl
 exact KV D
end Go.Proofs.YtpchgbolambkcaaGreatDoor
end
section
set_option linter.unusedVariables false
set_option linter.unusedSimpArgs false
namespace Go.Ev
open Go Go.RowKit
end Go.Ev
namespace Go.Proofs.YtpchgbolambkcaaGreatDoor
open Go Go.Ev
set_option maxRecDepth 20000
set_option linter.unusedVariables false
theorem aJ.alW (t:aJ) (s:cL):∀ v∈t.cs s,fW v=true:=by
 intro u hu
 simp only [aJ.cs,mO,List.mem_cons,List.not_mem_nil,or_false] at hu
 rcases hu with rfl | rfl | rfl | rfl | rfl | rfl <;> rfl
theorem alX {w0 w:World} {S:List Nat} {b:Nat} {q:bL} {t:aJ} {s:cL} {ow:Int} {sd:ah} {L:List aB} (H:aq w0 S w L) (k:Nat) (hk:L[k]? = some (.av b (TU q t s ow sd) Jo)) {K:Int→ah→ah→ah→ah→ah→Prop} (h:K t.clock s.sec s.ten s.aE s.key s.gr):aG (Addr.add ⟨b,0,none⟩ 14) w K:=
 NI (fun i v hv=>H.cell k hk (nx b 14 i) (by
  match i,hv with
  | 0,hv=>exact hv
  | 1,hv=>exact hv
  | 2,hv=>exact hv
  | 3,hv=>exact hv
  | 4,hv=>exact hv
  | 5,hv=>exact hv
  | i+6,hv=>simp at hv)) h
end Go.Proofs.YtpchgbolambkcaaGreatDoor
end
section
set_option linter.unusedVariables false
set_option linter.unusedSimpArgs false
namespace Go.Proofs.YtpchgbolambkcaaGreatDoor
open Go Go.Ev
set_option maxRecDepth 20000
set_option linter.unusedVariables false
theorem aov {A B:Prop} (h:B):dF .nilIface fun z=>az (!z) A B:=h
end Go.Proofs.YtpchgbolambkcaaGreatDoor
end
section
set_option linter.unusedVariables false
set_option linter.unusedSimpArgs false
namespace Go.Proofs.YtpchgbolambkcaaGreatDoor
open Go Go.Ev
set_option maxRecDepth 20000
set_option linter.unusedVariables false
theorem _root_.Go.Ev.aq.sub {w0 w:World} {S:List Nat} {L M:List aB} (H:aq w0 S w (L ++ M)):aq w (L.flatMap (·.fp)) w L:=by
 have e:∀ {k:Nat} {r:aB},L[k]? = some r→(L ++ M)[k]? = some r:=fun {k r} h=>by
  rw [List.getElem?_append_left (List.getElem?_eq_some_iff.1 h).1]; exact h
 exact ⟨Mod.refl _ _,fun k r h=>H.ok k r (e h),fun k r h b hb=>.inl (List.mem_flatMap.2 ⟨r,List.mem_of_getElem? h,hb⟩),fun j k r s j6 h1 h2=>H.apart j k r s j6 (e h1) (e h2)⟩
theorem _root_.Go.Ev.aq.F3 {w0 w:World} {S:List Nat} {L M:List aB} (H:aq w0 S w (L ++ M)):∀ b∈L.flatMap (·.fp),b∈S∨w0.heap.size≤b:=fun b hb=>by
 obtain ⟨r,hr,hb⟩:=List.mem_flatMap.1 hb
 obtain ⟨k,hk⟩:=List.getElem?_of_mem hr
 exact H.own k r (by rw [List.getElem?_append_left (List.getElem?_eq_some_iff.1 hk).1]; exact hk) b hb
theorem _root_.Go.Ev.aq.back {w0 w w':World} {S:List Nat} {L M L':List aB} (H:aq w0 S w (L ++ M)) (K:aq w (L.flatMap (·.fp)) w' L'):aq w0 S w' (L' ++ M):=by
 have hL:∀ b∈L.flatMap (·.fp),(b∈S∨w0.heap.size≤b)∧∃ (k:Nat) (r:aB),L[k]? = some r∧b∈r.fp:=fun b hb=>by
  obtain ⟨r,hr,hb⟩:=List.mem_flatMap.1 hb
  obtain ⟨k,hk⟩:=List.getElem?_of_mem hr
  have pS:(L ++ M)[k]? = some r:=by rw [List.getElem?_append_left (List.getElem?_eq_some_iff.1 hk).1]; exact hk
  exact ⟨H.own k r pS b hb,k,r,hk,hb⟩
 have em:∀ {k:Nat} {r:aB},M[k]? = some r→(L ++ M)[L.length+k]? = some r:=fun {k r} h=>by
  rw [List.getElem?_append_right (Nat.le_add_right _ _),Nat.add_sub_cancel_left]; exact h
 have hM:∀ {k:Nat} {r:aB},M[k]? = some r→∀ b∈r.fp,b<w.heap.size∧b∉L.flatMap (·.fp):=fun {k r} h b hb=>by
  refine ⟨r.lt w (H.ok _ r (em h)) b hb,fun h2=>?_⟩
  obtain ⟨_,i,s,hi,hs⟩:=hL b h2
  have hil:=(List.getElem?_eq_some_iff.1 hi).1
  exact H.apart i (L.length+k) s r (by omega) (by rw [List.getElem?_append_left hil]; exact hi) (em h) b hs hb
 have e:∀ {k:Nat} {r:aB},(L' ++ M)[k]? = some r→(L'[k]? = some r∧k<L'.length)∨(L'.length≤k∧M[k - L'.length]? = some r):=fun {k r} h=>by
  rcases Nat.lt_or_ge k L'.length with hk | hk
  ·rw [List.getElem?_append_left hk] at h; exact .inl ⟨h,hk⟩
  ·rw [List.getElem?_append_right hk] at h; exact .inr ⟨hk,h⟩
 have x:∀ {j k:Nat} {r s:aB},L'[j]? = some r→M[k]? = some s→∀ b∈r.fp,b∉s.fp:=fun {j k r s} h1 h2 b h3 h4=>by
  obtain ⟨h5,h6⟩:=hM h2 b h4
  rcases K.own j r h1 b h3 with h | h
  ·exact h6 h
  ·omega
 refine ⟨H.mod.trans' K.mod fun b hb=>(hL b hb).1,fun k r h=>?_,fun k r h b hb=>?_,fun j k r s j6 h1 h2 b hb l5=>?_⟩
 ·rcases e h with ⟨h,_⟩ | ⟨_,h⟩
  ·exact K.ok k r h
  ·exact r.iu w w' (fun b hb=>K.mod.block b (hM h b hb).1 (hM h b hb).2) (H.ok _ r (em h))
 ·rcases e h with ⟨h,_⟩ | ⟨_,h⟩
  ·rcases K.own k r h b hb with h3 | h3
   ·exact (hL b h3).1
   ·exact .inr (Nat.le_trans H.mod.size h3)
  ·exact H.own _ r (em h) b hb
 ·rcases e h1 with ⟨g1,l1⟩ | ⟨l1,g1⟩
  ·rcases e h2 with ⟨g2,_⟩ | ⟨_,g2⟩
   ·exact K.apart j k r s j6 g1 g2 b hb l5
   ·exact x g1 g2 b hb l5
  ·rcases e h2 with ⟨g2,_⟩ | ⟨l2,g2⟩
   ·exact x g2 g1 b l5 hb
   ·exact H.apart _ _ r s (by omega) (em g1) (em g2) b hb l5
end Go.Proofs.YtpchgbolambkcaaGreatDoor
end
section
set_option linter.unusedVariables false
set_option linter.unusedSimpArgs false
namespace Go.Proofs.YtpchgbolambkcaaGreatDoor
open Go Go.Ev
set_option maxRecDepth 100000
set_option linter.unusedVariables false
def QE (n:Int) (w:World) (R:Value→World→Prop):Prop:=
 az ((decide (n<1)) || (decide (256<n)))
 (R (.pointer none) w)
 (oP Pr jA n n w fun a b=>
 nw oI (CY ⟨none,0,0⟩ ⟨none,0,0⟩ a) b fun c d=>
 dX (fun (e:Int)=>[(16,some (.int .i64 e))])
 (fun f e g=>az (decide (e<n))
 (oP Pr aM 512 512 g fun i j=>
 ay (Addr.add c 0) (World.drew j) fun k=>
 ay (Addr.add c 1) (World.drew j) fun l=>
 ((nw bp [.slice i.a i.n i.c] (World.drew j) fun m o=>
 (kept (Addr.add c 1) 1 (World.drew j) o∧
 (kept (Addr.add c 0) 1 (World.drew j) o∧
 ((cS Pr [mz,mz] mz [.slice k.a k.n k.c,.slice (some m) 1 1] o fun p q=>
 (kept (Addr.add c 1) 1 o q∧
 nw bp [.slice i.a i.n i.c] q fun s t=>
 (kept (Addr.add c 1) 1 q t∧
 (kept (Addr.add c 0) 1 q t∧
 cS Pr [mz,mz] mz [.slice l.a l.n l.c,.slice (some s) 1 1] t fun u v=>
 st (Addr.add c 0) (.slice p.a p.n p.c) v fun x=>
 st (Addr.add c 1) (.slice u.a u.n u.c) x fun y=>
 (aH (e+1)∧
 f (e+1) y)))))∧
 (nw bp [.slice i.a i.n i.c] o fun z A=>
 (kept (Addr.add c 1) 1 o A∧
 (kept (Addr.add c 0) 1 o A∧
 cS Pr [mz,mz] mz [.slice k.a k.n k.c,.slice (some m) 1 1] A fun B C=>
 (kept (Addr.add c 1) 1 A C∧
 cS Pr [mz,mz] mz [.slice l.a l.n l.c,.slice (some z) 1 1] C fun D E=>
 st (Addr.add c 0) (.slice B.a B.n B.c) E fun F=>
 st (Addr.add c 1) (.slice D.a D.n D.c) F fun G=>
 (aH (e+1)∧
 f (e+1) G)))))))))∧
 (nw bp [.slice i.a i.n i.c] (World.drew j) fun I J=>
 (kept (Addr.add c 1) 1 (World.drew j) J∧
 (kept (Addr.add c 0) 1 (World.drew j) J∧
 nw bp [.slice i.a i.n i.c] J fun L M=>
 (kept (Addr.add c 1) 1 J M∧
 (kept (Addr.add c 0) 1 J M∧
 cS Pr [mz,mz] mz [.slice k.a k.n k.c,.slice (some L) 1 1] M fun N O=>
 (kept (Addr.add c 1) 1 M O∧
 cS Pr [mz,mz] mz [.slice l.a l.n l.c,.slice (some I) 1 1] O fun Q S=>
 st (Addr.add c 0) (.slice N.a N.n N.c) S fun T=>
 st (Addr.add c 1) (.slice Q.a Q.n Q.c) T fun U=>
 (aH (e+1)∧
 f (e+1) U)))))))))
 (R (.pointer (some c)) g))
 0 d)
theorem ahj {n:Int} {w:World} {R:Value→World→Prop} (h:QE n w R):Ok Pr yp [.int .i64 n] w R:=
 aP (m:=⟨true,true⟩) (J:=[]) (L:=[(5,[(16,.int .i64)])]) aN Tryz.func21 (by kernel_rfl) ((by kernel_rfl:aO Pr _ _ _ Tryz.f21 _ w R=QE n w R).mpr h)
def MV (d:Option Addr) (w:World) (R:Value→World→Prop):Prop:=
 nw jA [.bool true] w fun a b=>
 ax Pr En [.pointer d,.slice (some a) 1 1] b fun c e=>
 aF .i64 c fun f=>
 R (.tuple ⟨[]⟩) e
theorem aep {d:Option Addr} {w:World} {R:Value→World→Prop} (h:MV d w R):Ok Pr Eh [.pointer d] w R:=
 aP (m:=⟨true,true⟩) (J:=[]) (L:=[]) aN Tryz.func27 (by kernel_rfl) ((by kernel_rfl:aO Pr _ _ _ Tryz.f27 _ w R=MV d w R).mpr h)
def MW (d:Option Addr) (w:World) (R:Value→World→Prop):Prop:=
 ax Pr wB [.pointer d] w fun a b=>
 aF .i64 a fun c=>
 ko (fun (e:ah) (f:Int)=>[(3,some (.slice e.a e.n e.c)),(7,some (.int .i64 f))])
 (fun g e f i=>az (decide (f<c))
 (cK d fun j=>
 ay (Addr.add j 2) i fun k=>
 aZ k.a f k.n
 (nq (Addr.add (base k.a) (Int.toNat f * 1)) i fun l=>
 az l
 (nw bn [.int .i64 f] i fun m n=>
 cS Pr [nJ,nJ] nJ [.slice e.a e.n e.c,.slice (some m) 1 1] n fun o p=>
 (aH (f+1)∧
 g o (f+1) p))
 ((aH (f+1)∧
 g e (f+1) i))))
 (R (.slice e.a e.n e.c) i))
 ⟨none,0,0⟩ 0 b
theorem aeq {d:Option Addr} {w:World} {R:Value→World→Prop} (h:MW d w R):Ok Pr Em [.pointer d] w R:=
 aP (m:=⟨true,true⟩) (J:=[]) (L:=[(3,[(3,.sl),(7,.int .i64)])]) aN Tryz.func28 (by kernel_rfl) ((by kernel_rfl:aO Pr _ _ _ Tryz.f28 _ w R=MW d w R).mpr h)
def MX (d:Option Addr) (keep:ah) (w:World) (R:Value→World→Prop):Prop:=
 ax Pr Em [.pointer d] w fun a b=>
 aK a fun c=>
 ko (fun (e f:Int)=>[(5,some (.int .i64 e)),(11,some (.int .i64 f))])
 (fun g e f i=>az (decide (f<(c.n:Int)))
 (aZ c.a f c.n
 (au .i64 (Addr.add (base c.a) (Int.toNat f * 1)) i fun j=>
 fD (fun (k:Int)=>[(5,some (.int .i64 k))])
 (fun k l=>cK d fun m=>
 ay (Addr.add m 0) (World.drew l) fun n=>
 cK d fun o=>
 ay (Addr.add o 2) (World.drew l) fun p=>
 cK d fun q=>
 ay (Addr.add q 1) (World.drew l) fun s=>
 aZ s.a j s.n
 (ay (Addr.add (base s.a) (Int.toNat j * 1)) (World.drew l) fun t=>
 aZ n.a j n.n
 (st (Addr.add (base n.a) (Int.toNat j * 1)) (.slice t.a t.n t.c) (World.drew l) fun u=>
 aZ p.a j p.n
 (st (Addr.add (base p.a) (Int.toNat j * 1)) (.bool false) u fun v=>
 (aH (f+1)∧
 g k (f+1) v)))))
 (fun x=>
 fD (fun (y:Bool)=>[(27,some (.bool y))])
 (fun y z=>az y
 (cK d fun A=>
 ay (Addr.add A 1) (World.drew z) fun B=>
 cK d fun C=>
 ay (Addr.add C 0) (World.drew z) fun D=>
 aZ D.a j D.n
 (ay (Addr.add (base D.a) (Int.toNat j * 1)) (World.drew z) fun E=>
 aZ B.a j B.n
 (st (Addr.add (base B.a) (Int.toNat j * 1)) (.slice E.a E.n E.c) (World.drew z) fun F=>
 (aH (e+1)∧
 x (e+1) F))))
 (x e z))
 (fun G=>
 az (decide (0<(keep.n:Int)))
 (pos (keep.n:Int) ((0≤f∧
 aZ keep.a (f % (keep.n:Int)) keep.n
 (nq (Addr.add (base keep.a) (Int.toNat (f % (keep.n:Int)) * 1)) i fun I=>
 G I i))))
 (G false i)))))
 (R (.int .i64 e) i))
 0 0 b
theorem aer {d:Option Addr} {keep:ah} {w:World} {R:Value→World→Prop} (h:MX d keep w R):Ok Pr En [.pointer d,.slice keep.a keep.n keep.c] w R:=
 aP (m:=⟨true,true⟩) (J:=[(8,[(5,.int .i64)]),(6,[(27,.bool)])]) (L:=[(3,[(5,.int .i64),(11,.int .i64)])]) aN Tryz.func29 (by kernel_rfl) ((by kernel_rfl:aO Pr _ _ _ Tryz.f29 _ w R=MX d keep w R).mpr h)
def Nx (d:Option Addr) (w:World) (R:Value→World→Prop):Prop:=
 az (Option.isNone (α:=Addr) d)
 (R (.int .i64 0) w)
 (cK d fun a=>
 ay (Addr.add a 0) w fun b=>
 R (.int .i64 (b.n:Int)) w)
theorem aeW {d:Option Addr} {w:World} {R:Value→World→Prop} (h:Nx d w R):Ok Pr wB [.pointer d] w R:=
 aP (m:=⟨true,true⟩) (J:=[]) (L:=[]) aN Tryz.func57 (by kernel_rfl) ((by kernel_rfl:aO Pr _ _ _ Tryz.f57 _ w R=Nx d w R).mpr h)
def PS (d:Option Addr) (cP jN:Int) (gen number:Int) (b:ah) (w:World) (R:Value→World→Prop):Prop:=
 ax Pr Eu [.pointer d,.int .i64 cP,.int .i64 jN] w fun a c=>
 dF a fun e=>
 az (!e)
 (R (.tuple ⟨[.int .i64 0,a]⟩) c)
 (az ((decide (gen<1)) || (decide (number<1)))
 (ax Pr B7 [.int .i64 2] c fun f g=>
 R (.tuple ⟨[.int .i64 0,f]⟩) g)
 (ax Pr I2 [.int .i64 (b.n:Int)] c fun i j=>
 aF .i64 i fun k=>
 az ((decide (k=0)) || (decide (IntKind.wrap .i64 (jN - cP)<k)))
 (ax Pr B7 [.int .i64 12] j fun l m=>
 R (.tuple ⟨[.int .i64 0,l]⟩) m)
 (dX (fun (n:Int)=>[(47,some (.int .i64 n))])
 (fun o n p=>az (decide (n<k))
 ((aH (n * 488)∧
 (aH (n+1)∧
 (aH ((n+1) * 488)∧
 Dt 1 b (n * 488) (min (b.n:Int) ((n+1) * 488)) fun q=>
 (aH (cP+n)∧
 ax Pr NC [.agg ⟨EY gen number n k (q.n:Int)⟩,.slice q.a q.n q.c] p fun s t=>
 aK s fun u=>
 ax Pr Iv [.pointer d,.int .i64 (cP+n),.slice u.a u.n u.c] t fun v x=>
 dF v fun y=>
 az (!y)
 (Option.elim (β:=Prop) (Fu Pr IK [(0,v)]) False fun z=>
 R (.tuple ⟨[.int .i64 0,.iface IK (z)]⟩) x)
 ((aH (n+1)∧
 o (n+1) x)))))))
 ((aH (cP+k)∧
 R (.tuple ⟨[.int .i64 (cP+k),.nilIface]⟩) p)))
 0 j)))
theorem agI {d:Option Addr} {cP jN:Int} {gen number:Int} {b:ah} {w:World} {R:Value→World→Prop} (h:PS d cP jN gen number b w R):Ok Pr I0 [.pointer d,.int .i64 cP,.int .i64 jN,.int .i64 gen,.int .i64 number,.slice b.a b.n b.c] w R:=
 aP (m:=⟨true,true⟩) (J:=[]) (L:=[(10,[(47,.int .i64)])]) aN Tryz.func59 (by kernel_rfl) ((by kernel_rfl:aO Pr _ _ _ Tryz.f59 _ w R=PS d cP jN gen number b w R).mpr h)
def QF (d:Option Addr) (cP jN:Int) (gen number:Int) (w:World) (R:Value→World→Prop):Prop:=
 ax Pr Eu [.pointer d,.int .i64 cP,.int .i64 jN] w fun a b=>
 dF a fun c=>
 az (!c)
 (R (.tuple ⟨Kw ⟨none,0,0⟩ 0 false⟩) b)
 (abq (fun (e:ah) (f g:Int)=>[(13,some (.slice e.a e.n e.c)),(14,some (.int .i64 f)),(15,some (.int .i64 g))])
 (fun i e f g j=>az (decide (f<g))
 ((aH (cP+f)∧
 az (decide (jN≤cP+f))
 (R (.tuple ⟨Kw ⟨none,0,0⟩ 0 false⟩) j)
 ((aH (cP+f)∧
 ax Pr Iz [.pointer d,.int .i64 (cP+f)] j fun k l=>
 bU.bY k fun m=>
 aD m fun n o=>
 aK n fun p=>
 aD o fun q s=>
 (s=[]∧
 ax Pr Jn [.slice p.a p.n p.c] l fun t u=>
 bU.bY t fun v=>
 aD v fun x y=>
 Pv x fun z A B C D=>
 aD y fun E F=>
 aQ E fun G=>
 (F=[]∧
 nw lM (zc Pr lM) u fun I J=>
 oJ I z A B C D J fun L=>
 fD (fun (M:Int)=>[(15,some (.int .i64 M))])
 (fun M N=>iJ []
 (fun O=>au .i64 (Addr.add I 4) O fun Q=>
 (aH (24+Q)∧
 Dt 1 p 24 (24+Q) fun S=>
 cS Pr [bp,bp] bp [.slice e.a e.n e.c,.slice S.a S.n S.c] O fun T U=>
 (aH (f+1)∧
 i T (f+1) M U)))
 (fun V=>
 fD (fun (X:Bool)=>[(85,some (.bool X))])
 (fun X Y=>az X
 (R (.tuple ⟨Kw ⟨none,0,0⟩ 0 false⟩) Y)
 (V Y))
 (fun Z=>
 au .i64 (Addr.add I 0) N fun aa=>
 au .i64 (Addr.add I 1) N fun ba=>
 au .i64 (Addr.add I 2) N fun ca=>
 au .i64 (Addr.add I 3) N fun da=>
 au .i64 (Addr.add I 4) N fun ea=>
 az (((((!G) || (!decide (aa=gen))) || (!decide (ba=number))) || (!decide (ca=f))) || (!decide (da=M)))
 (Z true N)
 (zw 1 p (IntKind.wrap .i64 (24+ea)) fun fa=>
 ax Pr Mh [.slice fa.a fa.n fa.c,.func (.func Oz) ⟨[]⟩ ⟨[]⟩] N fun ga ia=>
 aQ ga fun ja=>
 Z ja ia))))
 (fun ka=>
 az (decide (f=0))
 (au .i64 (Addr.add I 3) L fun la=>
 ka la L)
 (ka g L))))))))
 (ax Pr I2 [.int .i64 (e.n:Int)] j fun ma na=>
 aF .i64 ma fun oa=>
 (aH (cP+oa)∧
 R (.tuple ⟨Kw e (cP+oa) true⟩) na)))
 ⟨none,0,0⟩ 0 1 b)
theorem ahk {d:Option Addr} {cP jN:Int} {gen number:Int} {w:World} {R:Value→World→Prop} (h:QF d cP jN gen number w R):Ok Pr Jh [.pointer d,.int .i64 cP,.int .i64 jN,.int .i64 gen,.int .i64 number] w R:=
 aP (m:=⟨true,true⟩) (J:=[(13,[(15,.int .i64)]),(15,[]),(14,[(85,.bool)])]) (L:=[(5,[(13,.sl),(14,.int .i64),(15,.int .i64)])]) aN Tryz.func77 (by kernel_rfl) ((by kernel_rfl:aO Pr _ _ _ Tryz.f77 _ w R=QF d cP jN gen number w R).mpr h)
def PT (d:Option Addr) (cP jN:Int) (w:World) (R:Value→World→Prop):Prop:=
 ax Pr Eu [.pointer d,.int .i64 cP,.int .i64 jN] w fun a b=>
 dF a fun c=>
 az (!c)
 (R a b)
 (dX (fun (e:Int)=>[(8,some (.int .i64 e))])
 (fun f e g=>az (decide (e<jN))
 (oP Pr aM 512 512 g fun i j=>
 ax Pr Iv [.pointer d,.int .i64 e,.slice i.a i.n i.c] j fun k l=>
 dF k fun m=>
 az (!m)
 (Option.elim (β:=Prop) (Fu Pr IK [(0,k)]) False fun n=>
 R (.iface IK (n)) l)
 ((aH (e+1)∧
 f (e+1) l)))
 (R (.nilIface) g))
 cP b)
theorem agJ {d:Option Addr} {cP jN:Int} {w:World} {R:Value→World→Prop} (h:PT d cP jN w R):Ok Pr I1 [.pointer d,.int .i64 cP,.int .i64 jN] w R:=
 aP (m:=⟨true,true⟩) (J:=[]) (L:=[(5,[(8,.int .i64)])]) aN Tryz.func79 (by kernel_rfl) ((by kernel_rfl:aO Pr _ _ _ Tryz.f79 _ w R=PT d cP jN w R).mpr h)
def O0 (d:Option Addr) (cP jN:Int) (w:World) (R:Value→World→Prop):Prop:=
 az (Option.isNone (α:=Addr) d)
 (ax Pr B7 [.int .i64 1] w fun a b=>
 R a b)
 (fD (fun (c:Bool)=>[(11,some (.bool c))])
 (fun c e=>az c
 (ax Pr B7 [.int .i64 2] e fun f g=>
 R f g)
 (R (.nilIface) e))
 (fun i=>
 az ((decide (cP<0)) || (decide (jN<cP)))
 (i true w)
 (ax Pr wB [.pointer d] w fun j k=>
 aF .i64 j fun l=>
 i (decide (l<jN)) k)))
theorem af2 {d:Option Addr} {cP jN:Int} {w:World} {R:Value→World→Prop} (h:O0 d cP jN w R):Ok Pr Eu [.pointer d,.int .i64 cP,.int .i64 jN] w R:=
 aP (m:=⟨true,true⟩) (J:=[(4,[(11,.bool)])]) (L:=[]) aN Tryz.func94 (by kernel_rfl) ((by kernel_rfl:aO Pr _ _ _ Tryz.f94 _ w R=O0 d cP jN w R).mpr h)
def PU (code:Int) (w:World) (R:Value→World→Prop):Prop:=
 nw qo [.int .i64 code,.string amu] w fun a b=>
 R (.iface kH (.pointer (some a))) b
theorem agK {code:Int} {w:World} {R:Value→World→Prop} (h:PU code w R):Ok Pr B7 [.int .i64 code] w R:=
 aP (m:=⟨true,true⟩) (J:=[]) (L:=[]) aN Tryz.func95 (by kernel_rfl) ((by kernel_rfl:aO Pr _ _ _ Tryz.f95 _ w R=PU code w R).mpr h)
def PV (n:Int) (w:World) (R:Value→World→Prop):Prop:=
 az ((decide (n<0)) || (decide (1048576<n)))
 (R (.int .i64 0) w)
 ((aH (n+488)∧
 (aH ((n+488) - 1)∧
 ((0≤(n+488) - 1∧(n+488) - 1≤IntKind.max .i64)∧
 R (.int .i64 (max (((n+488) - 1) / 488) 1)) w))))
theorem agL {n:Int} {w:World} {R:Value→World→Prop} (h:PV n w R):Ok Pr I2 [.int .i64 n] w R:=
 aP (m:=⟨true,true⟩) (J:=[]) (L:=[]) aN Tryz.func96 (by kernel_rfl) ((by kernel_rfl:aO Pr _ _ _ Tryz.f96 _ w R=PV n w R).mpr h)
def MY (d:Option Addr) (i:Int) (b:ah) (w:World) (R:Value→World→Prop):Prop:=
 ax Pr Iw [.pointer d,.int .i64 i] w fun a c=>
 dF a fun e=>
 az (!e)
 (R a c)
 (az (!decide ((b.n:Int)=512))
 (ax Pr Ex [.int .i64 3] c fun f g=>
 R f g)
 (cK d fun j=>
 ay (Addr.add j 0) (World.drew c) fun k=>
 cK d fun l=>
 ay (Addr.add l 2) (World.drew c) fun m=>
 ax Pr sY [.slice b.a b.n b.c] (World.drew c) fun n o=>
 aK n fun p=>
 (kept (Addr.add l 2) 1 (World.drew c) o∧
 (kept (Addr.add j 0) 1 (World.drew c) o∧
 aZ k.a i k.n
 (st (Addr.add (base k.a) (Int.toNat i * 1)) (.slice p.a p.n p.c) o fun q=>
 aZ m.a i m.n
 (st (Addr.add (base m.a) (Int.toNat i * 1)) (.bool true) q fun s=>
 R (.nilIface) s))))))
theorem aes {d:Option Addr} {i:Int} {b:ah} {w:World} {R:Value→World→Prop} (h:MY d i b w R):Ok Pr Iv [.pointer d,.int .i64 i,.slice b.a b.n b.c] w R:=
 aP (m:=⟨true,true⟩) (J:=[]) (L:=[]) aN Tryz.func97 (by kernel_rfl) ((by kernel_rfl:aO Pr _ _ _ Tryz.f97 _ w R=MY d i b w R).mpr h)
def NT (F4 F5:Int) (F6 F7 F8:Int) (b:ah) (w:World) (R:Value→World→Prop):Prop:=
 nw lM (EY F4 F5 F6 F7 F8) w fun a c=>
 au .i64 (Addr.add a 0) c fun d=>
 au .i64 (Addr.add a 1) c fun e=>
 nw bn [.int .i64 d,.int .i64 e] c fun f g=>
 ax Pr cW [.slice none 0 0,.slice (some f) 2 2] g fun i j=>
 aK i fun k=>
 au .i64 (Addr.add a 2) j fun l=>
 au .i64 (Addr.add a 3) j fun m=>
 au .i64 (Addr.add a 4) j fun n=>
 nw bn (Z8 l m n 0) j fun o p=>
 ko (fun (q:ah) (s:Int)=>[(5,some (.slice q.a q.n q.c)),(22,some (.int .i64 s))])
 (fun t q s u=>az (decide (s<((4:Nat):Int)))
 (aZ (some o) s 4
 (au .i64 (Addr.add (base (some o)) (Int.toNat s * 1)) u fun v=>
 ax Pr Q4 (sr q v 2) u fun x y=>
 aK x fun z=>
 (aH (s+1)∧
 t z (s+1) y)))
 (cS Pr [bp,bp] bp [.slice q.a q.n q.c,.slice b.a b.n b.c] u fun A B=>
 (aH (512 - (A.n:Int))∧
 cS Pr [bp,bn] bp [.slice A.a A.n A.c,.int .i64 (512 - (A.n:Int))] B fun C D=>
 R (.slice C.a C.n C.c) D)))
 k 0 p
theorem afj {F4 F5:Int} {F6 F7 F8:Int} {b:ah} {w:World} {R:Value→World→Prop} (h:NT F4 F5 F6 F7 F8 b w R):Ok Pr NC [.agg ⟨EY F4 F5 F6 F7 F8⟩,.slice b.a b.n b.c] w R:=
 aP (m:=⟨true,true⟩) (J:=[]) (L:=[(3,[(5,.sl),(22,.int .i64)])]) aN Tryz.func98 (by kernel_rfl) ((by kernel_rfl:aO Pr _ _ _ Tryz.f98 _ w R=NT F4 F5 F6 F7 F8 b w R).mpr h)
def QG (d:Option Addr) (cP:Int) (w:World) (R:Value→World→Prop):Prop:=
 ax Pr Iz [.pointer d,.int .i64 cP] w fun a b=>
 bU.bY a fun c=>
 aD c fun e f=>
 aK e fun g=>
 aD f fun i j=>
 (j=[]∧
 dF i fun k=>
 az (!k)
 (R (.tuple ⟨SN 0 0 false⟩) b)
 (ax Pr Jn [.slice g.a g.n g.c] b fun l m=>
 bU.bY l fun n=>
 aD n fun o p=>
 Pv o fun q s t u v=>
 aD p fun x y=>
 aQ x fun z=>
 (y=[]∧
 nw lM (zc Pr lM) m fun A B=>
 oJ A q s t u v B fun C=>
 au .i64 (Addr.add A 2) C fun D=>
 az ((!z) || (!decide (D=0)))
 (R (.tuple ⟨SN 0 0 false⟩) C)
 (au .i64 (Addr.add A 0) (World.drew C) fun E=>
 au .i64 (Addr.add A 1) (World.drew C) fun F=>
 R (.tuple ⟨SN E F true⟩) (World.drew C)))))
theorem ahl {d:Option Addr} {cP:Int} {w:World} {R:Value→World→Prop} (h:QG d cP w R):Ok Pr Qh [.pointer d,.int .i64 cP] w R:=
 aP (m:=⟨true,true⟩) (J:=[]) (L:=[]) aN Tryz.func104 (by kernel_rfl) ((by kernel_rfl:aO Pr _ _ _ Tryz.f104 _ w R=QG d cP w R).mpr h)
def No (d:Option Addr) (i:Int) (w:World) (R:Value→World→Prop):Prop:=
 ax Pr Iw [.pointer d,.int .i64 i] w fun a b=>
 dF a fun c=>
 az (!c)
 (R (.tuple ⟨[.slice none 0 0,a]⟩) b)
 (cK d fun e=>
 ay (Addr.add e 0) b fun f=>
 aZ f.a i f.n
 (ay (Addr.add (base f.a) (Int.toNat i * 1)) b fun g=>
 ax Pr sY [.slice g.a g.n g.c] b fun j k=>
 aK j fun l=>
 R (.tuple ⟨[.slice l.a l.n l.c,.nilIface]⟩) k))
theorem aeG {d:Option Addr} {i:Int} {w:World} {R:Value→World→Prop} (h:No d i w R):Ok Pr Iz [.pointer d,.int .i64 i] w R:=
 aP (m:=⟨true,true⟩) (J:=[]) (L:=[]) aN Tryz.func114 (by kernel_rfl) ((by kernel_rfl:aO Pr _ _ _ Tryz.f114 _ w R=No d i w R).mpr h)
def QH (b:ah) (w:World) (R:Value→World→Prop):Prop:=
 nw lM (zc Pr lM) w fun a c=>
 ko (fun (d:ah) (e:Int)=>[(4,some (.slice d.a d.n d.c)),(5,some (.int .i64 e))])
 (fun f d e g=>az (decide (e<24))
 ((aH (e+2)∧
 Dt 1 b e (e+2) fun i=>
 ax Pr vh [.slice i.a i.n i.c] g fun j k=>
 aF .i64 j fun l=>
 nw bn [.int .i64 l] k fun m n=>
 cS Pr [nJ,nJ] nJ [.slice d.a d.n d.c,.slice (some m) 1 1] n fun o p=>
 (aH (e+2)∧
 f o (e+2) p)))
 (fD (fun (q:Addr)=>[(6,some (.pointer (some q)))])
 (fun q s=>au .i64 (Addr.add q 2) s fun t=>
 au .i64 (Addr.add q 3) s fun u=>
 (aH (u - 1)∧
 au .i64 (Addr.add q 4) s fun v=>
 au .i64 (Addr.add q 4) s fun x=>
 au .i64 (Addr.add q 4) s fun y=>
 au .i64 (Addr.add q 3) s fun z=>
 lt (A:=Bool) ((decide (v=488)) || (((decide (t=u - 1)) && (decide (x<488))) && ((decide (0<y)) || (decide (z=1))))) fun B=>
 wH q (World.drew s) fun C D E F G=>
 au .i64 (Addr.add q 0) (World.drew s) fun I=>
 au .i64 (Addr.add q 1) (World.drew s) fun J=>
 au .i64 (Addr.add q 2) (World.drew s) fun L=>
 au .i64 (Addr.add q 3) (World.drew s) fun M=>
 az ((((decide (1≤I)) && (decide (1≤J))) && (decide (L<M))) && B)
 (aZ d.a 3 d.n
 (au .i64 (Addr.add (base d.a) (Int.toNat 3 * 1)) (World.drew s) fun N=>
 oJ a C D E F G (World.drew s) fun O=>
 (kept (Addr.add (base d.a) (Int.toNat 3 * 1)) 1 (World.drew s) O∧
 wH a O fun Q S T U V=>
 R (.tuple ⟨[.agg ⟨EY Q S T U V⟩,.bool (decide (N=0))]⟩) O)))
 (oJ a C D E F G (World.drew s) fun X=>
 wH a X fun Y Z aa ba ca=>
 R (.tuple ⟨[.agg ⟨EY Y Z aa ba ca⟩,.bool false]⟩) X)))
 (fun da=>
 Bt b 8 fun ea=>
 Dt 1 b 8 16 fun fa=>
 aZ d.a 0 d.n
 (au .i64 (Addr.add (base d.a) (Int.toNat 0 * 1)) (World.drew g) fun ga=>
 aZ d.a 1 d.n
 (au .i64 (Addr.add (base d.a) (Int.toNat 1 * 1)) (World.drew g) fun ia=>
 aZ d.a 2 d.n
 (au .i64 (Addr.add (base d.a) (Int.toNat 2 * 1)) (World.drew g) fun ja=>
 ((ax Pr vh [.slice ea.a ea.n ea.c] (World.drew g) fun ka la=>
 aF .i64 ka fun ma=>
 (kept (Addr.add (base d.a) (Int.toNat 2 * 1)) 1 (World.drew g) la∧
 (kept (Addr.add (base d.a) (Int.toNat 1 * 1)) 1 (World.drew g) la∧
 (kept (Addr.add (base d.a) (Int.toNat 0 * 1)) 1 (World.drew g) la∧
 ((ax Pr vh [.slice fa.a fa.n fa.c] la fun na oa=>
 aF .i64 na fun pa=>
 (kept (Addr.add (base d.a) (Int.toNat 2 * 1)) 1 la oa∧
 (kept (Addr.add (base d.a) (Int.toNat 1 * 1)) 1 la oa∧
 (kept (Addr.add (base d.a) (Int.toNat 0 * 1)) 1 la oa∧
 nw lM (zc Pr lM) oa fun qa sa=>
 (kept (Addr.add (base d.a) (Int.toNat 2 * 1)) 1 oa sa∧
 (kept (Addr.add (base d.a) (Int.toNat 1 * 1)) 1 oa sa∧
 (kept (Addr.add (base d.a) (Int.toNat 0 * 1)) 1 oa sa∧
 oJ qa ma pa ga ia ja sa fun ta=>
 da qa ta)))))))∧
 (nw lM (zc Pr lM) la fun ua va=>
 (kept (Addr.add (base d.a) (Int.toNat 2 * 1)) 1 la va∧
 (kept (Addr.add (base d.a) (Int.toNat 1 * 1)) 1 la va∧
 (kept (Addr.add (base d.a) (Int.toNat 0 * 1)) 1 la va∧
 ax Pr vh [.slice fa.a fa.n fa.c] va fun xa ya=>
 aF .i64 xa fun za=>
 (kept (Addr.add (base d.a) (Int.toNat 2 * 1)) 1 va ya∧
 (kept (Addr.add (base d.a) (Int.toNat 1 * 1)) 1 va ya∧
 (kept (Addr.add (base d.a) (Int.toNat 0 * 1)) 1 va ya∧
 oJ ua ma za ga ia ja ya fun Aa=>
 da ua Aa))))))))))))∧
 (nw lM (zc Pr lM) (World.drew g) fun Ba Ca=>
 (kept (Addr.add (base d.a) (Int.toNat 2 * 1)) 1 (World.drew g) Ca∧
 (kept (Addr.add (base d.a) (Int.toNat 1 * 1)) 1 (World.drew g) Ca∧
 (kept (Addr.add (base d.a) (Int.toNat 0 * 1)) 1 (World.drew g) Ca∧
 ax Pr vh [.slice ea.a ea.n ea.c] Ca fun Da Ea=>
 aF .i64 Da fun Fa=>
 (kept (Addr.add (base d.a) (Int.toNat 2 * 1)) 1 Ca Ea∧
 (kept (Addr.add (base d.a) (Int.toNat 1 * 1)) 1 Ca Ea∧
 (kept (Addr.add (base d.a) (Int.toNat 0 * 1)) 1 Ca Ea∧
 ax Pr vh [.slice fa.a fa.n fa.c] Ea fun Ga Ia=>
 aF .i64 Ga fun Ja=>
 (kept (Addr.add (base d.a) (Int.toNat 2 * 1)) 1 Ea Ia∧
 (kept (Addr.add (base d.a) (Int.toNat 1 * 1)) 1 Ea Ia∧
 (kept (Addr.add (base d.a) (Int.toNat 0 * 1)) 1 Ea Ia∧
 oJ Ba Fa Ja ga ia ja Ia fun La=>
 da Ba La)))))))))))))))))
 ⟨none,0,0⟩ 16 c
theorem ahm {b:ah} {w:World} {R:Value→World→Prop} (h:QH b w R):Ok Pr Jn [.slice b.a b.n b.c] w R:=
 aP (m:=⟨true,true⟩) (J:=[(7,[(6,.DE)])]) (L:=[(3,[(4,.sl),(5,.int .i64)])]) aN Tryz.func115 (by kernel_rfl) ((by kernel_rfl:aO Pr _ _ _ Tryz.f115 _ w R=QH b w R).mpr h)
def O1 (x:Int) (w:World) (R:Value→World→Prop):Prop:=
 R (.bool (!decide (x=0))) w
theorem af3 {x:Int} {w:World} {R:Value→World→Prop} (h:O1 x w R):Ok Pr Oz [.int .u8 x] w R:=
 aP (m:=⟨true,true⟩) (J:=[]) (L:=[]) aN Tryz.func117 (by kernel_rfl) ((by kernel_rfl:aO Pr _ _ _ Tryz.f117 _ w R=O1 x w R).mpr h)
def MZ (d:Option Addr) (i:Int) (w:World) (R:Value→World→Prop):Prop:=
 az (Option.isNone (α:=Addr) d)
 (ax Pr Ex [.int .i64 1] w fun a b=>
 R a b)
 (fD (fun (c:Bool)=>[(9,some (.bool c))])
 (fun c e=>az c
 (ax Pr Ex [.int .i64 2] e fun f g=>
 R f g)
 (R (.nilIface) e))
 (fun j=>
 az (decide (i<0))
 (j true w)
 (cK d fun k=>
 ay (Addr.add k 0) w fun l=>
 j (decide ((l.n:Int)≤i)) w)))
theorem aet {d:Option Addr} {i:Int} {w:World} {R:Value→World→Prop} (h:MZ d i w R):Ok Pr Iw [.pointer d,.int .i64 i] w R:=
 aP (m:=⟨true,true⟩) (J:=[(4,[(9,.bool)])]) (L:=[]) aN Tryz.func132 (by kernel_rfl) ((by kernel_rfl:aO Pr _ _ _ Tryz.f132 _ w R=MZ d i w R).mpr h)
def O2 (code:Int) (w:World) (R:Value→World→Prop):Prop:=
 nw qo [.int .i64 code,.string alw] w fun a b=>
 R (.iface kH (.pointer (some a))) b
theorem af4 {code:Int} {w:World} {R:Value→World→Prop} (h:O2 code w R):Ok Pr Ex [.int .i64 code] w R:=
 aP (m:=⟨true,true⟩) (J:=[]) (L:=[]) aN Tryz.func133 (by kernel_rfl) ((by kernel_rfl:aO Pr _ _ _ Tryz.f133 _ w R=O2 code w R).mpr h)
def Ro (b:ah) (n size:Int) (w:World) (R:Value→World→Prop):Prop:=
 ko (fun (a:ah) (c:Int)=>[(0,some (.slice a.a a.n a.c)),(2,some (.int .i64 c))])
 (fun d a c e=>az (decide (0<c))
 ((aH (c - 1)∧
 (aH (8 * (c - 1))∧
 lD (8 * (c - 1)) (nw aM [.int .u8 (IntKind.wrap .u8 (shr .i64 n (8 * (c - 1))))] e fun f g=>
 cS Pr [bp,bp] bp [.slice a.a a.n a.c,.slice (some f) 1 1] g fun i j=>
 d i (c - 1) j))))
 (R (.slice a.a a.n a.c) e))
 b size w
theorem ahS {b:ah} {n size:Int} {w:World} {R:Value→World→Prop} (h:Ro b n size w R):Ok Pr Q4 (sr b n size) w R:=
 aP (m:=⟨true,true⟩) (J:=[]) (L:=[(1,[(0,.sl),(2,.int .i64)])]) aN Tryz.func134 (by kernel_rfl) ((by kernel_rfl:aO Pr _ _ _ Tryz.f134 _ w R=Ro b n size w R).mpr h)
def Rp (b:ah) (w:World) (R:Value→World→Prop):Prop:=
 ko (fun (a c:Int)=>[(3,some (.int .i64 a)),(8,some (.int .i64 c))])
 (fun d a c e=>az (decide (c<(b.n:Int)))
 (aZ b.a c b.n
 (au .u8 (Addr.add (base b.a) (Int.toNat c * 1)) e fun f=>
 (aH (f)∧
 lt (A:=Int) (rC .i64 (shl .i64 a 8) f) fun g=>
 (aH (c+1)∧
 d g (c+1) e))))
 (R (.int .i64 a) e))
 0 0 w
theorem ahT {b:ah} {w:World} {R:Value→World→Prop} (h:Rp b w R):Ok Pr vh [.slice b.a b.n b.c] w R:=
 aP (m:=⟨true,true⟩) (J:=[]) (L:=[(3,[(3,.int .i64),(8,.int .i64)])]) aN Tryz.func158 (by kernel_rfl) ((by kernel_rfl:aO Pr _ _ _ Tryz.f158 _ w R=Rp b w R).mpr h)
end Go.Proofs.YtpchgbolambkcaaGreatDoor
end
section
set_option linter.unusedVariables false
set_option linter.unusedSimpArgs false
namespace Go.Proofs.YtpchgbolambkcaaGreatDoor
open Go Go.Ev
set_option maxRecDepth 20000
set_option linter.unusedVariables false
structure aU where
 now:List (List B8)
 dI:List (List B8)
 dQ:List Bool
structure gB where
 nw:ah
 fm:ah
 dt:ah
 xs:List ah
 ys:List ah
 fp:List Nat
def fo (w:World) (x:ah) (l:List B8):Prop:=Bytes w x l
def iC (l:List Bool):List Value:=l.map Value.bool
def pV (s:gB):List Value:=[.slice s.nw.a s.nw.n s.nw.c,.slice s.fm.a s.fm.n s.fm.c,.slice s.dt.a s.dt.n s.dt.c]
def cu (p:Nat) (s:gB) (D:aU):List aB:=[.av p (pV s) oI,.row bp 1 s.nw (s.xs.map ah.v),.row bp 1 s.fm (s.ys.map ah.v),.row jA 1 s.dt (iC D.dQ),.box s.fp fun w=>br fo w s.xs D.now∧br fo w s.ys D.dI]
structure aU.ok (D:aU) (n:Nat):Prop where
 most:n≤256
 now:D.now.length=n
 dI:D.dI.length=n
 dQ:D.dQ.length=n
 DA:∀ b∈D.now,b.length=512
 KK:∀ b∈D.dI,b.length=512
structure gY (w:World) (p:Nat) (s:gB) (D:aU):Prop where
 av:bQ w p (pV s) oI
 nw:Sl w s.nw 1 (s.xs.map ah.v)
 fm:Sl w s.fm 1 (s.ys.map ah.v)
 dt:Sl w s.dt 1 (iC D.dQ)
 en:br fo w s.xs D.now
 ef:br fo w s.ys D.dI
theorem gY.aI {w w':World} {p:Nat} {s:gB} {D:aU} (h:gY w p s D) (m:Mod [] w w'):gY w' p s D:=
 ⟨h.av.aI m,h.nw.mod m (sq _),h.fm.mod m (sq _),h.dt.mod m (sq _),br.aI (E:=fo) (fun m h=>Bytes.aI h m) h.en m,br.aI (E:=fo) (fun m h=>Bytes.aI h m) h.ef m⟩
theorem mV {w0 w:World} {S:List Nat} {M:List aB} {p:Nat} {s:gB} {D:aU} (H:aq w0 S w (cu p s D ++ M)):gY w p s D:=
 ⟨H.av 0 rfl,H.gQ 1 rfl,H.gQ 2 rfl,H.gQ 3 rfl,(H.box 4 rfl).1,(H.box 4 rfl).2⟩
section
variable {w:World} {p:Nat} {s:gB} {D:aU} {n:Nat}
theorem gY.nL (h:gY w p s D):D.now.length=s.nw.n:=by have:=h.nw.len; rw [List.length_map,h.en.1] at this; omega
theorem gY.fL (h:gY w p s D):D.dI.length=s.fm.n:=by have:=h.fm.len; rw [List.length_map,h.ef.1] at this; omega
theorem gY.dL (h:gY w p s D):D.dQ.length=s.dt.n:=by have:=h.dt.len; unfold iC at this; rw [List.length_map] at this; omega
theorem gY.nowAt (h:gY w p s D) {i:Nat} (hi:i<D.now.length):∃ x,s.xs[i]? = some x∧w.cell? (Addr.add (base s.nw.a) (i * 1))=some x.v∧Bytes w x (D.now.getD i []):=by
 have hx:i<s.xs.length:=by rw [h.en.1]; exact hi
 refine ⟨s.xs[i],List.getElem?_eq_getElem hx,h.nw.cell _ _ (by rw [Nat.mul_one,List.getElem?_map,List.getElem?_eq_getElem hx]; rfl),h.en.2 i _ _ (List.getElem?_eq_getElem hx) ?_⟩
 rw [List.getD_eq_getElem?_getD,List.getElem?_eq_getElem hi]; rfl
theorem gY.amS (h:gY w p s D) {i:Nat} (hi:i<D.dI.length):∃ x,s.ys[i]? = some x∧w.cell? (Addr.add (base s.fm.a) (i * 1))=some x.v∧Bytes w x (D.dI.getD i []):=by
 have hx:i<s.ys.length:=by rw [h.ef.1]; exact hi
 refine ⟨s.ys[i],List.getElem?_eq_getElem hx,h.fm.cell _ _ (by rw [Nat.mul_one,List.getElem?_map,List.getElem?_eq_getElem hx]; rfl),h.ef.2 i _ _ (List.getElem?_eq_getElem hx) ?_⟩
 rw [List.getD_eq_getElem?_getD,List.getElem?_eq_getElem hi]; rfl
theorem gY.alY (h:gY w p s D) {i:Nat} (hi:i<D.dQ.length):w.cell? (Addr.add (base s.dt.a) (i * 1))=some (.bool (D.dQ.getD i false)):=
 h.dt.cell _ _ (by unfold iC; rw [Nat.mul_one,List.getElem?_map,List.getElem?_eq_getElem hi,List.getD_eq_getElem?_getD,List.getElem?_eq_getElem hi]; rfl)
end
theorem W8 (c:Int) (hc:c≠0) (w:World):Ok Pr Ex [.int .i64 c] w fun v w'=>gy w w' v c∧Mod [] w w':=by
 refine af4 ?_
 unfold O2
 exact oL fun b w' hb h1 h2 _=>⟨gy.mk h1 (by omega) hc,h2⟩
theorem An {w:World} {p:Nat} {s:gB} {D:aU} (h:gY w p s D):Ok Pr wB [.pointer (some ⟨p,0,none⟩)] w fun v w'=>v=.int .i64 (D.now.length:Int)∧w'=w:=by
 refine aeW ?_
 unfold Nx
 exact ite_false rfl (h.av.ay (an p 0) rfl ⟨by rw [h.nL],rfl⟩)
def gU (D:aU) (i:Int):Int:=if 0≤i∧i<(D.now.length:Int) then 0 else 2
theorem aak {D:aU} {i:Int} (h:gU D i≠0):gU D i=2:=by
 unfold gU at h ⊢
 split
 ·rename_i hc; rw [if_pos hc] at h; exact absurd rfl h
 ·rfl
theorem W9 {w:World} {p:Nat} {s:gB} {D:aU} (h:gY w p s D) (i:Int):Ok Pr Iw [.pointer (some ⟨p,0,none⟩),.int .i64 i] w fun v w'=>gy w w' v (gU D i)∧Mod [] w w':=by
 refine aet ?_
 unfold MZ
 have hn:=h.nL
 refine ite_false rfl (gm fun go bX=>?_)
 have bad:∀ {w2:World},gU D i≠0→w2=w→go true w2:=by
  rintro w2 gp rfl
  refine bX _ _ (ite_true rfl (aC (W8 2 (by omega) w2) ?_))
  rintro v w3 ⟨he,m⟩
  rw [aak gp]
  exact ⟨he,m⟩
 refine cN (fun hi=>?_) (fun hi=>?_)
 ·have hi:=of_decide_eq_true hi
  exact bad (by unfold gU; rw [if_neg (by omega)]; omega) rfl
 ·have hi:=of_decide_eq_false hi
  refine h.av.ay (an p 0) rfl ?_
  by_cases cI:i<(D.now.length:Int)
  ·rw [decide_eq_false (show ¬ ((s.nw.n:Nat):Int)≤i by omega)]
   refine bX _ _ (ite_false rfl ?_)
   have:gU D i=0:=by unfold gU; rw [if_pos ⟨by omega,cI⟩]
   rw [this]
   exact q8 _ _ |> fun e=>⟨e,Mod.refl _ _⟩
  ·rw [decide_eq_true (show ((s.nw.n:Nat):Int)≤i by omega)]
   exact bad (by unfold gU; rw [if_neg (by omega)]; omega) rfl
def DV (D:aU) (i:Int):List B8:=if gU D i=0 then D.now.getD i.toNat [] else []
theorem XB {w:World} {p:Nat} {s:gB} {D:aU} {n:Nat} (h:gY w p s D) (hD:D.ok n) (i:Int):Ok Pr Iz [.pointer (some ⟨p,0,none⟩),.int .i64 i] w fun v w'=>∃ (y:ah) (er:Value),v=.tuple ⟨[.slice y.a y.n y.c,er]⟩∧aq w [] w' [.row aM 1 y (aL (DV D i)),aB.err er (gU D i)]:=by
 refine aeG ?_
 unfold No
 have hR:DV D i=if gU D i=0 then D.now.getD i.toNat [] else []:=rfl
 refine aC (W9 h i) ?_
 rintro er w1 ⟨he,m⟩
 refine he.1.isNil ?_
 by_cases h0:gU D i=0
 ·refine ite_false (by rw [decide_eq_true h0]; rfl) ?_
  rw [if_pos h0] at hR
  have hi:0≤i∧i<(D.now.length:Int):=by
   unfold gU at h0; split at h0
   ·assumption
   ·omega
  have h':=h.aI m
  obtain ⟨x,_,hc,hb⟩:=h'.nowAt (i:=i.toNat) (by omega)
  have hn:=h.nL
  have hl:(D.now.getD i.toNat []).length=512:=hD.DA _ (by
   rw [List.getD_eq_getElem?_getD,List.getElem?_eq_getElem (by omega)]; exact List.getElem_mem _)
  refine h'.av.ay (an p 0) rfl ⟨⟨Sl.pre h'.nw (by omega),hi.1,by omega⟩,x,hc,aC (D9 x _ (by omega) w1 hb) ?_⟩
  rintro _ w2 ⟨y,rfl,hy,m2⟩
  refine dP ⟨y,.nilIface,rfl,?_⟩
  rw [hR,h0]
  exact (((aq.start w).frame m).gG m2 hy).jY (Mod.refl _ _) (q8 _ _)
 ·refine ite_true (by rw [decide_eq_false h0]; rfl) ⟨⟨none,0,0⟩,er,rfl,?_⟩
  rw [hR,if_neg h0]
  exact ((aq.start w).jC aM 1).jY m he
def qJ (D:aU) (i:Int) (l:List B8):Int:=if gU D i=0 then (if l.length=512 then 0 else 3) else 2
def lT (D:aU) (i:Int) (l:List B8):aU:=if qJ D i l=0 then ⟨D.now.set i.toNat l,D.dI,D.dQ.set i.toNat true⟩ else D
theorem aaY {D:aU} {n:Nat} (h:D.ok n) (i:Int) (l:List B8):(lT D i l).ok n:=by
 unfold lT
 split
 ·rename_i h0
  have hl:l.length=512:=by
   unfold qJ at h0
   split at h0
   ·split at h0
    ·assumption
    ·omega
   ·omega
  refine ⟨h.most,by simp [h.now],h.dI,by simp [h.dQ],fun b hb=>?_,h.KK⟩
  rcases List.mem_or_eq_of_mem_set hb with k | k
  ·exact h.DA b k
  ·rw [k]; exact hl
 ·exact h
theorem Xh {w0 w:World} {S:List Nat} {p:Nat} {s:gB} {D:aU} {n:Nat} (H:aq w0 S w (cu p s D)) (hD:D.ok n) (i:Int) (x:ah) (l:List B8) (hx:Bytes w x l) :
  Ok Pr Iv [.pointer (some ⟨p,0,none⟩),.int .i64 i,.slice x.a x.n x.c] w fun v w'=>∃ s',aq w0 S w' (cu p s' (lT D i l) ++ [aB.err v (qJ D i l)]):=by
 refine aes ?_
 unfold MY
 have hR:gY w p s D:=mV (M:=[]) H
 have hn:=hR.nL
 have hd:=hR.dL
 have cH:=hx.len
 have hC:qJ D i l=if gU D i=0 then (if l.length=512 then 0 else 3) else 2:=rfl
 have hW:lT D i l=if qJ D i l=0 then ⟨D.now.set i.toNat l,D.dI,D.dQ.set i.toNat true⟩ else D:=rfl
 generalize qJ D i l=C at *
 generalize lT D i l=W at *
 refine aC (W9 hR i) ?_
 rintro er w1 ⟨he,m⟩
 refine he.1.isNil ?_
 by_cases h0:gU D i=0
 case neg=>
  rw [if_neg h0] at hC
  rw [if_neg (by omega)] at hW
  subst hC hW
  refine ite_true (by rw [decide_eq_false h0]; rfl) ⟨s,?_⟩
  rw [aak h0] at he
  exact H.jY m he
 rw [if_pos h0] at hC
 refine ite_false (by rw [decide_eq_true h0]; rfl) ?_
 have H:=H.frame m
 by_cases hl:l.length=512
 case neg=>
  rw [if_neg hl] at hC
  rw [if_neg (by omega)] at hW
  subst hC hW
  refine ite_true (by rw [decide_eq_false (show ¬ ((x.n:Nat):Int)=512 by omega)]; rfl) (aC (W8 3 (by omega) w1) ?_)
  rintro v w2 ⟨l9,m2⟩
  exact ⟨s,H.jY m2 l9⟩
 rw [if_pos hl] at hC
 rw [if_pos hC] at hW
 subst hC hW
 have hi:0≤i∧i<(D.now.length:Int):=by
  unfold gU at h0; split at h0
  ·assumption
  ·omega
 obtain ⟨k,rfl⟩:∃ k:Nat,i=(k:Int):=⟨i.toNat,by omega⟩
 have hk:k<D.now.length:=by omega
 have hkx:k<s.xs.length:=by rw [hR.en.1]; exact hk
 refine ite_false (by rw [decide_eq_true (show ((x.n:Nat):Int)=512 by omega)]; rfl) ?_
 have E:=H.drew
 refine E.ay 0 rfl (an p 0) rfl (E.ay 0 rfl (an p 2) rfl (aC (D9 x l (by omega) _ ((hx.aI m).aI (Mod.drew _ _))) ?_))
 rintro _ w3 ⟨y,rfl,hy,m3⟩
 have F:=E.gG m3 hy
 have F:aq w0 S w3 [.av p (pV s) oI,.row bp 1 s.nw (s.xs.map ah.v),.row bp 1 s.fm (s.ys.map ah.v),.row jA 1 s.dt (iC D.dQ),.box s.fp fun w=>br fo w s.xs D.now∧br fo w s.ys D.dI,.row aM 1 y (aL l)]:=F
 have hdl:D.dQ.length=n:=hD.dQ
 have nV:D.now.length=n:=hD.now
 refine dP ⟨E.kept m3 0 rfl (an p 2) 1,E.kept m3 0 rfl (an p 0) 1,⟨Sl.pre (F.gQ 1 rfl) (by omega),by omega,by omega⟩,?_⟩
 refine F.jD 1 (i:=k) (v:=y.v) rfl (by rw [Int.toNat_natCast,Nat.mul_one]) (by rw [List.length_map]; exact hkx) rfl fun w4 F=>⟨⟨Sl.pre (F.gQ 3 rfl) (by omega),by omega,by omega⟩,?_⟩
 refine F.jD 3 (i:=k) (v:=.bool true) rfl (by rw [Int.toNat_natCast,Nat.mul_one]) (by unfold iC; rw [List.length_map]; omega) rfl fun w5 F=>?_
 have F:=F.merge 4 5 (t:=.box (s.fp ++ y.row) fun w=>br fo w (s.xs.set k y) (D.now.set k l)∧br fo w s.ys D.dI) rfl rfl (by omega) (fun h1 h2=>⟨fun b hb=>?_,fun w2 h3=>?_⟩) (fun b hb=>List.mem_append.1 hb)
 ·refine ⟨⟨s.nw,s.fm,s.dt,s.xs.set k y,s.ys,s.fp ++ y.row⟩,?_⟩
  have F:=F.jY (Mod.refl _ _) (q8 _ _)
  refine F.eu [0,1,2,3,4,6] (by decide) ?_
  rw [Int.toNat_natCast]
  unfold cu
  simp only [List.map_set,iC]
  rfl
 ·rcases List.mem_append.1 hb with h | h
  ·exact h1.1 b h
  ·exact (Own.tP h2 b h).2
 ·obtain ⟨q1,q2⟩:=h1.2 w2 fun b hb=>h3 b (List.mem_append_left _ hb)
  have q3:Bytes w2 y l:=Own.bytes ((aB.row aM 1 y (aL l)).iu w5 w2 (fun b hb=>h3 b (List.mem_append_right _ hb)) h2)
  exact ⟨br.put (E:=fo) q1 q3,q2⟩
end Go.Proofs.YtpchgbolambkcaaGreatDoor
end
section
set_option linter.unusedVariables false
set_option linter.unusedSimpArgs false
namespace Go.Proofs.YtpchgbolambkcaaGreatDoor
open Go Go.Ev
set_option maxRecDepth 20000
set_option linter.unusedVariables false
theorem wU {A:Type} {l:List A} {i:Nat} {d:A} (h:i<l.length):l.getD i d∈l:=by
 rw [List.getD_eq_getElem?_getD,List.getElem?_eq_getElem h]
 exact List.getElem_mem h
theorem AE {A:Type} {l:List A} {i:Nat} {d:A} (h:i<l.length):l[i]? = some (l.getD i d):=by rw [List.getD_eq_getElem?_getD,List.getElem?_eq_getElem h]; rfl
theorem RX:fQ Pr nJ bn 1 8:=fQ.of (by kernel_rfl)
theorem CR:fQ Pr mz bp 1 24:=fQ.of (by kernel_rfl)
theorem akB:fQ Pr JN jA 1 1:=fQ.of (by kernel_rfl)
def iM (l:List Bool) (k:Nat):List Int:=((List.range k).filter fun i=>l.getD i false).map fun i:Nat=>(i:Int)
theorem ZH (l:List Bool) (k:Nat):iM l (k+1)=if l.getD k false=true then iM l k ++ [(k:Int)] else iM l k:=by
 unfold iM
 rw [List.range_succ,List.filter_append]
 cases h:l.getD k false with
 | true=>
  rw [if_pos rfl,List.filter_cons_of_pos (by rw [h]),List.filter_nil,List.map_append]
  rfl
 | false=>
  rw [if_neg (by decide),List.filter_cons_of_neg (by rw [h]; decide),List.filter_nil,List.append_nil]
theorem Sz (l:List Bool) (k:Nat):(iM l k).length≤k:=by
 unfold iM
 rw [List.length_map]
 exact Nat.le_trans (List.length_filter_le _ _) (by simp)
theorem Ke {l:List Bool} {k:Nat} {x:Int} (h:x∈iM l k):∃ i:Nat,x=(i:Int)∧i<k∧l.getD i false=true:=by
 unfold iM at h
 obtain ⟨i,hi,rfl⟩:=List.mem_map.1 h
 rw [List.mem_filter,List.mem_range] at hi
 exact ⟨i,rfl,hi.1,hi.2⟩
theorem Oq {w:World} {p:Nat} {s:gB} {D:aU} {n:Nat} (h:gY w p s D) (hD:D.ok n):Ok Pr Em [.pointer (some ⟨p,0,none⟩)] w fun v w'=>∃ y:ah,v=.slice y.a y.n y.c∧aq w [] w' [.row bn 1 y (dw (iM D.dQ n))]:=by
 refine aeq ?_
 unfold MW
 have hm:=hD.most
 have nV:=hD.now
 have hdl:=hD.dQ
 have hd:=h.dL
 refine aC (An h) ?_
 rintro _ w1 ⟨rfl,e1⟩
 rw [e1]
 refine cr (qq 0 n (fun i o w'=>aq w [] w' [.row bn 1 o (dw (iM D.dQ i))]) rfl (Nat.zero_le _) ((aq.start w).jC bn 1) ?_ ?_)
 ·intro again i o w2 _ hi H aR
  have h':=h.aI H.mod
  have Hv:=jX.len (H.dz 0 rfl)
  have hle:=Sz D.dQ i
  refine ite_true (decide_eq_true (by omega)) (h'.av.ay (an p 2) rfl ⟨⟨Sl.pre h'.dt (by omega),by omega,by omega⟩,_,h'.alY (by omega),?_⟩)
  rw [Int.toNat_natCast]
  refine cN (fun hb=>?_) (fun hb=>?_)
  ·refine H.vJ 0 RX rfl rfl (by simp [fW]) (by omega) (by omega) fun o' w3 H _=>⟨⟨by omega,by omega⟩,aR o' w3 ?_⟩
   rw [ZH,if_pos hb]
   have e:dw (iM D.dQ i ++ [(i:Int)])=dw (iM D.dQ i) ++ [.int .i64 (i:Int)]:=by simp [dw,i64]
   rw [e]
   exact H
  ·refine ⟨⟨by omega,by omega⟩,aR o w2 ?_⟩
   rw [ZH,if_neg (by rw [hb]; decide)]
   exact H
 ·intro again o w2 H
  exact ite_false (decide_eq_false (by omega)) ⟨o,rfl,H⟩
def rM (D:aU) (i:Nat) (k:Bool):aU:=⟨D.now.set i (if k then D.now.getD i [] else D.dI.getD i []),if k then D.dI.set i (D.now.getD i []) else D.dI,D.dQ.set i false⟩
def gR (keep:List Bool) (k:Nat):Bool:=decide (0<keep.length) && keep.getD (k % keep.length) false
def mh (D:aU) (keep:List Bool) (is:List Int):Nat→aU
 | 0=>D
 | k+1=>rM (mh D keep is k) (is.getD k 0).toNat (gR keep k)
def lU (keep:List Bool):Nat→Nat
 | 0=>0
 | k+1=>lU keep k+if gR keep k=true then 1 else 0
theorem KC (keep:List Bool):∀ k,lU keep k≤k
 | 0=>Nat.le_refl 0
 | k+1=>by
  have:=KC keep k
  show lU keep k+_≤_
  split <;> omega
theorem aaZ {D:aU} {n:Nat} (h:D.ok n) (i:Nat) (hi:i<n) (k:Bool):(rM D i k).ok n:=by
 have h1:=h.now
 have h2:=h.dI
 have g1:(D.now.getD i []).length=512:=h.DA _ (wU (by omega))
 have g2:(D.dI.getD i []).length=512:=h.KK _ (wU (by omega))
 refine ⟨h.most,by simp [rM,h.now],by cases k <;> simp [rM,h.dI],by simp [rM,h.dQ],fun b hb=>?_,fun b hb=>?_⟩
 ·rcases List.mem_or_eq_of_mem_set hb with e | e
  ·exact h.DA b e
  ·rw [e]; cases k
   ·exact g2
   ·exact g1
 ·cases k with
  | false=>exact h.KK b hb
  | true=>
   rcases List.mem_or_eq_of_mem_set (show b∈D.dI.set i (D.now.getD i []) from hb) with e | e
   ·exact h.KK b e
   ·rw [e]; exact g1
theorem aa0 {D:aU} {n:Nat} (h:D.ok n) (keep:List Bool) (is:List Int) (hi:∀ x∈is,∃ i:Nat,x=(i:Int)∧i<n):∀ k,k≤is.length→(mh D keep is k).ok n
 | 0,_=>h
 | k+1,hk=>by
  obtain ⟨i,e,dM⟩:=hi _ (wU (l:=is) (i:=k) (d:=0) (by omega))
  refine aaZ (aa0 h keep is hi k (by omega)) _ ?_ _
  rw [e]; omega
def eE (D:aU) (keep:List Bool):aU:=mh D keep (iM D.dQ D.now.length) (iM D.dQ D.now.length).length
def yY (w:World) (x:ah) (l:List Bool):Prop:=Sl w x 1 (iC l)
theorem yY.len {w:World} {x:ah} {l:List Bool} (h:yY w x l):l.length=x.n:=by have:=Sl.len h; unfold iC at this; rw [List.length_map] at this; omega
theorem Ot {w0 w:World} {S:List Nat} {p:Nat} {s:gB} {D:aU} {n:Nat} (H:aq w0 S w (cu p s D)) (hD:D.ok n) (x:ah) (keep:List Bool) (hx:∀ {w'},Mod S w0 w'→yY w' x keep) :
  Ok Pr En [.pointer (some ⟨p,0,none⟩),.slice x.a x.n x.c] w fun v w'=>∃ s',v=.int .i64 (lU keep (iM D.dQ n).length:Int)∧aq w0 S w' (cu p s' (eE D keep)):=by
 refine aer ?_
 unfold MX
 have hR:gY w p s D:=mV (M:=[]) H
 have hE:eE D keep=mh D keep (iM D.dQ n) (iM D.dQ n).length:=by unfold eE; rw [hD.now]
 rw [hE]
 have hm:=hD.most
 refine aC (Oq hR hD) ?_
 rintro _ w1 ⟨y,rfl,G⟩
 have hix:∀ v∈iM D.dQ n,∃ i:Nat,v=(i:Int)∧i<n:=fun v hv=>by obtain ⟨i,e,hi,_⟩:=Ke hv; exact ⟨i,e,hi⟩
 have hle:=Sz D.dQ n
 have hk:=fun k hk=>aa0 hD keep _ hix k hk
 generalize iM D.dQ n=is at *
 have H:=H.join G
 refine dP (qq 0 is.length (fun k (m:Int) w'=>m=(lU keep k:Int)∧∃ s',aq w0 S w' (cu p s' (mh D keep is k) ++ [.row bn 1 y (dw is)])) rfl (by omega) ⟨rfl,s,H⟩ ?_ ?_)
 ·rintro again k m w2 _ hi ⟨rfl,s',H⟩ aR
  have hN:=H.dz 5 rfl
  have gW:=hN.len
  obtain ⟨i,ei,dM⟩:=hix _ (wU (l:=is) (d:=0) hi)
  have fF:=hk k (by omega)
  have hcr:mh D keep is (k+1)=rM (mh D keep is k) i (gR keep k):=by
   show rM _ (is.getD k 0).toNat _=_
   rw [ei]; rfl
  have hnn:(lU keep (k+1):Int)=(lU keep k:Int)+if gR keep k=true then 1 else 0:=by
   show ((lU keep k+_:Nat):Int)=_
   split <;> simp
  have Lm:=KC keep k
  refine ite_true (decide_eq_true (by omega)) (hN.ld hi rfl ?_)
  rw [ei]
  generalize hE:mh D keep is k=E at *
  have asR:=fF.now
  have anK:=fF.dI
  have asE:=fF.dQ
  refine gm fun go bX=>gm fun iH fH=>?_
  have fin:∀ {w3:World} (b:Bool),gR keep k=b→(∃ s1,aq w0 S w3 (cu p s1 ⟨E.now,if b then E.dI.set i (E.now.getD i []) else E.dI,E.dQ⟩ ++ [.row bn 1 y (dw is)]))→go ((lU keep k:Int)+if b then 1 else 0) w3:=by
   rintro w3 b hb ⟨s1,H⟩
   refine bX _ _ ?_
   have D3:=H.drew
   have hR:gY w3.drew p s1 _:=mV D3
   have pN:=hR.nL
   have zy:=hR.fL
   have GB:=hR.dL
   have hf:(if b then E.dI.set i (E.now.getD i []) else E.dI).length=n:=by cases b <;> simp [anK]
   have q1:E.now.length=s1.nw.n:=pN
   have q2:(if b then E.dI.set i (E.now.getD i []) else E.dI).length=s1.fm.n:=zy
   have q3:E.dQ.length=s1.dt.n:=GB
   obtain ⟨u,hu,hc,UA⟩:=hR.amS (i:=i) (by show i<(if b then E.dI.set i (E.now.getD i []) else E.dI).length; omega)
   have hux:i<s1.ys.length:=(List.getElem?_eq_some_iff.1 hu).1
   have hxx:s1.xs.length=E.now.length:=hR.en.1
   refine D3.ay 0 rfl (an p 0) rfl (D3.ay 0 rfl (an p 2) rfl (D3.ay 0 rfl (an p 1) rfl ⟨⟨Sl.pre hR.fm (by omega),by omega,by omega⟩,u,hc,⟨Sl.pre hR.nw (by omega),by omega,by omega⟩,?_⟩))
   refine D3.jD 1 (i:=i) (v:=u.v) rfl (by rw [Int.toNat_natCast,Nat.mul_one]) (by rw [List.length_map]; omega) rfl fun w4 F=>⟨⟨Sl.pre (F.gQ 3 rfl) (by omega),by omega,by omega⟩,?_⟩
   refine F.jD 3 (i:=i) (v:=.bool false) rfl (by rw [Int.toNat_natCast,Nat.mul_one]) (by unfold iC; rw [List.length_map]; omega) rfl fun w5 F=>⟨⟨by omega,by omega⟩,?_⟩
   have ku:=aR ((lU keep (k+1):Nat):Int) w5
   rw [hnn,hb] at ku
   refine ku ⟨rfl,⟨s1.nw,s1.fm,s1.dt,s1.xs.set i u,s1.ys,s1.fp⟩,?_⟩
   rw [hcr,hb]
   have F:=F.less 4 rfl (s:=.box s1.fp fun w=>br fo w (s1.xs.set i u) (E.now.set i ((if b then E.dI.set i (E.now.getD i []) else E.dI).getD i []))∧br fo w s1.ys (if b then E.dI.set i (E.now.getD i []) else E.dI)) ⟨(F.ok 4 _ rfl).1,fun w6 h6=>?_⟩ (fun b hb=>hb)
   ·have en:(if b then E.dI.set i (E.now.getD i []) else E.dI).getD i []=if b then E.now.getD i [] else E.dI.getD i []:=by
     cases b with
     | false=>rfl
     | true=>
      show (E.dI.set i _).getD i []=_
      rw [List.getD_eq_getElem?_getD,List.getElem?_set_self (by omega)]; rfl
    rw [en] at F
    have e1:(s1.xs.set i u).map ah.v=(s1.xs.map ah.v).set i u.v:=List.map_set
    have e2:iC (E.dQ.set i false)=(iC E.dQ).set i (.bool false):=by unfold iC; rw [List.map_set]
    show aq w0 S w5 ([.av p (pV s1) oI,.row bp 1 s1.nw ((s1.xs.set i u).map ah.v),.row bp 1 s1.fm (s1.ys.map ah.v),.row jA 1 s1.dt (iC (E.dQ.set i false)),.box s1.fp fun w=>br fo w (s1.xs.set i u) (E.now.set i (if b then E.now.getD i [] else E.dI.getD i []))∧br fo w s1.ys (if b then E.dI.set i (E.now.getD i []) else E.dI)] ++ [.row bn 1 y (dw is)])
    rw [e1,e2]
    exact F
   ·obtain ⟨h1,h2⟩:=(F.ok 4 _ rfl).2 w6 h6
    refine ⟨br.put (E:=fo) h1 (h2.2 i u _ hu ?_),h2⟩
    show (if b then E.dI.set i (E.now.getD i []) else E.dI)[i]? = _
    exact AE (by omega)
  have GK:∀ b,gR keep k=b→iH b w2:=by
   intro b hb
   refine fH _ _ ?_
   cases b with
   | false=>
    refine ite_false rfl ?_
    have:=fin (w3:=w2) false hb ⟨s',H⟩
    rwa [show ((lU keep k:Int)+if false=true then 1 else 0)=(lU keep k:Int) by simp] at this
   | true=>
    refine ite_true rfl ?_
    have D3:=H.drew
    have hR:gY w2.drew p s' _:=mV D3
    have q1:=hR.nL
    have q2:=hR.fL
    obtain ⟨u,hu,hc,UA⟩:=hR.nowAt (i:=i) (by omega)
    have asS:s'.ys.length=E.dI.length:=hR.ef.1
    refine D3.ay 0 rfl (an p 1) rfl (D3.ay 0 rfl (an p 0) rfl ⟨⟨Sl.pre hR.nw (by omega),by omega,by omega⟩,u,hc,⟨Sl.pre hR.fm (by omega),by omega,by omega⟩,?_⟩)
    refine D3.jD 2 (i:=i) (v:=u.v) rfl (by rw [Int.toNat_natCast,Nat.mul_one]) (by rw [List.length_map]; omega) rfl fun w4 F=>⟨⟨by omega,by omega⟩,?_⟩
    have:=fin (w3:=w4) true hb ⟨⟨s'.nw,s'.fm,s'.dt,s'.xs,s'.ys.set i u,s'.fp⟩,?_⟩
    ·exact this
    have F:=F.less 4 rfl (s:=.box s'.fp fun w=>br fo w s'.xs E.now∧br fo w (s'.ys.set i u) (E.dI.set i (E.now.getD i []))) ⟨(F.ok 4 _ rfl).1,fun w6 h6=>?_⟩ (fun b hb=>hb)
    ·have e1:(s'.ys.set i u).map ah.v=(s'.ys.map ah.v).set i u.v:=List.map_set
     show aq w0 S w4 ([.av p (pV s') oI,.row bp 1 s'.nw (s'.xs.map ah.v),.row bp 1 s'.fm ((s'.ys.set i u).map ah.v),.row jA 1 s'.dt (iC E.dQ),.box s'.fp fun w=>br fo w s'.xs E.now∧br fo w (s'.ys.set i u) (E.dI.set i (E.now.getD i []))] ++ [.row bn 1 y (dw is)])
     rw [e1]
     exact F
    ·obtain ⟨h1,h2⟩:=(F.ok 4 _ rfl).2 w6 h6
     exact ⟨h1,br.put (E:=fo) h2 (h1.2 i u _ hu (AE (by omega)))⟩
  have wj:=hx H.mod
  have cH:=wj.len
  refine cN (fun DB=>?_) (fun DB=>?_)
  ·have DB:=of_decide_eq_true DB
   have Dx:(k:Int) % ((x.n:Nat):Int)=((k % keep.length:Nat):Int):=by rw [← cH]; rfl
   have aow:k % keep.length<keep.length:=Nat.mod_lt _ (by omega)
   rw [Dx]
   refine aaM (by omega) ⟨by omega,⟨Sl.pre wj (by omega),by omega,by omega⟩,keep.getD (k % keep.length) false,?_,GK _ ?_⟩
   ·rw [Int.toNat_natCast,Nat.mul_one]
    exact wj.cell _ _ (by unfold iC; rw [List.getElem?_map,AE (d:=false) aow]; rfl)
   ·unfold gR; rw [decide_eq_true (show 0<keep.length by omega)]; rfl
  ·have DB:=of_decide_eq_false DB
   exact GK false (by unfold gR; rw [decide_eq_false (show ¬ 0<keep.length by omega)]; rfl)
 ·rintro again m w2 ⟨rfl,s',H⟩
  have gW:=(H.dz 5 rfl).len
  exact ite_false (decide_eq_false (by omega)) ⟨s',rfl,H.take 5⟩
end Go.Proofs.YtpchgbolambkcaaGreatDoor
end
section
set_option linter.unusedVariables false
set_option linter.unusedSimpArgs false
namespace Go.Proofs.YtpchgbolambkcaaGreatDoor
open Go Go.Ev
set_option maxRecDepth 20000
set_option linter.unusedVariables false
theorem Ou {w0 w:World} {S:List Nat} {p:Nat} {s:gB} {D:aU} {n:Nat} (H:aq w0 S w (cu p s D)) (hD:D.ok n) :
  Ok Pr Eh [.pointer (some ⟨p,0,none⟩)] w fun v w'=>∃ s',v=.tuple ⟨[]⟩∧aq w0 S w' (cu p s' (eE D [true])):=by
 refine aep ?_
 unfold MV
 refine oL fun q w1 hq hb m _=>?_
 have H0:aq w0 S w1 (cu p s D ++ [.av q [.bool true] jA]):=H.push (r:=.av q [.bool true] jA) m hb (by simp [aB.av,hq])
 have aox:=H0.sub
 refine aC (Ot aox hD ⟨some ⟨q,0,none⟩,1,1⟩ [true] fun {w'} m'=>?_) ?_
 ·have j4:bQ w' q [.bool true] jA:=hb.mod m' fun hx=>by
   obtain ⟨r,hr,UO⟩:=List.mem_flatMap.1 hx
   obtain ⟨k,hk,e⟩:=List.getElem_of_mem hr
   refine H0.apart k 5 r (.av q [.bool true] jA) (by have:(cu p s D).length=5:=rfl; omega) ?_ rfl q UO (by simp [aB.av])
   rw [List.getElem?_append_left hk,List.getElem?_eq_getElem hk,e]
  have:=j4.sl 1 1 1 (by simp) (Nat.le_refl _)
  simpa [yY,iC] using this
 ·rintro _ w2 ⟨s',rfl,K⟩
  exact cr ⟨s',rfl,(H0.back K).take 5⟩
theorem q6 {w w':World} {b:Nat} {cs:List Value} {t:TypeId} (h:bQ w b cs t) (h':bQ w' b cs t) (i n:Nat):kept (Addr.add ⟨b,0,none⟩ i) n w w':=fun j _=>by rw [an,tN,h.cell,h'.cell]
def fI:List B8:=List.replicate 512 0
def cX (n:Nat):aU:=⟨List.replicate n fI,List.replicate n fI,List.replicate n false⟩
theorem vA (n:Nat) (h:n≤256):(cX n).ok n:=
 ⟨h,by simp [cX],by simp [cX],by simp [cX],fun b hb=>by rw [List.eq_of_mem_replicate hb]; simp [fI],fun b hb=>by rw [List.eq_of_mem_replicate hb]; simp [fI]⟩
theorem alZ:zc Pr jA=[.bool false]:=by kernel_rfl
theorem aa1:zc Pr aM=[.int .u8 0]:=by kernel_rfl
theorem ail (n:Nat):oK n [.bool false]=iC (List.replicate n false):=by
 unfold oK iC
 simp
theorem Cn (n:Nat) (h1:1≤n) (h2:n≤256) (w:World):Ok Pr yp [.int .i64 n] w fun v w'=>∃ p s,v=.pointer (some ⟨p,0,none⟩)∧aq w [] w' (cu p s (cX n)):=by
 refine ahj ?_
 unfold QE
 refine ite_false (by rw [decide_eq_false (show ¬ ((n:Nat):Int)<1 by omega),decide_eq_false (show ¬ (256:Int)<(n:Int) by omega)]; rfl) ?_
 refine (aq.start w).mkS akB rfl rfl (Nat.le_refl n) (by omega) (by omega) fun b w1 H _=>?_
 rw [alZ,ail,Nat.mul_one,List.take_of_length_le (by simp [iC])] at H
 refine H.nw fun p w2 H _=>?_
 obtain ⟨c,hc⟩:∃ c:ah,c=⟨some ⟨b,0,none⟩,n,n⟩:=⟨_,rfl⟩
 rw [← hc] at H
 obtain ⟨z,hz⟩:∃ z:List B8,z=fI:=⟨_,rfl⟩
 let st0:Nat→World→Prop:=fun i w'=>∃ (nw fm:ah) (xs:List ah) (fp:List Nat),xs.length=i∧aq w [] w' (cu p ⟨nw,fm,c,xs,xs,fp⟩ ⟨List.replicate i z,List.replicate i z,List.replicate n false⟩)
 have h0:st0 0 w2:=by
  refine ⟨⟨none,0,0⟩,⟨none,0,0⟩,[],[],rfl,?_⟩
  have H:=((H.jC bp 1).jC bp 1).push (r:=.box [] fun w=>br fo w [] []∧br fo w [] []) (Mod.refl _ _) ⟨(fun b hb=>by cases hb),fun w' _=>⟨⟨rfl,fun i x l h=>by simp at h⟩,⟨rfl,fun i x l h=>by simp at h⟩⟩⟩ (fun b hb=>by cases hb)
  exact H.eu [1,2,3,0,4] (by decide) rfl
 refine ep 0 n st0 rfl (by omega) h0 ?_ ?_
 ·rintro again i w3 _ hi ⟨nw,fm,xs,fp,oV,H⟩ aR
  refine ite_true (decide_eq_true (by omega)) (H.sQ (n:=512) hO aa1 rfl rfl (by omega) fun y w4 H hy=>?_)
  have D4:=H.drew
  have nV:xs.length=nw.n * 1:=by have:=Sl.len (H.gQ 1 rfl); rw [List.length_map] at this; exact this
  have hfl:xs.length=fm.n * 1:=by have:=Sl.len (H.gQ 2 rfl); rw [List.length_map] at this; exact this
  have fin:∀ {w8:World} {a b:ah},aq w [] w8 [.av p (pV ⟨nw,fm,c,xs,xs,fp⟩) oI,.row bp 1 a (xs.map ah.v ++ [y.v]),.row bp 1 b (xs.map ah.v ++ [y.v]),.row jA 1 c (iC (List.replicate n false)),.box fp fun w=>br fo w xs (List.replicate i z)∧br fo w xs (List.replicate i z),.row aM 1 y (aL (List.replicate 512 0))]→
    Ev.st (Addr.add ⟨p,0,none⟩ 0) (.slice a.a a.n a.c) w8 fun w9=>Ev.st (Addr.add ⟨p,0,none⟩ 1) (.slice b.a b.n b.c) w9 fun dN=>(aH ((i:Int)+1)∧again ((i:Int)+1) dN):=by
   intro w8 a b K
   refine K.st 0 rfl (an p 0) (by show 0<3; omega) rfl fun w9 K=>K.st 0 rfl (an p 1) (by show 1<3; omega) rfl fun dN K=>⟨⟨by omega,by omega⟩,aR dN ?_⟩
   have e1:List.replicate (i+1) z=List.replicate i z ++ [z]:=List.replicate_succ'
   have K:=K.merge 4 5 (t:=.box (fp ++ y.row) fun w=>br fo w (xs ++ [y]) (List.replicate (i+1) z)∧br fo w (xs ++ [y]) (List.replicate (i+1) z)) rfl rfl (by omega) (fun h1 h2=>⟨fun b hb=>?_,fun w2 h3=>?_⟩) (fun b hb=>List.mem_append.1 hb)
   ·refine ⟨a,b,xs ++ [y],fp ++ y.row,by simp [oV],?_⟩
    refine (K.take 5).eu [0,1,2,3,4] (by decide) ?_
    unfold cu
    simp only [List.map_append,List.map_cons,List.map_nil]
    rfl
   ·rcases List.mem_append.1 hb with h | h
    ·exact h1.1 b h
    ·exact (Own.tP h2 b h).2
   ·obtain ⟨q1,q2⟩:=h1.2 w2 fun b hb=>h3 b (List.mem_append_left _ hb)
    have q3:Bytes w2 y z:=by
     rw [hz]
     exact Own.bytes ((aB.row aM 1 y (aL (List.replicate 512 0))).iu dN w2 (fun b hb=>h3 b (List.mem_append_right _ hb)) h2)
    rw [e1]
    exact ⟨br.snoc q1 q3,br.snoc q2 q3⟩
  have one:∀ {u:World} {L:List aB} {k b:Nat},aq w [] u L→L[k]? = some (.av b [y.v] bp)→Sl u ⟨some ⟨b,0,none⟩,1,1⟩ 1 [y.v]:=fun {u L k b} K hk=>by
   have:=(K.av k hk).sl 1 1 1 (by simp) (Nat.le_refl _)
   simpa using this
  have jM:∀ u∈[y.v],fW u=true:=by simp [fW,ah.v]
  refine D4.ay 0 rfl (an p 0) rfl (D4.ay 0 rfl (an p 1) rfl ⟨?_,?_⟩)
  ·refine D4.nw fun b1 w5 K _=>⟨q6 (D4.av 0 rfl) (K.av 0 rfl) 1 1,q6 (D4.av 0 rfl) (K.av 0 rfl) 0 1,?_,?_⟩
   ·refine K.app (x:=⟨some ⟨b1,0,none⟩,1,1⟩) 1 CR rfl (one (k:=6) K rfl) jM (by show (nw.n+1) * 24≤_; omega) (by show nw.n+1≤_; omega) fun a w6 K2 _=>⟨q6 (K.av 0 rfl) (K2.av 0 rfl) 1 1,?_⟩
    refine K2.nw fun b2 w7 K3 _=>⟨q6 (K2.av 0 rfl) (K3.av 0 rfl) 1 1,q6 (K2.av 0 rfl) (K3.av 0 rfl) 0 1,?_⟩
    exact K3.app (x:=⟨some ⟨b2,0,none⟩,1,1⟩) 2 CR rfl (one (k:=7) K3 rfl) jM (by show (fm.n+1) * 24≤_; omega) (by show fm.n+1≤_; omega) fun a2 w8 K4 _=>fin (K4.take 6)
   ·refine K.nw fun b2 w7 K3 _=>⟨q6 (K.av 0 rfl) (K3.av 0 rfl) 1 1,q6 (K.av 0 rfl) (K3.av 0 rfl) 0 1,?_⟩
    refine K3.app (x:=⟨some ⟨b1,0,none⟩,1,1⟩) 1 CR rfl (one (k:=6) K3 rfl) jM (by show (nw.n+1) * 24≤_; omega) (by show nw.n+1≤_; omega) fun a w6 K2 _=>⟨q6 (K3.av 0 rfl) (K2.av 0 rfl) 1 1,?_⟩
    exact K2.app (x:=⟨some ⟨b2,0,none⟩,1,1⟩) 2 CR rfl (one (k:=7) K2 rfl) jM (by show (fm.n+1) * 24≤_; omega) (by show fm.n+1≤_; omega) fun a2 w8 K4 _=>fin (K4.take 6)
  ·refine D4.nw fun b1 w5 K _=>⟨q6 (D4.av 0 rfl) (K.av 0 rfl) 1 1,q6 (D4.av 0 rfl) (K.av 0 rfl) 0 1,?_⟩
   refine K.nw fun b2 w7 K3 _=>⟨q6 (K.av 0 rfl) (K3.av 0 rfl) 1 1,q6 (K.av 0 rfl) (K3.av 0 rfl) 0 1,?_⟩
   refine K3.app (x:=⟨some ⟨b2,0,none⟩,1,1⟩) 1 CR rfl (one (k:=7) K3 rfl) jM (by show (nw.n+1) * 24≤_; omega) (by show nw.n+1≤_; omega) fun a w6 K2 _=>⟨q6 (K3.av 0 rfl) (K2.av 0 rfl) 1 1,?_⟩
   exact K2.app (x:=⟨some ⟨b1,0,none⟩,1,1⟩) 2 CR rfl (one (k:=6) K2 rfl) jM (by show (fm.n+1) * 24≤_; omega) (by show fm.n+1≤_; omega) fun a2 w8 K4 _=>fin (K4.take 6)
 ·rintro again w3 ⟨nw,fm,xs,fp,oV,H⟩
  refine ite_false (decide_eq_false (by omega)) ⟨p,⟨nw,fm,c,xs,xs,fp⟩,rfl,?_⟩
  unfold cX
  rw [← hz]
  exact H
end Go.Proofs.YtpchgbolambkcaaGreatDoor
end
section
set_option linter.unusedVariables false
set_option linter.unusedSimpArgs false
namespace Go.Proofs.YtpchgbolambkcaaGreatDoor
open Go Go.Ev
set_option maxRecDepth 20000
set_option linter.unusedVariables false
def wd (l:List B8):bw:=l.foldl (fun a x=>(a <<< 8) ||| x.setWidth 64) 0
theorem RF (l:List B8) (x:B8):wd (l ++ [x])=(wd l <<< 8) ||| x.setWidth 64:=by simp [wd]
def numOf (l:List B8):Int:=IntKind.wrap .i64 ((wd l).toNat:Int)
def cw (lo hi:Int):Option (List B8)→Int×Option (List B8)
 | none=>(0,none)
 | some l=>if l.length<8 then (0,none) else if numOf (l.take 8)<lo∨hi<numOf (l.take 8) then (0,none) else (numOf (l.take 8),some (l.drop 8))
def wV (n:Int):Option (List B8)→List B8×Option (List B8)
 | none=>([],none)
 | some l=>if (l.length:Int)<n then ([],none) else (l.take n.toNat,some (l.drop n.toNat))
theorem yz (n:Int) (l:List B8):wV n (some l)=if (l.length:Int)<n then ([],none) else (l.take n.toNat,some (l.drop n.toNat)):=rfl
theorem Aw (lo hi:Int) (l:List B8):cw lo hi (some l)=if l.length<8 then (0,none) else if numOf (l.take 8)<lo∨hi<numOf (l.take 8) then (0,none) else (numOf (l.take 8),some (l.drop 8)):=rfl
def cF (most:Int) (s:Option (List B8)):List B8×Option (List B8):=wV (cw 0 most s).1 (cw 0 most s).2
def fP:Option (List B8)→Bool
 | none=>false
 | some l=>decide (l=[])
theorem ZI {lo hi:Int} (h:0≤lo) (s:Option (List B8)):0≤(cw lo hi s).1:=by
 unfold cw
 split
 ·exact Int.le_refl 0
 ·split
  ·exact Int.le_refl 0
  ·split
   ·exact Int.le_refl 0
   ·rename_i h1
    have:¬ numOf _<lo:=fun h2=>h1 (.inl h2)
    show 0≤numOf _
    omega
structure jh (B:ah) (full:List B8) (x:ah) (l:List B8):Prop where
 jQ:∀ w,Bytes w B full→Bytes w x l
 within:qw x B
 cap:B.n≤B.c→x.n≤x.c∧x.c≤B.c
 shape:∀ g,B.a=some ⟨g,0,none⟩→B.n≤B.c→x.n≤x.c∧((x.a=none∧x.c=0)∨∃ off,x.a=some ⟨g,off,none⟩∧off+x.c≤B.c)
theorem jh.self (B:ah) (full:List B8):jh B full B full:=⟨fun _ h=>h,⟨Nat.le_refl _,fun a ha=>⟨a,ha,rfl⟩⟩,fun h=>⟨h,Nat.le_refl _⟩,fun g hg hn=>⟨hn,.inr ⟨0,hg,by omega⟩⟩⟩
theorem jh.nil (B:ah) (full:List B8):jh B full ⟨none,0,0⟩ []:=⟨fun w _=>Bytes.nil w,⟨Nat.zero_le _,fun a ha=>by cases ha⟩,fun _=>⟨Nat.le_refl _,Nat.zero_le _⟩,fun g hg hn=>⟨Nat.le_refl _,.inl ⟨rfl,rfl⟩⟩⟩
theorem qw.trans {x y z:ah} (h:qw x y) (k:qw y z):qw x z:=⟨Nat.le_trans h.1 k.1,fun a ha=>by
 obtain ⟨b,hb,e1⟩:=h.2 a ha
 obtain ⟨c,hc,e2⟩:=k.2 b hb
 exact ⟨c,hc,e1.trans e2⟩⟩
def lu (B:ah) (full:List B8) (x:ah) (bad:Bool):Option (List B8)→Prop
 | none=>bad=true
 | some l=>bad=false∧jh B full x l
theorem jh.drop {B:ah} {full:List B8} {x:ah} {l:List B8} (h:jh B full x l) (k:Nat) (hk:k≤x.n):jh B full ⟨sub x.a k x.c 1,x.n - k,x.c - k⟩ (l.drop k):=by
 refine ⟨fun w hB=>?_,qw.trans (qw.part x k _ _ _ _ (by omega)) h.within,fun hn=>by have:=h.cap hn; exact ⟨by show x.n - k≤x.c - k; omega,by show x.c - k≤B.c; omega⟩,fun g hg hn=>?_⟩
 rotate_left
 ·obtain ⟨h1,h2⟩:=h.shape g hg hn
  refine ⟨by show x.n - k≤x.c - k; omega,?_⟩
  unfold sub
  rcases h2 with ⟨h2,h3⟩ | ⟨off,h2,h3⟩
  ·refine .inl ⟨?_,by show x.c - k=0; omega⟩
   show (if x.c=k then x.a else _)=none
   rw [h2]
   split <;> rfl
  ·by_cases pS:x.c=k
   ·refine .inr ⟨off,?_,by show off+(x.c - k)≤B.c; omega⟩
    show (if x.c=k then x.a else _)=_
    rw [if_pos pS,h2]
   ·refine .inr ⟨off+k,?_,by show off+k+(x.c - k)≤B.c; omega⟩
    show (if x.c=k then x.a else _)=_
    rw [if_neg pS,h2]
    show some (Addr.add ⟨g,off,none⟩ (k * 1))=_
    rw [Nat.mul_one,Addr.add_lit]
 have h1:=h.jQ w hB
 have:=Sl.part h1 (by omega) k x.n hk (Nat.le_refl _)
 rw [List.take_of_length_le (by rw [List.length_drop,Sl.len h1,Nat.sub_mul]; exact Nat.le_refl _)] at this
 simp only [Nat.mul_one,Zz] at this
 exact this
theorem jh.head {B:ah} {full:List B8} {x:ah} {l:List B8} (h:jh B full x l) (k:Nat) (hk:k≤x.n):jh B full ⟨x.a,k,k⟩ (l.take k):=by
 refine ⟨fun w hB=>?_,qw.trans ⟨hk,fun a ha=>⟨a,ha,rfl⟩⟩ h.within,fun hn=>by have:=h.cap hn; exact ⟨Nat.le_refl _,by show k≤B.c; omega⟩,fun g hg hn=>?_⟩
 rotate_left
 ·obtain ⟨h1,h2⟩:=h.shape g hg hn
  refine ⟨Nat.le_refl _,?_⟩
  rcases h2 with ⟨h2,h3⟩ | ⟨off,h2,h3⟩
  ·exact .inl ⟨h2,by show k=0; omega⟩
  ·exact .inr ⟨off,h2,by show off+k≤B.c; omega⟩
 have h1:=h.jQ w hB
 have hl:=h1.len
 refine ⟨?_,Nat.le_refl _,fun h0=>h1.pre (Nat.lt_of_lt_of_le h0 hk),fun i v hv=>?_⟩
 ·simp only [Ra,List.length_take]
  show min k l.length=k * 1
  omega
 ·rw [← JO,List.getElem?_take] at hv
  split at hv
  ·exact h1.cell i v hv
  ·cases hv
def vN (w w':World) (b:Nat) (t:TypeId) (B:ah) (full:List B8) (s:Option (List B8)):Prop:=
 ∃ (x:ah) (bad:Bool),bQ w' b [x.v,.bool bad] t∧lu B full x bad s∧Mod [b] w w'
theorem WG (b:Nat) (B:ah) (full:List B8) (x:ah) (bad:Bool) (s:Option (List B8)) (n:Int) (h0:0≤n) (w:World) (hb:bQ w b [x.v,.bool bad] gh) (hs:lu B full x bad s) (hB:Bytes w B full) :
  Ok Pr Iu [.pointer (some ⟨b,0,none⟩),.int .i64 n] w fun v w'=>∃ y:ah,v=.slice y.a y.n y.c∧jh B full y (wV n s).1∧vN w w' b gh B full (wV n s).2:=by
 refine aek ?_
 unfold MQ
 have H:=aq.tR (r:=.av b [x.v,.bool bad] gh) hb
 obtain ⟨m,rfl⟩:∃ m:Nat,n=(m:Int):=⟨n.toNat,by omega⟩
 refine iB fun go bX=>gm fun iH fH=>ite_false rfl ?_
 have no:(wV (m:Int) s)=([],none)→iH true w:=by
  intro e
  rw [e] at bX
  refine fH true w (ite_true rfl (ite_true rfl (H.st 0 rfl (an b 1) (by simp) rfl fun w' H=>?_)))
  rw [e]
  exact ⟨⟨none,0,0⟩,rfl,jh.nil _ _,x,true,H.av 0 rfl,rfl,H.mod⟩
 refine H.nq 0 rfl (an b 1) rfl ?_
 cases s with
 | none=>
  have hs:bad=true:=hs
  subst hs
  exact ite_true rfl (no rfl)
 | some l=>
  obtain ⟨rfl,ht⟩:=hs
  have hx:=ht.jQ w hB
  have cH:=hx.len
  have asT:=Sl.cap hx
  refine ite_false rfl (H.ay 0 rfl (an b 0) rfl ?_)
  by_cases hc:(l.length:Int)<(m:Int)
  ·rw [decide_eq_true (show ((x.n:Nat):Int)<(m:Int) by omega)]
   exact no (by rw [yz,if_pos hc])
  ·have e:wV (m:Int) (some l)=(l.take m,some (l.drop m)):=by rw [yz,if_neg hc]; rfl
   rw [decide_eq_false (show ¬ ((x.n:Nat):Int)<(m:Int) by omega)]
   refine fH false w (ite_false rfl (bX w (H.ay 0 rfl (an b 0) rfl ⟨⟨by omega,by omega,by omega⟩,H.ay 0 rfl (an b 0) rfl ⟨⟨by omega,by omega⟩,?_⟩⟩)))
   refine H.st 0 rfl (an b 0) (by simp) rfl fun w' H=>?_
   rw [e]
   simp only [Int.toNat_natCast] at H ⊢
   exact ⟨_,rfl,ht.head m (by omega),_,false,H.av 0 rfl,⟨rfl,ht.drop m (by omega)⟩,H.mod⟩
theorem aje (x:B8):IntKind.wrap .u64 (x.toNat:Int)=((x.setWidth 64:bw).toNat:Int):=by
 have:=x.isLt
 rw [wrap_u64,BitVec.toNat_setWidth]
 omega
theorem aal (l:List B8) (i:Nat) (hi:i<l.length):rC .u64 (shl .u64 ((wd (l.take i)).toNat:Int) 8) (IntKind.wrap .u64 ((l.getD i 0).toNat:Int))=((wd (l.take (i+1))).toNat:Int):=by
 rw [qN _ _ hi 0,RF,aje,show (8:Int)=((8:Nat):Int) from rfl,FJ,FT]
theorem MA (b:Nat) (B:ah) (full:List B8) (x:ah) (bad:Bool) (s:Option (List B8)) (lo hi:Int) (w:World) (hb:bQ w b [x.v,.bool bad] gh) (hs:lu B full x bad s) (hB:Bytes w B full) (ho:off [b] B) :
  Ok Pr pZ [.pointer (some ⟨b,0,none⟩),.int .i64 lo,.int .i64 hi] w fun v w'=>v=.int .i64 (cw lo hi s).1∧vN w w' b gh B full (cw lo hi s).2:=by
 refine ad9 ?_
 unfold MB
 refine aC (WG b B full x bad s 8 (by omega) w hb hs hB) ?_
 rintro _ w1 ⟨y,rfl,hy,x1,yZ,sU,lF,m1⟩
 have uL:=hB.mod m1 ho
 have DS:=hy.jQ w1 uL
 have gW:=DS.len
 refine dP ?_
 have stop:∀ {X:Prop},wV 8 s=([],none)→cw lo hi s=(0,none)→az (decide (((y.n:Nat):Int)=0)) (Value.int .i64 0=.int .i64 (cw lo hi s).1∧vN w w1 b gh B full (cw lo hi s).2) X:=by
  intro X e e2
  rw [e] at gW lF
  have h0:y.n=0:=by simpa using gW.symm
  refine ite_true (decide_eq_true (by omega)) ?_
  rw [e2]
  exact ⟨rfl,x1,yZ,sU,lF,m1⟩
 cases s with
 | none=>exact stop rfl rfl
 | some l=>
  by_cases hc:l.length<8
  ·exact stop (by rw [yz,if_pos (by omega)]) (by rw [Aw,if_pos hc])
  have e:wV 8 (some l)=(l.take 8,some (l.drop 8)):=by rw [yz,if_neg (by omega)]; rfl
  rw [e] at DS gW lF
  have e2:cw lo hi (some l)=if numOf (l.take 8)<lo∨hi<numOf (l.take 8) then (0,none) else (numOf (l.take 8),some (l.drop 8)):=by rw [Aw,if_neg hc]
  rw [e2]
  have h8:(l.take 8).length=8:=by rw [List.length_take]; omega
  simp only at DS gW lF
  generalize l.take 8=a at *
  generalize l.drop 8=r at *
  refine ite_false (decide_eq_false (by omega)) ?_
  refine qq 0 8 (fun i (word:Int) w'=>word=((wd (a.take i)).toNat:Int)∧w'=w1) rfl (by omega) ⟨rfl,rfl⟩ ?_ ?_
  ·rintro again i word _ _ hi ⟨rfl,rfl⟩ aR
   refine ite_true (decide_eq_true (by omega)) (DS.ld (by omega) ?_)
   show again _ _ _
   rw [aal _ _ (by omega),wrap_i64 (by omega) (by omega)]
   exact aR _ _ ⟨rfl,rfl⟩
  ·rintro again word _ ⟨rfl,rfl⟩
   rw [List.take_of_length_le (by omega)]
   refine ite_false (decide_eq_false (by omega)) (cN (fun h=>?_) (fun h=>?_))
   ·have h:numOf a<lo∨hi<numOf a:=by simpa [numOf] using h
    rw [if_pos h]
    have H:=aq.tR (r:=.av b [x1.v,.bool yZ] gh) sU
    exact H.st 0 rfl (an b 1) (by simp) rfl fun w3 H=>⟨rfl,x1,true,H.av 0 rfl,rfl,m1.trans H.mod⟩
   ·have h:¬ (numOf a<lo∨hi<numOf a):=by
     simp only [Bool.or_eq_false_iff,decide_eq_false_iff_not] at h
     exact fun h2=>h2.elim h.1 h.2
    rw [if_neg h]
    exact ⟨rfl,x1,yZ,sU,lF,m1⟩
theorem WA (b:Nat) (B:ah) (full:List B8) (x:ah) (bad:Bool) (s:Option (List B8)) (most:Int) (w:World) (hb:bQ w b [x.v,.bool bad] gh) (hs:lu B full x bad s) (hB:Bytes w B full) (ho:off [b] B) :
  Ok Pr p7 [.pointer (some ⟨b,0,none⟩),.int .i64 most] w fun v w'=>∃ y:ah,v=.slice y.a y.n y.c∧jh B full y (cF most s).1∧vN w w' b gh B full (cF most s).2:=by
 refine aed ?_
 unfold ME
 refine aC (MA b B full x bad s 0 most w hb hs hB ho) ?_
 rintro _ w1 ⟨rfl,x1,yZ,sU,lF,m1⟩
 refine cr (aC (WG b B full x1 yZ _ _ (ZI (by omega) s) w1 sU lF (hB.mod m1 ho)) ?_)
 rintro _ w2 ⟨y,rfl,hy,x2,ab6,l5,rK,m2⟩
 exact dP ⟨y,rfl,hy,x2,ab6,l5,rK,m1.trans m2⟩
theorem aeX (b:Nat) (B:ah) (full:List B8) (x:ah) (bad:Bool) (s:Option (List B8)) (most:Int) (w:World) (hb:bQ w b [x.v,.bool bad] gh) (hs:lu B full x bad s) (hB:Bytes w B full) (ho:off [b] B) :
  Ok Pr BT [.pointer (some ⟨b,0,none⟩),.int .i64 most] w fun v w'=>v=.string (strOf (cF most s).1)∧vN w w' b gh B full (cF most s).2:=by
 refine aei ?_
 unfold MO
 refine aC (WA b B full x bad s most w hb hs hB ho) ?_
 rintro _ w1 ⟨y,rfl,hy,hr⟩
 have m:Mod [b] w w1:=by obtain ⟨_,_,_,_,m⟩:=hr; exact m
 exact dP (aaP (hy.jQ w1 (hB.mod m ho)) ⟨rfl,hr⟩)
theorem WI (b:Nat) (B:ah) (full:List B8) (x:ah) (bad:Bool) (s:Option (List B8)) (w:World) (hb:bQ w b [x.v,.bool bad] gh) (hs:lu B full x bad s) (hB:Bytes w B full) :
  Ok Pr Iy [.pointer (some ⟨b,0,none⟩)] w fun v w'=>gy w w' v (if fP s=true then 0 else 4)∧Mod [] w w':=by
 refine aez ?_
 unfold M8
 have hc:∀ (i:Nat) (v:Value),([x.v,.bool bad]:List Value)[i]? = some v→w.cell? ⟨b,i,none⟩=some v:=fun i v hv=>by rw [hb.cell i]; exact hv
 refine ite_false rfl (gm fun go bX=>⟨bad,hc 1 _ rfl,?_⟩)
 have no:fP s=false→go true w:=fun e=>by
  rw [e] at bX
  refine bX true w (ite_true rfl (oL fun p w' hp h1 h2 _=>⟨?_,h2⟩))
  rw [if_neg (by decide)]
  exact gy.mk h1 (by omega) (by decide)
 cases s with
 | none=>
  have hs:bad=true:=hs
  subst hs
  exact ite_true rfl (no rfl)
 | some l=>
  obtain ⟨rfl,ht⟩:=hs
  have cH:=(ht.jQ w hB).len
  refine ite_false rfl ⟨x,hc 0 _ rfl,?_⟩
  by_cases hl:l=[]
  ·subst hl
   have h0:x.n=0:=by simpa using cH.symm
   show go (decide ((0:Int)<((x.n:Nat):Int))) w
   rw [decide_eq_false (show ¬ (0:Int)<((x.n:Nat):Int) by omega)]
   exact bX false w (ite_false rfl ⟨gy.zero _ _,Mod.refl _ _⟩)
  ·have h0:0<l.length:=List.length_pos_iff.2 hl
   show go (decide ((0:Int)<((x.n:Nat):Int))) w
   rw [decide_eq_true (show (0:Int)<((x.n:Nat):Int) by omega)]
   exact no (decide_eq_false hl)
end Go.Proofs.YtpchgbolambkcaaGreatDoor
end
section
set_option linter.unusedVariables false
set_option linter.unusedSimpArgs false
namespace Go.Proofs.YtpchgbolambkcaaGreatDoor
open Go Go.Ev
set_option maxRecDepth 20000
set_option linter.unusedVariables false
theorem XN (v:Int):BitVec.ofInt 64 (IntKind.wrap .i64 v)=BitVec.ofInt 64 v:=by
 have e:IntKind.wrap .i64 v=if v % 18446744073709551616 ≥ 9223372036854775808 then v % 18446744073709551616 - 18446744073709551616 else v % 18446744073709551616:=by
  simp [IntKind.wrap,IntKind.signed,IntKind.bits]
 refine BitVec.eq_of_toNat_eq ?_
 rw [BitVec.toNat_ofInt,BitVec.toNat_ofInt,e]
 show (_ % ((2 ^ 64:Nat):Int)).toNat=(_ % ((2 ^ 64:Nat):Int)).toNat
 have e2:((2 ^ 64:Nat):Int)=18446744073709551616:=by decide
 rw [e2]
 split <;> omega
theorem ajf (l:List B8) (x:B8):rC .i64 (shl .i64 (numOf l) 8) (x.toNat:Int)=numOf (l ++ [x]):=by
 have e1:BitVec.ofInt 64 (shl .i64 (numOf l) 8)=wd l <<< 8:=by
  have e3:shl .i64 (numOf l) 8=IntKind.wrap .i64 (numOf l * 256):=rfl
  rw [e3,XN]
  have e4:BitVec.ofInt 64 (numOf l)=wd l:=by
   unfold numOf; rw [XN]; exact EN _
  have e5:BitVec.ofInt 64 (numOf l * 256)=BitVec.ofInt 64 (numOf l) * BitVec.ofInt 64 256:=BitVec.ofInt_mul ..
  rw [e5,e4]
  refine BitVec.eq_of_toNat_eq ?_
  rw [BitVec.toNat_mul,BitVec.toNat_shiftLeft,Nat.shiftLeft_eq]
  rfl
 have e2:BitVec.ofInt 64 (x.toNat:Int)=(x.setWidth 64:bw):=by
  refine BitVec.eq_of_toNat_eq ?_
  have:=x.isLt
  rw [BitVec.toNat_ofInt,BitVec.toNat_setWidth]
  show ((x.toNat:Int) % ((2 ^ 64:Nat):Int)).toNat=_
  omega
 show IntKind.wrap .i64 ((BitVec.ofInt 64 (shl .i64 (numOf l) 8) ||| BitVec.ofInt 64 (x.toNat:Int):bw).toNat:Int)=_
 rw [e1,e2]
 unfold numOf
 rw [RF]
theorem ajR:numOf []=0:=by decide
theorem Y5 (l:List B8):-9223372036854775808≤numOf l∧numOf l≤9223372036854775807:=by
 have h:=(wd l).isLt
 have e:numOf l=if ((wd l).toNat:Int) % 18446744073709551616 ≥ 9223372036854775808 then ((wd l).toNat:Int) % 18446744073709551616 - 18446744073709551616 else ((wd l).toNat:Int) % 18446744073709551616:=by
  simp [numOf,IntKind.wrap,IntKind.signed,IntKind.bits]
 rw [e]
 split <;> omega
theorem QI (x:ah) (l:List B8) (w:World) (hx:Bytes w x l) (hl:l.length≤1000000):Ok Pr vh [.slice x.a x.n x.c] w fun v w'=>v=.int .i64 (numOf l)∧w'=w:=by
 refine ahT ?_
 unfold Rp
 have cH:=hx.len
 refine (tG (fun (n:Int) (i:Int) w'=>∃ k:Nat,k≤l.length∧i=(k:Int)∧n=numOf (l.take k)∧w'=w) (fun _ i _=>l.length - i.toNat) ⟨0,Nat.zero_le _,rfl,by rw [List.take_zero,ajR],rfl⟩ ?_)
 rintro again n i _ ⟨k,hk,rfl,rfl,rfl⟩ aR
 by_cases cI:k<l.length
 ·refine ite_true (decide_eq_true (by omega)) (hx.ld (i:=k) cI ⟨⟨by have:=(l.getD k 0).isLt; omega,by have:=(l.getD k 0).isLt; omega⟩,?_⟩)
  refine yS ⟨⟨by omega,by omega⟩,aR _ _ _ ⟨k+1,by omega,by omega,?_,rfl⟩ (by omega)⟩
  rw [ajf,qN _ _ cI 0]
 ·have:k=l.length:=by omega
  subst this
  refine ite_false (decide_eq_false (by omega)) ⟨by rw [List.take_length],rfl⟩
def gZ (n:Int):List B8:=[BitVec.ofInt 8 (n / 256),BitVec.ofInt 8 n]
theorem ZJ (v:Int):IntKind.wrap .u8 v=((BitVec.ofInt 8 v:B8).toNat:Int):=by
 rw [wrap_u8,BitVec.toNat_ofInt]
 show v % 256=(((v % ((2 ^ 8:Nat):Int)).toNat:Nat):Int)
 omega
theorem aiL {w0 w:World} {S:List Nat} {x:ah} {l:List B8} (n:Int) (hl:l.length≤1000000) (H:aq w0 S w [.row aM 1 x (aL l)]) :
  Ok Pr Q4 [.slice x.a x.n x.c,.int .i64 n,.int .i64 2] w fun v w'=>∃ y:ah,v=.slice y.a y.n y.c∧aq w0 S w' [.row aM 1 y (aL (l ++ gZ n))]:=by
 refine ahS ?_
 unfold Ro
 refine tG (fun (o:ah) (s:Int) w'=>∃ k:Nat,k≤2∧s=((2 - k:Nat):Int)∧aq w0 S w' [.row aM 1 o (aL (l ++ (gZ n).take k))]) (fun _ s _=>s.toNat) ⟨0,by omega,rfl,by rw [List.take_zero,List.append_nil]; exact H⟩ ?_
 rintro again o s w1 ⟨k,hk,rfl,H⟩ aR
 have Hv:=(H.bytes 0 rfl).len
 rw [List.length_append,List.length_take] at Hv
 have h2:(gZ n).length=2:=rfl
 match k,hk with
 | 0,_=>
  refine ite_true rfl ⟨⟨by decide,by decide⟩,⟨by decide,by decide⟩,su (by decide) ?_⟩
  refine H.E5 0 (BitVec.ofInt 8 (n / 256)) hO rfl (by rw [← ZJ,← Int.fdiv_eq_ediv_of_nonneg n (show (0:Int)≤256 by decide)]; rfl) (by omega) fun o' w2 H _=>aR o' _ w2 ⟨1,by omega,rfl,?_⟩ (by decide)
  rw [List.append_assoc] at H
  exact H
 | 1,_=>
  refine ite_true rfl ⟨⟨by decide,by decide⟩,⟨by decide,by decide⟩,su (by decide) ?_⟩
  refine H.E5 0 (BitVec.ofInt 8 n) hO rfl (by rw [← ZJ]; show IntKind.wrap .u8 (n.fdiv 1)=_; rw [Int.fdiv_one]) (by omega) fun o' w2 H _=>aR o' _ w2 ⟨2,by omega,rfl,?_⟩ (by decide)
  rw [List.append_assoc] at H
  exact H
 | 2,_=>
  exact ite_false rfl ⟨o,rfl,H⟩
def jO (gen number part parts:Int) (l:List B8):List B8:=cG [gen,number] ++ (gZ part ++ (gZ parts ++ (gZ (l.length:Int) ++ gZ 0))) ++ l ++ List.replicate (512 - (24+l.length)) 0
theorem RY (gen number part parts:Int) (l:List B8) (hl:l.length≤488):(jO gen number part parts l).length=512:=by
 unfold jO
 simp only [List.length_append,kS,List.length_replicate,gZ,List.length_cons,List.length_nil]
 omega
theorem amT:zc Pr aM=[.int .u8 0]:=by kernel_rfl
theorem akC:Pr.underlying bn=some (.int .i64):=by kernel_rfl
theorem aiM (gen number part parts:Int) (x:ah) (l:List B8) (hl:l.length≤488) (w:World) (hx:Bytes w x l) :
  Ok Pr NC [.agg ⟨[.int .i64 gen,.int .i64 number,.int .i64 part,.int .i64 parts,.int .i64 (l.length:Int)]⟩,.slice x.a x.n x.c] w fun v w'=>∃ y:ah,v=.slice y.a y.n y.c∧aq w [] w' [.row aM 1 y (aL (jO gen number part parts l))]:=by
 refine afj ?_
 unfold NT
 have cH:=hx.len
 refine (aq.start w).nw fun p w1 H _=>H.au 0 rfl (an p 0) rfl (H.au 0 rfl (an p 1) rfl (H.nw fun p1 w2 H _=>?_))
 have hN:jX w2 ⟨some ⟨p1,0,none⟩,2,2⟩ [gen,number]:=H.yG 1 (l:=[gen,number]) rfl
 refine aC (IM ⟨none,0,0⟩ [] ⟨some ⟨p1,0,none⟩,2,2⟩ [gen,number] (by simp) (by simp) w2 (Bytes.nil _) hN) ?_
 rintro _ w3 ⟨y,rfl,hy,m3⟩
 have H:=H.gG m3 hy
 rw [List.nil_append] at H
 refine dP (H.au 0 rfl (an p 2) rfl (H.au 0 rfl (an p 3) rfl (H.au 0 rfl (an p 4) rfl (H.nw fun p2 w4 H _=>?_))))
 have H:aq w [] w4 ([.row aM 1 y (aL (cG [gen,number]))] ++ [.av p2 (dw [part,parts,(l.length:Int),0]) bn]):=H.eu [2,3] (by decide) rfl
 obtain ⟨hs,UP⟩:∃ hs:List Int,hs=[part,parts,(l.length:Int),0]:=⟨_,rfl⟩
 rw [← UP] at H
 have vZ:hs.length=4:=by rw [UP]; rfl
 refine qq 0 4 (fun i (o:ah) w'=>aq w [] w' ([.row aM 1 o (aL (cG [gen,number] ++ (hs.take i).flatMap gZ))] ++ [.av p2 (dw hs) bn])) rfl (by omega) (by rw [List.take_zero,List.flatMap_nil,List.append_nil]; exact H) ?_ ?_
 ·intro again i o w5 _ hi H aR
  have hN:jX w5 ⟨some ⟨p2,0,none⟩,4,4⟩ hs:=by have:=H.yG 1 (l:=hs) rfl; rwa [vZ] at this
  have Br:((hs.take i).flatMap gZ).length≤8:=by
   rw [List.length_flatMap]
   have:((hs.take i).map fun a=>(gZ a).length)=List.replicate i 2:=by
    refine List.eq_replicate_iff.2 ⟨by rw [List.length_map,List.length_take]; omega,fun b hb=>?_⟩
    obtain ⟨a,_,rfl⟩:=List.mem_map.1 hb
    rfl
   rw [this,List.sum_replicate_nat]
   omega
  refine ite_true (decide_eq_true (by omega)) (hN.ld (by omega) rfl ?_)
  refine aC (aiL (hs.getD i 0) (l:=cG [gen,number] ++ (hs.take i).flatMap gZ) (by rw [List.length_append,kS]; show 8 * 2+_≤_; omega) H.sub) ?_
  rintro _ w6 ⟨o',rfl,G⟩
  have H:=H.back G
  refine dP ⟨⟨by omega,by omega⟩,aR o' w6 ?_⟩
  rw [qN _ _ (by omega) 0,List.flatMap_append,List.flatMap_cons,List.flatMap_nil,List.append_nil,← List.append_assoc]
  exact H
 ·intro again o w5 H
  have e4:cG [gen,number] ++ (hs.take 4).flatMap gZ=cG [gen,number] ++ (gZ part ++ (gZ parts ++ (gZ (l.length:Int) ++ gZ 0))):=by rw [UP]; rfl
  rw [e4] at H
  refine ite_false rfl ?_
  have Hv:=(H.bytes 0 rfl).len
  have asU:o.n=24:=by
   rw [← Hv]
   simp only [List.length_append,kS,gZ,List.length_cons,List.length_nil]
  refine H.Dy (x:=x) 0 hO rfl (hx.aI H.mod) (by omega) fun o2 w6 H hn=>?_
  refine ⟨⟨by omega,by omega⟩,H.anr (m:=512 - (24+l.length)) (v:=.int .u8 0) 0 hO akC amT rfl rfl (by omega) (by omega) (by omega) fun o3 w7 H _=>?_⟩
  refine ⟨o3,rfl,?_⟩
  have e5:aL (jO gen number part parts l)=aL (cG [gen,number] ++ (gZ part ++ (gZ parts ++ (gZ (l.length:Int) ++ gZ 0))) ++ l) ++ List.replicate (512 - (24+l.length)) (.int .u8 0):=by
   unfold jO
   rw [ER]
   congr 1
   unfold aL
   rw [List.map_replicate]
   rfl
  rw [e5]
  exact H.take 1
end Go.Proofs.YtpchgbolambkcaaGreatDoor
end
section
set_option linter.unusedVariables false
set_option linter.unusedSimpArgs false
namespace Go.Proofs.YtpchgbolambkcaaGreatDoor
open Go Go.Ev
set_option maxRecDepth 20000
set_option linter.unusedVariables false
structure zN where
 gen:Int
 number:Int
 part:Int
 parts:Int
 size:Int
def zN.cs (h:zN):List Value:=EF h.gen h.number h.part h.parts h.size
def jF (b:List B8) (k:Nat):Int:=numOf ((b.drop (16+2 * k)).take 2)
def dV (b:List B8):zN:=⟨numOf (b.take 8),numOf ((b.drop 8).take 8),jF b 0,jF b 1,jF b 2⟩
def Hw (h:zN):Bool:=decide (h.size=488) || ((decide (h.part=h.parts - 1) && decide (h.size<488)) && (decide (0<h.size) || decide (h.parts=1)))
def mo (b:List B8):Bool:=(((decide (1≤(dV b).gen) && decide (1≤(dV b).number)) && decide ((dV b).part<(dV b).parts)) && Hw (dV b)) && decide (jF b 3=0)
theorem amU (l:List B8) (h:l.length≤2):0≤numOf l∧numOf l≤65535:=by
 have key:(wd l).toNat≤65535:=by
  match l,h with
  | [],_=>decide
  | [a],_=>
   have:=a.isLt
   show ((0 <<< 8 ||| a.setWidth 64:bw)).toNat≤_
   have e:((0 <<< 8 ||| a.setWidth 64:bw))=a.setWidth 64:=by simp
   rw [e,BitVec.toNat_setWidth]
   omega
  | [a,b],_=>
   have h1:=a.isLt
   have h2:=b.isLt
   show ((((0 <<< 8 ||| a.setWidth 64:bw)) <<< 8 ||| b.setWidth 64:bw)).toNat≤_
   have e:((0 <<< 8 ||| a.setWidth 64:bw))=a.setWidth 64:=by simp
   rw [e,BitVec.toNat_or,BitVec.toNat_shiftLeft,BitVec.toNat_setWidth,BitVec.toNat_setWidth,Nat.shiftLeft_eq]
   have h3:a.toNat % 2 ^ 64 * 2 ^ 8 % 2 ^ 64<2 ^ 16:=by omega
   have h4:b.toNat % 2 ^ 64<2 ^ 16:=by omega
   have:=Nat.or_lt_two_pow h3 h4
   omega
  | _ :: _ :: _ :: _,h=>simp at h
 unfold numOf
 rw [wrap_i64 (by omega) (by omega)]
 omega
theorem CS (b:List B8) (k:Nat):0≤jF b k∧jF b k≤65535:=amU _ (by rw [List.length_take]; omega)
def pW (b:List B8) (k:Nat):List Int:=(List.range k).map (jF b)
theorem akD (b:List B8) (k:Nat):pW b (k+1)=pW b k ++ [jF b k]:=by simp [pW,List.range_succ]
theorem Tp:zc Pr lM=(zN.mk 0 0 0 0 0).cs:=by kernel_rfl
theorem XO (x:ah) (b:List B8) (hb:b.length=512) (w:World) (hx:Bytes w x b):Ok Pr Jn [.slice x.a x.n x.c] w fun v w'=>v=.tuple ⟨[.agg ⟨(dV b).cs⟩,.bool (mo b)]⟩∧Mod [] w w':=by
 refine ahm ?_
 unfold QH
 have cH:=hx.len
 have DH:=hx.cap
 refine (aq.start w).nw fun p w1 H _=>?_
 rw [Tp] at *
 have H:aq w [] w1 ([.row bn 1 ⟨none,0,0⟩ (dw [])] ++ [.av p (zN.mk 0 0 0 0 0).cs lM]):=(H.jC bn 1).eu [1,0] (by decide) rfl
 refine tG (fun (o:ah) (i:Int) w'=>∃ k:Nat,k≤4∧i=((16+2 * k:Nat):Int)∧aq w [] w' ([.row bn 1 o (dw (pW b k))] ++ [.av p (zN.mk 0 0 0 0 0).cs lM])) (fun _ i _=>(24 - i).toNat) ⟨0,by omega,rfl,H⟩ ?_
 rintro again ns i w2 ⟨k,hk,rfl,H⟩ aR
 by_cases cI:k<4
 ·refine ite_true (decide_eq_true (by omega)) ⟨⟨by omega,by omega⟩,JP (16+2 * k) (16+2 * k+2) rfl (by omega) (by omega) (by omega) fun z hz qK=>?_⟩
  have qK:=qK w2 b (hx.aI H.mod) (by omega)
  rw [show 16+2 * k+2 - (16+2 * k)=2 by omega] at qK
  refine aC (QI z _ w2 qK (by rw [List.length_take]; omega)) ?_
  rintro _ w3 ⟨rfl,e3⟩
  rw [e3]
  have nV:=jX.len (H.dz 0 rfl)
  have bR:(pW b k).length=k:=by simp [pW]
  refine cr (H.vJ (us:=[.int .i64 (jF b k)]) 0 RX rfl rfl (by simp [fW]) (by omega) (by omega) fun o' w4 H _=>⟨⟨by omega,by omega⟩,aR o' _ w4 ⟨k+1,by omega,by omega,?_⟩ (by omega)⟩)
  rw [akD]
  have e:dw (pW b k ++ [jF b k])=dw (pW b k) ++ [.int .i64 (jF b k)]:=by simp [dw,i64]
  rw [e]
  exact H
 ·have UQ:k=4:=by omega
  subst UQ
  refine ite_false (decide_eq_false (by omega)) (gm fun go bX=>?_)
  have hN:=H.dz 0 rfl
  have nV:=hN.len
  have UK:ns.n=4:=by rw [← nV]; rfl
  have fin:∀ {w6:World} {q:Nat},aq w [] w6 ([.row bn 1 ns (dw (pW b 4))] ++ [.av p (zN.mk 0 0 0 0 0).cs lM,.av q (dV b).cs lM])→go ⟨q,0,none⟩ w6:=by
   intro w6 q H
   have r0:=CS b 0
   have r1:=CS b 1
   refine bX _ _ (H.au 2 rfl (an q 2) rfl (H.au 2 rfl (an q 3) rfl ⟨⟨by show _≤jF b 1 - 1; omega,by show jF b 1 - 1≤_; omega⟩,H.au 2 rfl (an q 4) rfl (H.au 2 rfl (an q 4) rfl (H.au 2 rfl (an q 4) rfl (H.au 2 rfl (an q 3) rfl (yS ?_))))⟩))
   have D:=H.drew
   refine D.wH 2 rfl (D.au 2 rfl (an q 0) rfl (D.au 2 rfl (an q 1) rfl (D.au 2 rfl (an q 2) rfl (D.au 2 rfl (an q 3) rfl ?_))))
   have hN:=D.dz 0 rfl
   refine cN (fun h=>?_) (fun h=>?_)
   ·refine hN.ld (i:=3) (by show 3<(pW b 4).length; simp [pW]) rfl (D.oJ 1 rfl rfl fun w7 F=>⟨?_,F.wH 1 rfl ⟨?_,F.mod⟩⟩)
    ·have c1:=(D.gQ 0 rfl).cell 3 (i64 (jF b 3)) rfl
     have c2:=(F.gQ 0 rfl).cell 3 (i64 (jF b 3)) rfl
     exact KH c1 c2
    ·have e:mo b=decide (jF b 3=0):=by
      unfold mo Hw
      rw [show _=true from h]
      rfl
     rw [e]
     rfl
   ·refine D.oJ 1 rfl rfl fun w7 F=>F.wH 1 rfl ⟨?_,F.mod⟩
    have e:mo b=false:=by
     unfold mo Hw
     rw [show _=false from h]
     rfl
    rw [e]
    rfl
  have D:=H.drew
  have kp:∀ {u u':World} {L L':List aB},aq w [] u (.row bn 1 ns (dw (pW b 4)) :: L)→aq w [] u' (.row bn 1 ns (dw (pW b 4)) :: L')→∀ k:Nat,k<3→Ev.kept (Addr.add (base ns.a) (Int.toNat (k:Int) * 1)) 1 u u':=by
   intro u u' L L' K K' k hk
   rw [Int.toNat_natCast,Nat.mul_one]
   have e:(dw (pW b 4))[k]? = some (i64 (jF b k)):=by
    match k,hk with
    | 0,_=>rfl
    | 1,_=>rfl
    | 2,_=>rfl
   exact KH ((K.gQ 0 rfl).cell k _ e) ((K'.gQ 0 rfl).cell k _ e)
  refine alM 8 rfl (by omega) fun z1 vT sU=>JP 8 16 rfl rfl (by omega) (by omega) fun z2 uw l5=>?_
  have g1:∀ {u:World},Mod [] w u→Ok Pr vh [.slice z1.a z1.n z1.c] u fun v w'=>v=.int .i64 (dV b).gen∧w'=u:=fun {u} m=>QI z1 (b.take 8) u (sU u b (hx.aI m) (by omega)) (by rw [List.length_take]; omega)
  have g2:∀ {u:World},Mod [] w u→Ok Pr vh [.slice z2.a z2.n z2.c] u fun v w'=>v=.int .i64 (dV b).number∧w'=u:=fun {u} m=>QI z2 ((b.drop 8).take 8) u (l5 u b (hx.aI m) (by omega)) (by rw [List.length_take]; omega)
  have hN:=D.dz 0 rfl
  have vZ:(pW b 4).length=4:=rfl
  refine hN.ld (i:=0) (by omega) rfl (hN.ld (i:=1) (by omega) rfl (hN.ld (i:=2) (by omega) rfl ⟨?_,?_⟩))
  ·refine aC (g1 D.mod) ?_
   rintro _ w3 ⟨rfl,e3⟩
   rw [e3]
   refine cr ⟨kp D D 2 (by omega),kp D D 1 (by omega),kp D D 0 (by omega),?_,?_⟩
   ·refine aC (g2 D.mod) ?_
    rintro _ w4 ⟨rfl,e4⟩
    rw [e4]
    refine cr ⟨kp D D 2 (by omega),kp D D 1 (by omega),kp D D 0 (by omega),D.nw fun q w5 E _=>⟨kp D E 2 (by omega),kp D E 1 (by omega),kp D E 0 (by omega),E.oJ 2 rfl rfl fun w6 E=>fin E⟩⟩
   ·refine D.nw fun q w5 E _=>⟨kp D E 2 (by omega),kp D E 1 (by omega),kp D E 0 (by omega),aC (g2 E.mod) ?_⟩
    rintro _ w4 ⟨rfl,e4⟩
    rw [e4]
    exact cr ⟨kp E E 2 (by omega),kp E E 1 (by omega),kp E E 0 (by omega),E.oJ 2 rfl rfl fun w6 E=>fin E⟩
  ·refine D.nw fun q w5 E _=>⟨kp D E 2 (by omega),kp D E 1 (by omega),kp D E 0 (by omega),aC (g1 E.mod) ?_⟩
   rintro _ w3 ⟨rfl,e3⟩
   rw [e3]
   refine cr ⟨kp E E 2 (by omega),kp E E 1 (by omega),kp E E 0 (by omega),aC (g2 E.mod) ?_⟩
   rintro _ w4 ⟨rfl,e4⟩
   rw [e4]
   exact cr ⟨kp E E 2 (by omega),kp E E 1 (by omega),kp E E 0 (by omega),E.oJ 2 rfl rfl fun w6 E=>fin E⟩
theorem O3 (c:Int) (hc:c≠0) (w:World):Ok Pr B7 [.int .i64 c] w fun v w'=>gy w w' v c∧Mod [] w w':=by
 refine agK ?_
 unfold PU
 exact oL fun b w' hb h1 h2 _=>⟨gy.mk h1 (by omega) hc,h2⟩
def fJ (D:aU) (a e:Int):Int:=if 0≤a∧a≤e∧e≤(D.now.length:Int) then 0 else 2
theorem Ov {w:World} {p:Nat} {s:gB} {D:aU} (h:gY w p s D) (a e:Int):Ok Pr Eu [.pointer (some ⟨p,0,none⟩),.int .i64 a,.int .i64 e] w fun v w'=>gy w w' v (fJ D a e)∧Mod [] w w':=by
 refine af2 ?_
 unfold O0
 refine ite_false rfl (gm fun go bX=>?_)
 have bad:fJ D a e≠0→go true w:=by
  intro gp
  refine bX _ _ (ite_true rfl (aC (O3 2 (by omega) w) ?_))
  rintro v w3 ⟨he,m⟩
  have:fJ D a e=2:=by
   unfold fJ at gp ⊢
   split
   ·rename_i hc; rw [if_pos hc] at gp; exact absurd rfl gp
   ·rfl
  rw [this]
  exact ⟨he,m⟩
 refine cN (fun hi=>?_) (fun hi=>?_)
 ·simp only [Bool.or_eq_true,decide_eq_true_eq] at hi
  exact bad (by unfold fJ; rw [if_neg (by omega)]; decide)
 ·simp only [Bool.or_eq_false_iff,decide_eq_false_iff_not] at hi
  refine aC (An h) ?_
  rintro _ w1 ⟨rfl,e1⟩
  rw [e1]
  refine cr ?_
  by_cases cI:(D.now.length:Int)<e
  ·rw [decide_eq_true cI]
   exact bad (by unfold fJ; rw [if_neg (by omega)]; decide)
  ·rw [decide_eq_false cI]
   refine bX _ _ (ite_false rfl ?_)
   have:fJ D a e=0:=by unfold fJ; rw [if_pos (by omega)]
   rw [this]
   exact ⟨q8 _ _,Mod.refl _ _⟩
def bM (n:Nat):Nat:=if 1048576<n then 0 else max ((n+487) / 488) 1
theorem XC (n:Nat) (hn:n≤9000000000000000000) (w:World):Ok Pr I2 [.int .i64 (n:Int)] w fun v w'=>v=.int .i64 (bM n:Int)∧w'=w:=by
 refine agL ?_
 unfold PV bM
 by_cases h:1048576<n
 ·rw [if_pos h]
  exact ite_true (by rw [decide_eq_true (show (1048576:Int)<(n:Int) by omega),Bool.or_true]) ⟨rfl,rfl⟩
 ·rw [if_neg h]
  refine ite_false (by rw [decide_eq_false (show ¬ (1048576:Int)<(n:Int) by omega),decide_eq_false (show ¬ (n:Int)<0 by omega)]; rfl) ⟨⟨by omega,by omega⟩,⟨by omega,by omega⟩,⟨by omega,by show (n:Int)+488 - 1≤9223372036854775807; omega⟩,?_,rfl⟩
  congr 1
  omega
end Go.Proofs.YtpchgbolambkcaaGreatDoor
end
section
set_option linter.unusedVariables false
set_option linter.unusedSimpArgs false
namespace Go.Proofs.YtpchgbolambkcaaGreatDoor
open Go Go.Ev
set_option maxRecDepth 20000
set_option linter.unusedVariables false
def iy (b:List B8) (k:Nat):List B8:=(b.drop (488 * k)).take 488
theorem Fh (b:List B8) (k:Nat):(iy b k).length≤488:=by unfold iy; rw [List.length_take]; omega
def rN (D:aU) (a gen number:Int) (n:Nat) (b:List B8):Nat→aU
 | 0=>D
 | k+1=>lT (rN D a gen number n b k) (a+k) (jO gen number (k:Int) (n:Int) (iy b k))
def iz (D:aU) (a e gen number:Int) (b:List B8):Int:=
 if fJ D a e=0 then (if gen<1∨number<1 then 2 else if bM b.length=0∨e - a<(bM b.length:Int) then 12 else 0) else 2
def fM (D:aU) (a e gen number:Int) (b:List B8):aU:=if iz D a e gen number b=0 then rN D a gen number (bM b.length) b (bM b.length) else D
theorem aam (D:aU) (i:Int) (l:List B8):(lT D i l).now.length=D.now.length:=by unfold lT; split <;> simp
theorem Fy {D:aU} {m:Nat} (h:D.ok m) (a gen number:Int) (n:Nat) (b:List B8):∀ k,(rN D a gen number n b k).ok m
 | 0=>h
 | k+1=>aaY (Fy h a gen number n b k) _ _
theorem AK {D:aU} {m:Nat} (h:D.ok m) (a e gen number:Int) (b:List B8):(fM D a e gen number b).ok m:=by
 unfold fM
 split
 ·exact Fy h _ _ _ _ _ _
 ·exact h
theorem CA {D:aU} {a e:Int} (h:fJ D a e=0):0≤a∧a≤e∧e≤(D.now.length:Int):=by
 unfold fJ at h
 split at h
 ·assumption
 ·omega
theorem al0 (n:Nat) (h:n≤1048576):488 * (bM n - 1)≤n:=by
 unfold bM
 rw [if_neg (by omega)]
 omega
theorem XD {w0 w:World} {S:List Nat} {p:Nat} {s:gB} {D:aU} {m:Nat} (H:aq w0 S w (cu p s D)) (hD:D.ok m) (a e gen number:Int) (x:ah) (b:List B8) (hb:b.length≤1000000000) (hr:-9223372036854775808≤e∧e≤9223372036854775807) (hx:∀ {w'},Mod S w0 w'→Bytes w' x b) :
  Ok Pr I0 [.pointer (some ⟨p,0,none⟩),.int .i64 a,.int .i64 e,.int .i64 gen,.int .i64 number,.slice x.a x.n x.c] w fun v w'=>∃ (s':gB) (er:Value),v=.tuple ⟨[.int .i64 (if iz D a e gen number b=0 then a+(bM b.length:Int) else 0),er]⟩∧aq w0 S w' (cu p s' (fM D a e gen number b) ++ [aB.err er (iz D a e gen number b)]):=by
 refine agI ?_
 unfold PS
 have hR:gY w p s D:=mV (M:=[]) H
 have hC:iz D a e gen number b=if fJ D a e=0 then (if gen<1∨number<1 then 2 else if bM b.length=0∨e - a<(bM b.length:Int) then 12 else 0) else 2:=rfl
 have hT:fM D a e gen number b=if iz D a e gen number b=0 then rN D a gen number (bM b.length) b (bM b.length) else D:=rfl
 generalize iz D a e gen number b=C at *
 generalize fM D a e gen number b=T at *
 have hm:=hD.most
 have nV:=hD.now
 refine aC (Ov hR a e) ?_
 rintro er w1 ⟨he,m1⟩
 have H1:=H.frame m1
 have fail:∀ {w2:World} {er:Value} {c:Int},c≠0→C=c→aq w0 S w2 (cu p s D ++ [aB.err er c])→∃ (s':gB) (er':Value),Value.tuple ⟨[.int .i64 0,er]⟩=.tuple ⟨[.int .i64 (if C=0 then a+(bM b.length:Int) else 0),er']⟩∧aq w0 S w2 (cu p s' T ++ [aB.err er' C]):=by
  intro w2 er c hc e K
  rw [e,if_neg hc] at hT
  rw [e,if_neg hc,hT]
  exact ⟨s,er,rfl,K⟩
 refine he.1.isNil ?_
 by_cases h0:fJ D a e=0
 case neg=>
  rw [if_neg h0] at hC
  have h2:fJ D a e=2:=by
   unfold fJ at h0 ⊢
   split
   ·rename_i hc; rw [if_pos hc] at h0; exact absurd rfl h0
   ·rfl
  refine ite_true (by rw [decide_eq_false h0]; rfl) (fail (c:=2) (by decide) hC ?_)
  rw [h2] at he
  exact H.jY m1 he
 rw [if_pos h0] at hC
 obtain ⟨q1,q2,q3⟩:=CA h0
 refine ite_false (by rw [decide_eq_true h0]; rfl) (cN (fun hg=>?_) fun hg=>?_)
 ·simp only [Bool.or_eq_true,decide_eq_true_eq] at hg
  rw [if_pos hg] at hC
  refine aC (O3 2 (by decide) w1) ?_
  rintro v w2 ⟨l9,m2⟩
  exact fail (c:=2) (by decide) hC (H1.jY m2 l9)
 ·simp only [Bool.or_eq_false_iff,decide_eq_false_iff_not] at hg
  rw [if_neg (by omega)] at hC
  have cH:=(hx H1.mod).len
  rw [← cH]
  refine aC (XC b.length (by omega) w1) ?_
  rintro _ w2 ⟨rfl,e2⟩
  rw [e2]
  refine cr (cN (fun hp=>?_) fun hp=>?_)
  ·simp only [Bool.or_eq_true,decide_eq_true_eq] at hp
   rw [wrap_i64 (by omega) (by omega)] at hp
   rw [if_pos (by omega)] at hC
   refine aC (O3 12 (by decide) w1) ?_
   rintro v w3 ⟨l9,m2⟩
   exact fail (c:=12) (by decide) hC (H1.jY m2 l9)
  ·simp only [Bool.or_eq_false_iff,decide_eq_false_iff_not] at hp
   rw [wrap_i64 (by omega) (by omega)] at hp
   rw [if_neg (by omega)] at hC
   rw [if_pos hC] at hT ⊢
   have l5:b.length≤1048576:=by
    rcases Nat.lt_or_ge 1048576 b.length with h | h
    ·exfalso; apply hp.1; unfold bM; rw [if_pos h]; rfl
    ·exact h
   have vS:=al0 b.length l5
   have aoy:bM b.length≤256:=by
    have:=hp.2
    omega
   obtain ⟨n,hn⟩:∃ n,n=bM b.length:=⟨_,rfl⟩
   rw [← hn] at hT hp aoy vS ⊢
   clear hn
   obtain ⟨a',rfl⟩:∃ a':Nat,a=(a':Int):=⟨a.toNat,by omega⟩
   refine ep 0 n (fun i w'=>∃ s',aq w0 S w' (cu p s' (rN D (a':Int) gen number n b i))) rfl (Nat.zero_le _) ⟨s,H1⟩ ?_ ?_
   ·rintro again i w3 _ hi ⟨s',H⟩ aR
    have fF:=Fy hD (a':Int) gen number n b i
    have wj:=hx H.mod
    have DH:=wj.cap
    have TM:min (b.length:Int) (((i:Int)+1) * 488)=((min b.length (488 * (i+1)):Nat):Int):=by omega
    refine ite_true (decide_eq_true (by omega)) ⟨⟨by omega,by omega⟩,⟨by omega,by omega⟩,⟨by omega,by omega⟩,?_⟩
    rw [TM]
    refine JP (488 * i) (min b.length (488 * (i+1))) (by omega) rfl (by omega) (by omega) fun z hz qK=>⟨⟨by omega,by omega⟩,?_⟩
    have qK:=qK w3 b wj (by omega)
    have UR:(b.drop (488 * i)).take (min b.length (488 * (i+1)) - 488 * i)=iy b i:=by
     unfold iy
     rcases Nat.lt_or_ge b.length (488 * (i+1)) with h | h
     ·rw [Nat.min_eq_left (by omega),List.take_of_length_le (by rw [List.length_drop]; omega),List.take_of_length_le (by rw [List.length_drop]; omega)]
     ·rw [Nat.min_eq_right (by omega)]
      congr 1
      omega
    rw [UR] at qK
    have vW:=qK.len
    have aoz:=RY gen number (i:Int) (n:Int) (iy b i) (Fh b i)
    have Lm:=aiM gen number (i:Int) (n:Int) z (iy b i) (Fh b i) w3 qK
    rw [vW] at Lm
    refine aC Lm ?_
    rintro _ w4 ⟨y,rfl,G⟩
    have K:=H.join G
    refine dP (aC (Xh K.sub fF ((a':Int)+(i:Int)) y (jO gen number (i:Int) (n:Int) (iy b i)) (K.bytes 5 rfl)) ?_)
    rintro er w5 ⟨s2,W⟩
    have K:=K.back W
    have hw:qJ (rN D (a':Int) gen number n b i) ((a':Int)+(i:Int)) (jO gen number (i:Int) (n:Int) (iy b i))=0:=by
     unfold qJ
     rw [if_pos (by unfold gU; rw [if_pos (by rw [fF.now]; omega)]),if_pos aoz]
    rw [hw] at K
    have US:eR w5 er 0:=K.ok 5 _ rfl
    exact US.isNil (ite_false rfl ⟨⟨by omega,by omega⟩,aR w5 ⟨s2,K.take 5⟩⟩)
   ·rintro again w3 ⟨s',H⟩
    refine ite_false (decide_eq_false (by omega)) ⟨⟨by omega,by omega⟩,s',.nilIface,rfl,?_⟩
    rw [hT,hC]
    exact H.jY (Mod.refl _ _) (q8 _ _)
def uM (D:aU) (a:Int):Nat→aU
 | 0=>D
 | k+1=>lT (uM D a k) (a+k) fI
def sV (D:aU) (a e:Int):aU:=if fJ D a e=0 then uM D a (e - a).toNat else D
theorem KD {D:aU} {m:Nat} (h:D.ok m) (a:Int):∀ k,(uM D a k).ok m
 | 0=>h
 | k+1=>aaY (KD h a k) _ _
theorem FA {D:aU} {m:Nat} (h:D.ok m) (a e:Int):(sV D a e).ok m:=by
 unfold sV
 split
 ·exact KD h _ _
 ·exact h
theorem XE {w0 w:World} {S:List Nat} {p:Nat} {s:gB} {D:aU} {m:Nat} (H:aq w0 S w (cu p s D)) (hD:D.ok m) (a e:Int) :
  Ok Pr I1 [.pointer (some ⟨p,0,none⟩),.int .i64 a,.int .i64 e] w fun v w'=>∃ s':gB,aq w0 S w' (cu p s' (sV D a e) ++ [aB.err v (fJ D a e)]):=by
 refine agJ ?_
 unfold PT
 have hR:gY w p s D:=mV (M:=[]) H
 have hT:sV D a e=if fJ D a e=0 then uM D a (e - a).toNat else D:=rfl
 have hm:=hD.most
 have nV:=hD.now
 refine aC (Ov hR a e) ?_
 rintro er w1 ⟨he,m1⟩
 refine he.1.isNil ?_
 by_cases h0:fJ D a e=0
 case neg=>
  rw [if_neg h0] at hT
  refine ite_true (by rw [decide_eq_false h0]; rfl) ⟨s,?_⟩
  rw [hT]
  exact H.jY m1 he
 obtain ⟨q1,q2,q3⟩:=CA h0
 rw [if_pos h0] at hT
 rw [hT,h0]
 obtain ⟨a',rfl⟩:∃ a':Nat,a=(a':Int):=⟨a.toNat,by omega⟩
 obtain ⟨e',rfl⟩:∃ e':Nat,e=(e':Int):=⟨e.toNat,by omega⟩
 refine ite_false (by rw [decide_eq_true rfl]; rfl) ?_
 rw [show ((e':Int) - (a':Int)).toNat=e' - a' by omega]
 refine ep a' e' (fun i w'=>∃ s',aq w0 S w' (cu p s' (uM D (a':Int) (i - a')))) rfl (by omega) ⟨s,by rw [Nat.sub_self]; exact H.frame m1⟩ ?_ ?_
 ·rintro again i w3 hai hi ⟨s',H⟩ aR
  have fF:=KD hD (a':Int) (i - a')
  refine ite_true (decide_eq_true (by omega)) (H.sQ (n:=512) hO aa1 rfl rfl (by omega) fun y w4 H hy=>?_)
  have K:aq w0 S w4 (cu p s' (uM D (a':Int) (i - a')) ++ [.row aM 1 y (aL fI)]):=H
  refine aC (Xh K.sub fF (i:Int) y fI (K.bytes 5 (bs:=fI) rfl)) ?_
  rintro er w5 ⟨s2,W⟩
  have K:=K.back W
  have hw:qJ (uM D (a':Int) (i - a')) (i:Int) fI=0:=by
   unfold qJ
   rw [if_pos (by unfold gU; rw [if_pos (by rw [fF.now]; omega)]),if_pos (by simp [fI])]
  rw [hw] at K
  have US:eR w5 er 0:=K.ok 5 _ rfl
  refine US.isNil (ite_false rfl ⟨⟨by omega,by omega⟩,aR w5 ⟨s2,?_⟩⟩)
  have e1:i+1 - a'=(i - a')+1:=by omega
  rw [e1]
  show aq w0 S w5 (cu p s2 (lT (uM D (a':Int) (i - a')) ((a':Int)+((i - a':Nat):Int)) fI))
  rw [show (a':Int)+((i - a':Nat):Int)=(i:Int) by omega]
  exact K.take 5
 ·rintro again w3 ⟨s',H⟩
  exact ite_false (decide_eq_false (by omega)) ⟨s',H.jY (Mod.refl _ _) (q8 _ _)⟩
end Go.Proofs.YtpchgbolambkcaaGreatDoor
end
section
set_option linter.unusedVariables false
set_option linter.unusedSimpArgs false
namespace Go.Proofs.YtpchgbolambkcaaGreatDoor
open Go Go.Ev
set_option maxRecDepth 20000
set_option linter.unusedVariables false
theorem agM (g:Value) (p:B8→Bool) (x:ah) (l:List B8) (hl:l.length≤1000000000) (w:World) (hx:Bytes w x l) (hg:∀ (c:B8) (w':World),Mod [] w w'→qx Pr g [.int .u8 (c.toNat:Int)] w' fun v eU=>v=.bool (p c)∧Mod [] w' eU) :
  Ok Pr Mr [.slice x.a x.n x.c,g] w fun v w'=>∃ z:Int,v=.int .i64 z∧decide (0≤z)=l.any p∧Mod [] w w':=by
 refine adZ ?_
 unfold Ms
 have cH:=hx.len
 refine ep 0 l.length (fun i w'=>(l.take i).any p=false∧Mod [] w w') rfl (by omega) ⟨rfl,Mod.refl _ _⟩ ?_ ?_
 ·rintro again i w1 _ hi ⟨hn,m⟩ aR
  refine ite_true (decide_eq_true (by omega)) ((hx.aI m).ld (i:=i) hi (Re (hg _ w1 m) ?_))
  rintro _ w2 ⟨rfl,m2⟩
  refine bh (cN (fun hc=>?_) (fun hc=>?_))
  ·exact ⟨_,rfl,by rw [yh p l i hi 0 hc]; exact decide_eq_true (by omega),m.trans m2⟩
  ·exact ⟨⟨by omega,by omega⟩,aR w2 ⟨by rw [xZ p l i hi 0,hn,hc]; rfl,m.trans m2⟩⟩
 ·rintro again w1 ⟨hn,m⟩
  rw [List.take_of_length_le (Nat.le_refl _)] at hn
  exact ite_false (decide_eq_false (by omega)) ⟨_,rfl,by rw [hn]; rfl,m⟩
theorem afk (g:Value) (p:B8→Bool) (x:ah) (l:List B8) (hl:l.length≤1000000000) (w:World) (hx:Bytes w x l) (hg:∀ (c:B8) (w':World),Mod [] w w'→qx Pr g [.int .u8 (c.toNat:Int)] w' fun v eU=>v=.bool (p c)∧Mod [] w' eU) :
  Ok Pr Mh [.slice x.a x.n x.c,g] w fun v w'=>v=.bool (l.any p)∧Mod [] w w':=by
 refine adW ?_
 unfold Mm
 refine aC (agM g p x l hl w hx hg) ?_
 rintro _ w1 ⟨z,rfl,hz,m⟩
 exact cr ⟨by rw [hz],m⟩
def Lv (x:B8):Bool:=!decide (((x.toNat:Nat):Int)=0)
def BJ (b:List B8) (om r:Nat):Nat:=if r=0 then 0 else (b.getD (om+(r - 1)) 0).toNat
def uUp (b:List B8) (a e:Nat):Prop:=∀ m,a<m→m<e→(b.getD (m - 1) 0).toNat<(b.getD m 0).toNat
def anL (b:List B8) (om r:Nat):Prop:=BJ b om r≤BJ b om (r+1)∧BJ b om (r+1)≤om∧uUp b (BJ b om r) (BJ b om (r+1))
def aoA (b:List B8) (om k:Nat):Prop:=(∀ r,r<k→anL b om r)∧((b.drop (BJ b om k)).take (om - BJ b om k)).any Lv=false
open Classical in
noncomputable def uv (b:List B8) (om k:Nat):Int:=if aoA b om k then 0 else 4
end Go.Proofs.YtpchgbolambkcaaGreatDoor
end
section
set_option linter.unusedVariables false
set_option linter.unusedSimpArgs false
namespace Go.Proofs.YtpchgbolambkcaaGreatDoor
open Go Go.Ev
set_option maxRecDepth 20000
set_option linter.unusedVariables false
def jZ (b:List B8) (gen number i n:Int):Bool:=
 ((((mo b && decide ((dV b).gen=gen)) && decide ((dV b).number=number)) && decide ((dV b).part=i)) && decide ((dV b).parts=n)) && !(b.drop (24+(dV b).size.toNat)).any Lv
def lA (b:List B8):List B8:=(b.drop 24).take (dV b).size.toNat
def aX (D:aU) (i:Int):List B8:=D.now.getD i.toNat []
def kF (D:aU) (a e gen number n:Int):Nat→Option (List B8)
 | 0=>some []
 | k+1=>match kF D a e gen number n k with
  | none=>none
  | some o=>if a+k<e∧jZ (aX D (a+k)) gen number (k:Int) n=true then some (o ++ lA (aX D (a+k))) else none
def qL (D:aU) (a:Int):Int:=(dV (aX D a)).parts
def fO (D:aU) (a e gen number:Int):Option (List B8):=if fJ D a e=0 then kF D a e gen number (qL D a) (max (qL D a) 1).toNat else none
theorem JT {D:aU} {a e gen number n:Int} {k:Nat} (h:kF D a e gen number n k=none):∀ j,k≤j→kF D a e gen number n j=none
 | 0,hj=>by have:k=0:=by omega
            subst this; exact h
 | j+1,hj=>by
  rcases Nat.lt_or_ge j k with h2 | h2
  ·have:k=j+1:=by omega
   subst this; exact h
  ·show (match kF D a e gen number n j with | none=>none | some o=>_)=none
   rw [JT h j h2]
theorem RZ {b:List B8} (h:mo b=true):0≤(dV b).size∧(dV b).size≤488∧0≤(dV b).part∧(dV b).part<(dV b).parts∧(dV b).parts≤65535∧1≤(dV b).gen∧1≤(dV b).number:=by
 unfold mo Hw at h
 simp only [Bool.and_eq_true,Bool.or_eq_true,decide_eq_true_eq] at h
 have r0:=CS b 0
 have r1:=CS b 1
 have r2:=CS b 2
 have e0:(dV b).part=jF b 0:=rfl
 have e1:(dV b).parts=jF b 1:=rfl
 have e2:(dV b).size=jF b 2:=rfl
 omega
theorem ajg:pH Pr Oz=true:=by kernel_rfl
def ab7 (w w':World) (v:Value) (a:Int) (r:Option (List B8)):Prop:=∃ y:ah,v=.tuple ⟨[.slice y.a y.n y.c,.int .i64 (match r with | none=>0 | some o=>a+(bM o.length:Int)),.bool r.isSome]⟩∧aq w [] w' [.row aM 1 y (aL (r.getD []))]
theorem XP {w:World} {p:Nat} {s:gB} {D:aU} {m:Nat} (h:gY w p s D) (hD:D.ok m) (a e gen number:Int):Ok Pr Jh [.pointer (some ⟨p,0,none⟩),.int .i64 a,.int .i64 e,.int .i64 gen,.int .i64 number] w fun v w'=>ab7 w w' v a (fO D a e gen number):=by
 refine ahk ?_
 unfold QF
 have hm:=hD.most
 have nV:=hD.now
 have hT:fO D a e gen number=if fJ D a e=0 then kF D a e gen number (qL D a) (max (qL D a) 1).toNat else none:=rfl
 generalize fO D a e gen number=T at *
 refine aC (Ov h a e) ?_
 rintro er w1 ⟨he,m1⟩
 have none_:∀ {w2:World},T=none→Mod [] w w2→ab7 w w2 (.tuple ⟨[.slice none 0 0,.int .i64 0,.bool false]⟩) a T:=by
  intro w2 e m2
  rw [e]
  exact ⟨⟨none,0,0⟩,rfl,((aq.start w).frame m2).jC aM 1⟩
 refine he.1.isNil ?_
 by_cases h0:fJ D a e=0
 case neg=>
  rw [if_neg h0] at hT
  exact ite_true (by rw [decide_eq_false h0]; rfl) (none_ hT m1)
 rw [if_pos h0] at hT
 obtain ⟨q1,q2,q3⟩:=CA h0
 refine ite_false (by rw [decide_eq_true h0]; rfl) ?_
 obtain ⟨N,hN⟩:∃ N,N=qL D a:=⟨_,rfl⟩
 rw [← hN] at hT
 have hNr:0≤N∧N≤65535:=by rw [hN]; exact CS _ 1
 have bad:∀ {k:Nat},kF D a e gen number N (k+1)=none→(k:Int)<max N 1→T=none:=by
  intro k hk cI
  rw [hT]
  exact JT hk _ (by omega)
 refine akl (fun (out:ah) (i n:Int) w'=>∃ (k:Nat) (o:List B8),i=(k:Int)∧(k:Int)≤max N 1∧n=(if k=0 then 1 else N)∧kF D a e gen number N k=some o∧o.length≤488 * k∧aq w [] w' [.row aM 1 out (aL o)]) (fun _ i _ _=>(65540 - i).toNat) ⟨0,[],rfl,by omega,rfl,rfl,by simp,((aq.start w).frame m1).jC aM 1⟩ ?_
 rintro again out i n w2 ⟨k,o,rfl,hkN,rfl,xO,Hv,H⟩ aR
 have ab8:=(H.bytes 0 rfl).len
 by_cases cI:(k:Int)<(if k=0 then 1 else N)
 ·have ab9:(k:Int)<max N 1:=by
   split at cI <;> omega
  refine ite_true (decide_eq_true cI) ⟨⟨by omega,by omega⟩,cN (fun kW=>?_) fun kW=>⟨⟨by omega,by omega⟩,?_⟩⟩
  ·have kW:=of_decide_eq_true kW
   refine none_ (bad (k:=k) ?_ ab9) H.mod
   show (match kF D a e gen number N k with | none=>none | some o=>_)=none
   rw [xO]
   show (if a+(k:Int)<e∧_ then _ else none)=none
   rw [if_neg (by omega)]
  ·have kW:=of_decide_eq_false kW
   have acd:gU D (a+(k:Int))=0:=by unfold gU; rw [if_pos (by omega)]
   have qD:DV D (a+(k:Int))=aX D (a+(k:Int)):=by unfold DV; rw [if_pos acd]; rfl
   have nS:(aX D (a+(k:Int))).length=512:=hD.DA _ (wU (by omega))
   refine aC (XB (h.aI H.mod) hD (a+(k:Int))) ?_
   rintro _ w3 ⟨y,er,rfl,G⟩
   rw [qD,acd] at G
   have K:=H.join G
   refine ⟨_,rfl,dP ⟨rfl,?_⟩⟩
   have hNk:k=0→N=(dV (aX D (a+(k:Int)))).parts:=fun e0=>by rw [hN,e0]; unfold qL; simp
   generalize hB:aX D (a+(k:Int))=B at *
   refine aC (XO y B nS w3 (K.bytes 1 rfl)) ?_
   rintro _ w4 ⟨rfl,m4⟩
   have K:=K.frame m4
   rw [Tp]
   refine ⟨_,rfl,WZ ⟨mo B,rfl,rfl,K.nw fun q w5 K _=>K.oJ 3 rfl rfl fun w6 K=>gm fun go2 ku=>?_⟩⟩
   have K:aq w [] w6 [.row aM 1 out (aL o),.row aM 1 y (aL B),aB.err er 0,.av q (dV B).cs lM]:=K
   have step:∀ {w7:World},aq w [] w7 [.row aM 1 out (aL o),.row aM 1 y (aL B),aB.err er 0,.av q (dV B).cs lM]→go2 N w7:=by
    intro w7 K
    refine ku _ _ (iB fun go bX=>gm fun iH fH=>?_)
    have zO:=K.bytes 1 rfl
    have gW:=zO.len
    have xx:=zO.cap
    have abI:jZ B gen number (k:Int) N=false→T=none:=fun hf=>bad (k:=k) (by
     show (match kF D a e gen number N k with | none=>none | some o=>_)=none
     rw [xO]
     show (if a+(k:Int)<e∧jZ (aX D (a+(k:Int))) gen number (k:Int) N=true then _ else none)=none
     rw [hB,hf,if_neg (by simp)]) ab9
    refine K.au 3 rfl (an q 0) rfl (K.au 3 rfl (an q 1) rfl (K.au 3 rfl (an q 2) rfl (K.au 3 rfl (an q 3) rfl (K.au 3 rfl (an q 4) rfl (cN (fun hc=>?_) fun hc=>?_)))))
    ·refine fH _ _ (ite_true rfl (none_ (abI ?_) K.mod))
     simp only [Bool.or_eq_true,Bool.not_eq_true',decide_eq_false_iff_not] at hc
     unfold jZ
     rcases hc with (((hc | hc) | hc) | hc) | hc
     ·rw [hc]; rfl
     ·rw [decide_eq_false hc,Bool.and_false]; rfl
     ·rw [decide_eq_false hc,Bool.and_false]; rfl
     ·rw [decide_eq_false hc,Bool.and_false]; rfl
     ·rw [decide_eq_false hc,Bool.and_false]; rfl
    ·simp only [Bool.or_eq_false_iff,Bool.not_eq_false',decide_eq_true_eq] at hc
     obtain ⟨⟨⟨⟨c1,c2⟩,c3⟩,c4⟩,c5⟩:=hc
     obtain ⟨z1,z2,z3,z4,z5,_,_⟩:=RZ c1
     obtain ⟨sz,gV⟩:∃ sz:Nat,(dV B).size=(sz:Int):=⟨(dV B).size.toNat,by omega⟩
     have Ux:IntKind.wrap .i64 (24+(dV B).size)=((24+sz:Nat):Int):=by rw [wrap_i64 (by omega) (by omega)]; omega
     have vL:jZ B gen number (k:Int) N=!(B.drop (24+sz)).any Lv:=by
      unfold jZ
      rw [c1,decide_eq_true c2,decide_eq_true c3,decide_eq_true c4,decide_eq_true c5,gV]
      simp
     rw [Ux]
     refine alN (24+sz) rfl (by omega) fun z hz qK=>?_
     have aoB:=qK w7 B zO (by omega)
     refine aC (afk _ Lv z (B.drop (24+sz)) (by rw [List.length_drop]; omega) w7 aoB fun c w' m'=>RU ajg (af3 ?_)) ?_
     ·unfold O1
      exact ⟨rfl,Mod.refl _ _⟩
     rintro _ w8 ⟨rfl,m8⟩
     have K:=K.frame m8
     refine bh (fH _ _ (cN (fun ha=>?_) fun ha=>?_))
     ·exact none_ (abI (by rw [vL,ha]; rfl)) K.mod
     ·refine bX _ (K.au 3 rfl (an q 4) rfl ⟨⟨by show _≤24+(dV B).size; omega,by show 24+(dV B).size≤_; omega⟩,JP 24 (24+sz) rfl (by show 24+(dV B).size=_; omega) (by omega) (by omega) fun u hu uK=>?_⟩)
      have uK:=uK w8 B (K.bytes 1 rfl) (by omega)
      have anM:(B.drop 24).take (24+sz - 24)=lA B:=by unfold lA; rw [gV]; congr 1; omega
      rw [anM] at uK
      have asV:=uK.len
      have aos:(lA B).length≤488:=by unfold lA; rw [List.length_take]; omega
      refine K.Dy (x:=u) 0 hO rfl uK (by omega) fun o' w9 K _=>⟨⟨by omega,by omega⟩,aR o' _ _ w9 ⟨k+1,o ++ lA B,by omega,by omega,?_,?_,?_,K.take 1⟩ (by omega)⟩
      ·rw [if_neg (by omega)]
      ·show (match kF D a e gen number N k with | none=>none | some o=>if a+(k:Int)<e∧jZ (aX D (a+(k:Int))) gen number (k:Int) N=true then some (o ++ lA (aX D (a+(k:Int)))) else none)=_
       rw [xO]
       show (if a+(k:Int)<e∧jZ (aX D (a+(k:Int))) gen number (k:Int) N=true then some (o ++ lA (aX D (a+(k:Int)))) else none)=_
       rw [hB,if_pos ⟨by omega,by rw [vL,ha]; rfl⟩]
      ·rw [List.length_append]; omega
   refine cN (fun wk=>?_) fun wk=>?_
   ·have wk:=of_decide_eq_true wk
    refine K.au 3 rfl (an q 3) rfl ?_
    have e0:=hNk (by omega)
    show go2 (dV B).parts w6
    rw [← e0]
    exact step K
   ·have wk:=of_decide_eq_false wk
    rw [if_neg (by omega)]
    exact step K
 ·have Lw:(max N 1).toNat=k:=by
   split at cI <;> omega
  rw [Lw,xO] at hT
  have wk:k≠0:=by
   intro e0
   rw [if_pos e0] at cI
   omega
  refine ite_false (decide_eq_false cI) ?_
  rw [← ab8]
  refine aC (XC o.length (by omega) w2) ?_
  rintro _ w3 ⟨rfl,e3⟩
  rw [e3]
  have vS:bM o.length≤100000:=by
   unfold bM
   split
   ·omega
   ·omega
  refine cr ⟨⟨by omega,by omega⟩,?_⟩
  rw [hT]
  exact ⟨out,by first | rfl | (rw [← ab8]; rfl),H⟩
def fT (D:aU) (a:Int):Int×Int×Bool:=if gU D a=0∧mo (aX D a)=true∧(dV (aX D a)).part=0 then ((dV (aX D a)).gen,(dV (aX D a)).number,true) else (0,0,false)
theorem aim {w:World} {p:Nat} {s:gB} {D:aU} {m:Nat} (h:gY w p s D) (hD:D.ok m) (a:Int):Ok Pr Qh [.pointer (some ⟨p,0,none⟩),.int .i64 a] w fun v w'=>v=.tuple ⟨[.int .i64 (fT D a).1,.int .i64 (fT D a).2.1,.bool (fT D a).2.2]⟩∧Mod [] w w':=by
 refine ahl ?_
 unfold QG
 refine aC (XB h hD a) ?_
 rintro _ w1 ⟨y,er,rfl,H⟩
 refine ⟨_,rfl,dP ⟨rfl,?_⟩⟩
 have he:eR w1 er (gU D a):=H.ok 1 _ rfl
 refine he.isNil ?_
 by_cases h0:gU D a=0
 case neg=>
  refine ite_true (by rw [decide_eq_false h0]; rfl) ⟨?_,H.mod⟩
  unfold fT
  rw [if_neg (fun hc=>h0 hc.1)]
 have qD:DV D a=aX D a:=by unfold DV; rw [if_pos h0]; rfl
 rw [qD] at H
 have hi:0≤a∧a<(D.now.length:Int):=by
  unfold gU at h0; split at h0
  ·assumption
  ·omega
 have nS:(aX D a).length=512:=hD.DA _ (wU (by omega))
 refine ite_false (by rw [decide_eq_true h0]; rfl) ?_
 have hP:fT D a=if gU D a=0∧mo (aX D a)=true∧(dV (aX D a)).part=0 then ((dV (aX D a)).gen,(dV (aX D a)).number,true) else (0,0,false):=rfl
 generalize fT D a=X at *
 generalize aX D a=B at *
 refine aC (XO y B nS w1 (H.bytes 0 rfl)) ?_
 rintro _ w2 ⟨rfl,m2⟩
 have K:=H.frame m2
 rw [Tp]
 refine ⟨_,rfl,WZ ⟨mo B,rfl,rfl,K.nw fun q w5 K _=>K.oJ 2 rfl rfl fun w6 K=>?_⟩⟩
 have K:aq w [] w6 [.row aM 1 y (aL B),aB.err er (gU D a),.av q (dV B).cs lM]:=K
 refine K.au 2 rfl (an q 2) rfl (cN (fun hc=>?_) fun hc=>?_)
 ·simp only [Bool.or_eq_true,Bool.not_eq_true',decide_eq_false_iff_not] at hc
  rw [if_neg (fun hx=>by
   rcases hc with hc | hc
   ·rw [hx.2.1] at hc; cases hc
   ·exact hc hx.2.2)] at hP
  rw [hP]
  exact ⟨rfl,K.mod⟩
 ·simp only [Bool.or_eq_false_iff,Bool.not_eq_false',decide_eq_true_eq] at hc
  rw [if_pos ⟨h0,hc.1,hc.2⟩] at hP
  rw [hP]
  have D2:=K.drew
  exact D2.au 2 rfl (an q 0) rfl (D2.au 2 rfl (an q 1) rfl ⟨rfl,D2.mod⟩)
end Go.Proofs.YtpchgbolambkcaaGreatDoor
end
section
set_option linter.unusedVariables false
set_option linter.unusedSimpArgs false
namespace Go.Proofs.YtpchgbolambkcaaGreatDoor
open Go Go.Ev
set_option maxRecDepth 20000
set_option linter.unusedVariables false
theorem Rq {t:aJ} (h:dh t=true):t.clock≤1099511627776∧0≤t.clock∧t.fy.length=32∧1≤t.bq.length∧iw t.bq=true∧(1≤t.aE.length∧t.aE.length≤6)∧t.keys.length≤6∧sE t.cM=true:=by
 unfold dh Dz aW at h
 simp only [Bool.and_eq_true,decide_eq_true_eq] at h
 obtain ⟨⟨h1,h2,h3,h4,h5,h6,h7⟩,_⟩:=h
 exact ⟨h1.2,h1.1,h2,h3,h4,⟨by omega,by omega⟩,h6,h7⟩
theorem ain (e:Value) (c:Int) (hc:c≠0) (w:World) (hg:Laid w) (h:eR w e c):Ok Pr Cv [e] w fun v w'=>v=.int .i64 c∧Mod [] w w':=by
 rcases h with ⟨_,h⟩ | ⟨b,s,rfl,hb,_⟩
 ·exact absurd h hc
 ·exact X5 b c w hg (by rw [hb.cell]; rfl)
def zP (w w':World) (v:Value) (T:aJ) (c:Int) (R:rz):Prop:=
 ∃ s ys zs fp fq y z er,v=.tuple ⟨[.agg ⟨T.cs s⟩,.agg ⟨gx c R.id y z⟩,er]⟩∧aq w [] w' (kA s T ys zs fp fq ++ [.cut y R.dG,.cut z R.ex,aB.err er c])
theorem ZK {w w':World} {b:Nat} {cs:List Value} {t:TypeId} (h:bQ w b cs t) (h':bQ w' b cs t) (n:Nat):kept ⟨b,0,none⟩ n w w':=fun j _=>by rw [an,h.cell,h'.cell]
theorem aq.amV {w0 w:World} {S:List Nat} {L:List aB} (H:aq w0 S w L):aq w0 S w (L ++ [aB.err .nilIface 0]):=
 H.push (Mod.refl _ _) (.inl ⟨rfl,rfl⟩) (fun b hb=>by cases hb)
def zQ (B C:Int):Int:=if B=0 then C else B
theorem aio (s:cL) (t:aJ) (q:bL) (sd:ah) (w:World) (hg:Laid w) {B C1:Int} {qk:bL} {ow:Int} {t1 T1:aJ} {R1:rz}
  (aoC:∀ {w1},Mod [] w w1→Ok Pr IT [.agg ⟨t.cs s⟩,.agg ⟨q.cells⟩,.slice sd.a sd.n sd.c] w1 fun v w'=>SW w1 w' v B qk ow t1 sd)
  (G8:B=0→∀ {w0 w1:World} {S:List Nat} {b:Nat} {s:cL} {ys zs:List ah} {fp fq:List Nat},(∀ {w'},Mod S w0 w'→Mod [] w w')→aq w0 S w1 (lY b qk t1 s ow sd ys zs fp fq)→
   Ok Pr IJ [.pointer (some ⟨b,0,none⟩)] w1 fun v w'=>DU w0 S w' v b T1 R1 C1) :
  Ok Pr EP [.agg ⟨t.cs s⟩,.agg ⟨q.cells⟩,.slice sd.a sd.n sd.c] w fun v w'=>zP w w' v (if zQ B C1=0 then T1 else bK) (zQ B C1) (if zQ B C1=0 then R1 else ⟨0,[],[]⟩):=by
 refine ahR ?_
 unfold Rm
 rw [lV,wM]
 have hC:zQ B C1=if B=0 then C1 else B:=rfl
 generalize zQ B C1=C at *
 obtain ⟨T,hT⟩:∃ T,T=if C=0 then T1 else bK:=⟨_,rfl⟩
 obtain ⟨R,hR⟩:∃ R:rz,R=if C=0 then R1 else ⟨0,[],[]⟩:=⟨_,rfl⟩
 rw [← hT,← hR]
 refine (aq.start w).nw fun p w1 H _=>H.nw fun p1 w2 H _=>H.nw fun p2 w3 H _=>H.nw fun p3 w4 H _=>?_
 have H:aq w [] w4 [.av p (t.cs s) aA,.av p1 q.cells dx,.av p2 (bK.cs sZ) aA,.av p3 (gx 0 0 ⟨none,0,0⟩ ⟨none,0,0⟩) eH]:=H
 refine H.aG 0 rfl (H.dD 1 rfl (aC (aoC H.mod) ?_))
 rintro _ w5 ⟨pj,er,rfl,Ht,m5,aoD⟩
 refine ⟨_,rfl,pj,rfl,rfl,?_⟩
 refine oL fun p4 w6 UT UQ m6 _=>?_
 refine gm fun go bX=>?_
 have fail:∀ {w7:World} (e:Value),C≠0→aq w [] w7 [.av p2 (bK.cs sZ) aA,.av p3 (gx 0 0 ⟨none,0,0⟩ ⟨none,0,0⟩) eH,aB.err e C]→go e w7:=by
  intro w7 e hc K
  rw [if_neg hc] at hT hR
  subst hT hR
  have he:eR w7 e C:=K.ok 2 _ rfl
  refine bX _ _ (he.isNil (ite_true (by rw [decide_eq_false hc]; rfl) (aC (ain e C hc w7 (hg.gS K (by simp)) he) ?_)))
  rintro _ w8 ⟨rfl,m8⟩
  have K:=K.frame m8
  refine ⟨_,rfl,K.aV 0 rfl rfl fun w9 K=>K.ew 1 rfl rfl fun dN K=>K.aG 0 rfl (K.eX 1 rfl ?_)⟩
  refine ⟨sZ,[],[],[],[],⟨none,0,0⟩,⟨none,0,0⟩,e,rfl,?_⟩
  exact (KV (RW K)).eu (L':=kA sZ bK [] [] [] [] ++ [.cut ⟨none,0,0⟩ [],.cut ⟨none,0,0⟩ [],aB.err e C]) [3,4,5,6,7,8,9,10,11,2] (by decide) rfl
 refine Ht.1.isNil ?_
 by_cases h0:B=0
 case neg=>
  rw [if_neg h0] at hC
  refine ite_false (decide_eq_false h0) ?_
  have K:=(H.jY m5 Ht).frame m6
  exact fail er (by rw [hC]; exact h0) (K.eu [2,3,4] (by decide) (by rw [hC]; rfl))
 rw [if_pos h0] at hC
 have A5:er=.nilIface:=aaj (h0 ▸ Ht.1)
 subst A5
 obtain ⟨b,s',ys,zs,fp,fq,rfl,J⟩:=aoD h0
 have K:=((H.join J).frame (Mod.refl [] _)).push (r:=.av p4 (gx 0 0 ⟨none,0,0⟩ ⟨none,0,0⟩) eH) m6 UQ (by simp [aB.av,UT])
 have K:aq w [] w6 (lY b qk t1 s' ow sd ys zs fp fq ++ [.av p2 (bK.cs sZ) aA,.av p3 (gx 0 0 ⟨none,0,0⟩ ⟨none,0,0⟩) eH,.av p4 (gx 0 0 ⟨none,0,0⟩ ⟨none,0,0⟩) eH]):=K.eu [4,5,6,7,8,9,10,11,2,3,12] (by decide) rfl
 refine ite_true (decide_eq_true h0) (aC (G8 h0 (fun m=>K.mod.trans' m K.F3) K.sub) ?_)
 rintro _ gH ⟨rc,ri,y,z,er,rfl,h1,h2⟩
 refine ⟨_,rfl,zW ⟨rfl,?_⟩⟩
 rw [← hC] at h1 h2
 by_cases hc:C=0
 ·obtain ⟨rfl,rfl,rfl,q',s2,BI,wm,DW,DX,Hx,Hy,G⟩:=h2 hc
  rw [if_pos hc] at hT hR
  rw [← hT,← hR] at G
  rw [← hR]
  have G:=K.back G
  have G:aq w [] gH [.av b (TU q' T s2 BI wm) Jo,.row aM 1 s2.sec (aL T.fy),.row cZ 3 s2.ten (gM T.bq),.row dJ 6 s2.gr (gX T.cM),.row ey 5 s2.aE (bP cv.cs T.aE DW),.box Hx fun w=>br lE w DW T.aE,.row bW 4 s2.key (bP ct.cs T.keys DX),.box Hy fun w=>br qI w DX T.keys,.cut y R.dG,.cut z R.ex,.av p2 (bK.cs sZ) aA,.av p3 (gx 0 0 ⟨none,0,0⟩ ⟨none,0,0⟩) eH,.av p4 (gx 0 0 ⟨none,0,0⟩ ⟨none,0,0⟩) eH]:=G
  refine G.ew 12 rfl rfl fun kN G=>bX _ _ (aov ?_)
  have G:=G.drew
  refine alX G 0 rfl (G.eX 12 rfl (G.aV 10 rfl rfl fun nv E=>⟨ZK (G.av 12 rfl) (E.av 12 rfl) 4,E.ew 11 rfl rfl fun mN E=>E.aG 10 rfl (E.eX 11 rfl ?_)⟩))
  refine ⟨s2,DW,DX,Hx,Hy,y,z,.nilIface,by rw [hc]; rfl,?_⟩
  rw [hc]
  exact (aq.amV E).eu (L':=kA s2 T DW DX Hx Hy ++ [.cut y R.dG,.cut z R.ex,aB.err .nilIface 0]) [1,2,3,4,5,6,7,8,9,13] (by decide) rfl
 ·have G:=K.back (h1 hc)
  refine G.ew 3 rfl rfl fun kN G=>fail er hc (G.eu [1,2,0] (by decide) rfl)
end Go.Proofs.YtpchgbolambkcaaGreatDoor
end
section
set_option linter.unusedVariables false
set_option linter.unusedSimpArgs false
namespace Go.Proofs.YtpchgbolambkcaaGreatDoor
open Go Go.Ev
set_option maxRecDepth 20000
set_option linter.unusedVariables false
theorem ahU (x:ah) (ts:List bZ) (hl:ts.length≤1000000) (a:Int) (w:World) (hx:fE w x ts):Ok Pr Pq [.slice x.a x.n x.c,.int .i64 a] w fun v w'=>abC w w' v (mT ts a):=by
 refine agC ?_
 unfold PM
 have cH:=hx.len
 cases hm:iw ts with
 | false=>
  have e:mT ts a=[]:=by unfold mT; rw [hm]; rfl
  rw [e]
  refine tG (fun _ (out:ah) w'=>out=⟨none,0,0⟩∧w'=w) (fun _ _ _=>0) ⟨rfl,rfl⟩ ?_
  rintro again b out w2 ⟨rfl,rfl⟩ aR
  refine iB fun go bX=>aC (I6 x ts hl w2 hx) ?_
  rintro _ w3 ⟨rfl,m3⟩
  rw [hm]
  exact bh (ite_false rfl ⟨⟨none,0,0⟩,rfl,Own.nil _ _ _ _,m3⟩)
 | true=>
  obtain ⟨h8,vL⟩:=Su hm
  have hP:mT ts a=lN ts (ts.length+1) a:=by unfold mT; rw [if_pos hm]
  have hPl:=JH ts (ts.length+1) a
  rw [hP]
  generalize To:lN ts (ts.length+1) a=full at *
  refine tG (fun (b:Int) (out:ah) w'=>∃ (f:Nat) (pre:List Int),pre ++ lN ts f b=full∧(aW 1 (ts.length:Int) b=true→b.toNat<f)∧aq w [] w' [.row bn 1 out (dw pre)]) (fun b _ _=>b.toNat)
   ⟨ts.length+1,[],To,fun h=>by unfold aW at h; simp only [Bool.and_eq_true,decide_eq_true_eq] at h; omega,by simpa [dw] using (aq.start w).jC bn 1⟩ ?_
  rintro again b out w2 ⟨f,pre,ru,hf,H⟩ aR
  refine iB fun go bX=>aC (I6 x ts hl w2 (hx.aI H.mod)) ?_
  rintro _ w3 ⟨rfl,m3⟩
  rw [hm]
  have H:=H.frame m3
  refine bh (ite_true rfl (aC (Es x ts b _ (hx.aI H.mod)) ?_))
  rintro _ w4 ⟨rfl,hw⟩
  subst hw
  refine bh ?_
  cases dM:aW 1 (ts.length:Int) b with
  | false=>
   have e:lN ts f b=[]:=by
    cases f with
    | zero=>rfl
    | succ f=>unfold lN; rw [dM]; rfl
   rw [e,List.append_nil] at ru
   subst ru
   exact ite_false rfl ⟨out,rfl,H.mC 0 rfl,H.mod⟩
  | true=>
   have cI:=hf dM
   obtain ⟨g,rfl⟩:∃ g,f=g+1:=⟨f - 1,by omega⟩
   have e:lN ts (g+1) b=b :: lN ts g (ts.getD (b - 1).toNat tz).par:=by
    show (if aW 1 (ts.length:Int) b=true then b :: lN ts g (ts.getD (b - 1).toNat tz).par else [])=_
    rw [if_pos dM]
   rw [e] at ru
   unfold aW at dM
   simp only [Bool.and_eq_true,decide_eq_true_eq] at dM
   obtain ⟨j,hj⟩:∃ j:Nat,b - 1=(j:Int):=⟨(b - 1).toNat,by omega⟩
   rw [hj,Int.toNat_natCast] at ru
   obtain ⟨q1,q2,q3⟩:=vL j (by omega)
   have Gw:=(H.dz 0 rfl).len
   have anB:pre.length≤full.length:=by rw [← ru]; simp
   refine ite_true rfl (bX _ (H.aby 0 ZC rfl (by omega) fun TR w5 H _=>⟨⟨by omega,by omega⟩,?_⟩))
   rw [hj]
   obtain ⟨cU,hc⟩:=(hx.aI H.mod).at (i:=j) (by omega)
   refine ⟨cU,_,hc 1 _ rfl,aR _ TR w5 ⟨g,pre ++ [b],by rw [List.append_assoc]; exact ru,fun h=>?_,H⟩ ?_⟩
   ·omega
   ·show ((ts.getD j tz).par).toNat<b.toNat
    omega
theorem ahn (x:ah) (ts:List bZ) (hl:ts.length≤1000) (a b:Int) (w:World) (hx:fE w x ts):Ok Pr OC [.slice x.a x.n x.c,.int .i64 a,.int .i64 b] w fun v w'=>v=.bool (wR ts a b)∧Mod [] w w':=by
 refine afT ?_
 unfold OS
 refine aC (ahU x ts (by omega) b w hx) ?_
 rintro _ w1 ⟨y,rfl,hy,m1⟩
 have vS:=Y3 ts b hl
 have hy:=hy.dz
 have gW:=hy.len
 have eA:wR ts a b=(mT ts b).any fun y=>decide (a=y):=rfl
 rw [eA]
 generalize mT ts b=l at *
 refine dP (ep 0 l.length (fun i w'=>(l.take i).any (fun y=>decide (a=y))=false∧w'=w1) rfl (by omega) ⟨rfl,rfl⟩ ?_ ?_)
 ·rintro again i w2 _ hi ⟨hn,rfl⟩ aR
  have h1:=yh (fun y=>decide (a=y)) l i hi 0
  have h2:=xZ (fun y=>decide (a=y)) l i hi 0
  refine ite_true (decide_eq_true (by omega)) (hy.ld (i:=i) hi rfl ?_)
  by_cases h:l.getD i 0=a
  ·exact ite_true (decide_eq_true h) ⟨by rw [h1 (decide_eq_true h.symm)],m1⟩
  ·exact ite_false (decide_eq_false h) ⟨⟨by omega,by omega⟩,aR _ ⟨by rw [h2,hn,decide_eq_false fun f=>h f.symm]; rfl,rfl⟩⟩
 ·rintro again w2 ⟨hn,rfl⟩
  rw [List.take_of_length_le (Nat.le_refl _)] at hn
  exact ite_false (decide_eq_false (by omega)) ⟨by rw [hn],m1⟩
end Go.Proofs.YtpchgbolambkcaaGreatDoor
end
section
set_option linter.unusedVariables false
set_option linter.unusedSimpArgs false
namespace Go.Proofs.YtpchgbolambkcaaGreatDoor
open Go Go.Ev
set_option maxRecDepth 20000
set_option linter.unusedVariables false
theorem aip (x:ah) (ts:List bZ) (hl:ts.length≤1000000) (par:Int) (name:ByteArray) (w:World) (hx:fE w x ts):Ok Pr Qo [.slice x.a x.n x.c,.int .i64 par,.string name] w fun v w'=>∃ y:ah,v=.tuple ⟨[.slice y.a y.n y.c,.int .i64 (yV ts par name),.int .i64 (kV ts par name)]⟩∧aq w [] w' [.row cZ 3 y (gM (vM ts par name))]:=by
 refine ahe ?_
 unfold QD
 have cH:=hx.len
 have hC:kV ts par name=if iw ts=true then (if aW 1 (ts.length:Int) par=true then (if mD name=true then (if ts.any (jK par name)=true then 13 else if ts.length=8 then 12 else 0) else 2) else 9) else 2:=rfl
 have hT:vM ts par name=if kV ts par name=0 then ts ++ [⟨(ts.length:Int)+1,par,name⟩] else []:=rfl
 have hI:yV ts par name=if kV ts par name=0 then (ts.length:Int)+1 else 0:=rfl
 generalize kV ts par name=C at *
 generalize vM ts par name=T at *
 generalize yV ts par name=I at *
 have no:∀ {w3:World} (c:Int),Mod [] w w3→c≠0→C=c→∃ y:ah,Value.tuple ⟨[.slice none 0 0,.int .i64 0,.int .i64 c]⟩=.tuple ⟨[.slice y.a y.n y.c,.int .i64 I,.int .i64 C]⟩∧aq w [] w3 [.row cZ 3 y (gM T)]:=by
  intro w3 c m hc zI
  rw [zI,if_neg hc] at hT hI
  subst hT hI
  rw [zI]
  exact ⟨⟨none,0,0⟩,rfl,((aq.start w).jC cZ 3).frame m⟩
 refine aC (I6 x ts hl w hx) ?_
 rintro _ w1 ⟨rfl,m1⟩
 refine bh ?_
 cases h1:iw ts with
 | false=>
  rw [h1,if_neg (by decide)] at hC
  exact ite_true rfl (no 2 m1 (by decide) hC)
 | true=>
  rw [h1,if_pos rfl] at hC
  have h88:=(Su h1).1
  refine ite_false rfl (aC (Es x ts par _ (hx.aI m1)) ?_)
  rintro _ w2 ⟨rfl,hw⟩
  subst hw
  refine bh ?_
  cases h2:aW 1 (ts.length:Int) par with
  | false=>
   rw [h2,if_neg (by decide)] at hC
   exact ite_true rfl (no 9 m1 (by decide) hC)
  | true=>
   rw [h2,if_pos rfl] at hC
   refine ite_false rfl ?_
   by_cases h3:1≤name.size∧name.size≤300
   case neg=>
    have e:mD name=false:=Bool.eq_false_iff.2 fun f=>h3 (by
     unfold mD aW at f
     simp only [Bool.and_eq_true,decide_eq_true_eq] at f
     omega)
    rw [e,if_neg (by decide)] at hC
    refine ite_true ?_ (no 2 m1 (by decide) hC)
    simp only [Bool.or_eq_true,decide_eq_true_eq]; omega
   have e:mD name=true:=by
    unfold mD aW
    simp only [Bool.and_eq_true,decide_eq_true_eq]; omega
   rw [e,if_pos rfl] at hC
   refine ite_false (by simp only [Bool.or_eq_false_iff,decide_eq_false_iff_not]; omega) ?_
   refine ep 0 ts.length (fun i w'=>(ts.take i).any (jK par name)=false∧w'=w2) rfl (by omega) ⟨rfl,rfl⟩ ?_ ?_
   ·rintro again i w3 _ hi ⟨hn,rfl⟩ aR
    obtain ⟨cU,hc⟩:=(hx.aI m1).at hi
    have q1:=yh (jK par name) ts i hi tz
    have q2:=xZ (jK par name) ts i hi tz
    generalize ts.getD i tz=t at *
    have yes:jK par name t=true→∃ y:ah,Value.tuple ⟨[.slice none 0 0,.int .i64 0,.int .i64 13]⟩=.tuple ⟨[.slice y.a y.n y.c,.int .i64 I,.int .i64 C]⟩∧aq w [] w3 [.row cZ 3 y (gM T)]:=fun h=>by
     rw [q1 h,if_pos rfl] at hC
     exact no 13 m1 (by decide) hC
    have on:jK par name t=false→aH ((i:Int)+1)∧again ((i:Int)+1) w3:=fun h=>⟨⟨by omega,by omega⟩,aR _ ⟨by rw [q2,hn,h]; rfl,rfl⟩⟩
    refine ite_true (decide_eq_true (by omega)) (gm fun go bX=>⟨cU,_,hc 1 _ rfl,?_⟩)
    by_cases hp:t.par=par
    ·refine ite_true (decide_eq_true hp) ⟨cU,_,hc 2 _ rfl,bX _ _ ?_⟩
     by_cases hq:t.name=name
     ·exact ite_true (decide_eq_true hq) (yes (by unfold jK; rw [decide_eq_true hp,decide_eq_true hq]; rfl))
     ·exact ite_false (decide_eq_false hq) (on (by unfold jK; rw [decide_eq_false hq,Bool.and_false]))
    ·exact ite_false (decide_eq_false hp) (bX _ _ (ite_false rfl (on (by unfold jK; rw [decide_eq_false hp]; rfl))))
   ·rintro again w3 ⟨hn,rfl⟩
    rw [List.take_of_length_le (Nat.le_refl _)] at hn
    rw [hn,if_neg (by decide)] at hC
    refine ite_false (decide_eq_false (by omega)) ?_
    by_cases h8:ts.length=8
    ·rw [if_pos h8] at hC
     exact ite_true (decide_eq_true (by omega)) (no 12 m1 (by decide) hC)
    rw [if_neg h8] at hC
    rw [hC,if_pos rfl] at hT hI
    subst hT hI
    rw [hC]
    have H:=(aq.start w).frame m1
    refine ite_false (decide_eq_false (by omega)) (H.clone AD (hx.aI m1).sl (vo bZ.jM _ _) (by omega) (by omega) fun y w5 H hy=>⟨⟨by omega,by omega⟩,?_⟩)
    rw [show ((x.n:Nat):Int)+1=(ts.length:Int)+1 by omega]
    refine H.vJ 0 AD rfl rfl (by intro u hu; exact bZ.jM ⟨(ts.length:Int)+1,par,name⟩ ⟨none,0,0⟩ u hu) (by omega) (by omega) fun y' w6 H _=>⟨⟨by omega,by omega⟩,y',rfl,?_⟩
    rw [RV]
    exact H
end Go.Proofs.YtpchgbolambkcaaGreatDoor
end
section
set_option linter.unusedVariables false
set_option linter.unusedSimpArgs false
namespace Go.Proofs.YtpchgbolambkcaaGreatDoor
open Go Go.Ev
set_option maxRecDepth 100000
set_option linter.unusedVariables false
def Ow (bz:Int) (bA bB:ah) (bH bI bJ:ah) (jn jo:Int) (jq jr:Int) (js jt:Int) (ju jv:Int) (jw jx iV:Int) (iW:ByteArray) (iX iY iZ:ah) (w:World) (R:Value→World→Prop):Prop:=
 nw aA (aT bz bA bB bH bI bJ) w fun a b=>
 nw cV (kQ jn jo jq jr js jt ju jv jw jx iV iW iX iY iZ) b fun c d=>
 nw aA (zc Pr aA) d fun e f=>
 nw eH (zc Pr eH) f fun g i=>
 au .i64 (Addr.add (Addr.add c 0) 2) i fun j=>
 az (!decide (j=14))
 (aG a i fun k l m n o p=>
 dD (Addr.add c 0) i fun q s t u v x y z A B C D E F=>
 ay (Addr.add c 14) i fun G=>
 ax Pr QY [.agg ⟨aT k l m n o p⟩,.agg ⟨dW q s t u v x y z A B C D E F⟩,.slice G.a G.n G.c] i fun I J=>
 bU.bY I fun L=>
 aD L fun M N=>
 ez M fun O Q S T U V=>
 aD N fun X Y=>
 qh X fun Z aa ba ca=>
 aD Y fun da ea=>
 aF .i64 da fun fa=>
 (ea=[]∧
 aV e O Q S T U V J fun ga=>
 ew g Z aa ba ca ga fun ia=>
 aG e ia fun ja ka la ma na oa=>
 eX g ia fun pa qa sa ta=>
 R (.tuple ⟨[.agg ⟨aT ja ka la ma na oa⟩,.agg ⟨jI pa qa sa ta⟩,.int .i64 fa]⟩) ia))
 (au .i64 (Addr.add (Addr.add c 0) 10) i fun ua=>
 nw dx (zc Pr dx) i fun va xa=>
 rX va 0 0 14 0 0 0 0 0 0 0 ua eO ⟨none,0,0⟩ ⟨none,0,0⟩ xa fun ya=>
 aG a ya fun za Aa Ba Ca Da Ea=>
 au .i64 (Addr.add (Addr.add c 0) 10) ya fun Fa=>
 ax Pr ah6 [.agg ⟨aT za Aa Ba Ca Da Ea⟩,.int .i64 Fa] ya fun Ga Ia=>
 bU.bY Ga fun Ja=>
 aD Ja fun La Ma=>
 ez La fun Na Oa Qa Sa Ta Ua=>
 aD Ma fun Va Xa=>
 aF .i64 Va fun Ya=>
 aD Xa fun Za ab=>
 aF .i64 Za fun bb=>
 (ab=[]∧
 nw aA (zc Pr aA) Ia fun cb db=>
 aV cb Na Oa Qa Sa Ta Ua db fun eb=>
 fD (fun (fb:Int)=>[(10,some (.int .i64 fb))])
 (fun fb gb=>az (!decide (fb=0))
 (aV e 0 ⟨none,0,0⟩ ⟨none,0,0⟩ ⟨none,0,0⟩ ⟨none,0,0⟩ ⟨none,0,0⟩ gb fun ib=>
 ew g fb 0 ⟨none,0,0⟩ ⟨none,0,0⟩ ib fun jb=>
 aG e jb fun kb lb mb nb ob pb=>
 eX g jb fun qb sb tb ub=>
 R (.tuple ⟨[.agg ⟨aT kb lb mb nb ob pb⟩,.agg ⟨jI qb sb tb ub⟩,.int .i64 fb]⟩) jb)
 (aG cb gb fun vb xb yb zb Ab Bb=>
 aV e vb xb yb zb Ab Bb gb fun Cb=>
 ew g 0 0 ⟨none,0,0⟩ ⟨none,0,0⟩ Cb fun Db=>
 aG e Db fun Eb Fb Gb Ib Jb Lb=>
 eX g Db fun Mb Nb Ob Qb=>
 R (.tuple ⟨[.agg ⟨aT Eb Fb Gb Ib Jb Lb⟩,.agg ⟨jI Mb Nb Ob Qb⟩,.int .i64 0]⟩) Db))
 (fun Sb=>
 dD (Addr.add c 0) eb fun Tb Ub Vb Xb Yb Zb ac bc cc dc ec fc gc ic=>
 dD va eb fun jc kc lc mc nc oc pc qc sc tc uc vc xc yc=>
 ax Pr ah7 [.agg ⟨dW Tb Ub Vb Xb Yb Zb ac bc cc dc ec fc gc ic⟩,.agg ⟨dW jc kc lc mc nc oc pc qc sc tc uc vc xc yc⟩] eb fun Ac Bc=>
 aQ Ac fun Cc=>
 ay (Addr.add c 14) Bc fun Dc=>
 az ((!Cc) || (!decide ((Dc.n:Int)=0)))
 (Sb 2 Bc)
 (Sb bb Bc))))
theorem afB {bz:Int} {bA bB:ah} {bH bI bJ:ah} {jn jo:Int} {jq jr:Int} {js jt:Int} {ju jv:Int} {jw jx iV:Int} {iW:ByteArray} {iX iY iZ:ah} {w:World} {R:Value→World→Prop} (h:Ow bz bA bB bH bI bJ jn jo jq jr js jt ju jv jw jx iV iW iX iY iZ w R):Ok Pr NW [.agg ⟨aT bz bA bB bH bI bJ⟩,.agg ⟨kQ jn jo jq jr js jt ju jv jw jx iV iW iX iY iZ⟩] w R:=
 aP (m:=⟨true,true⟩) (J:=[(7,[(10,.int .i64)])]) (L:=[]) aN Tryz.func32 (by kernel_rfl) ((by kernel_rfl:aO Pr _ _ _ Tryz.f32 _ w R=Ow bz bA bB bH bI bJ jn jo jq jr js jt ju jv jw jx iV iW iX iY iZ w R).mpr h)
def Rr (bz:Int) (bA bB:ah) (bH bI bJ:ah) (bD bE:Int) (bF bG:Int) (bS bT:Int) (cB cC:Int) (cD cE cx:Int) (cy:ByteArray) (cz cA bV:ah) (w:World) (R:Value→World→Prop):Prop:=
 nw aA (aT bz bA bB bH bI bJ) w fun a b=>
 nw dx (dW bD bE bF bG bS bT cB cC cD cE cx cy cz cA) b fun c d=>
 nw aA (zc Pr aA) d fun e f=>
 nw eH (zc Pr eH) f fun g i=>
 aG a i fun j k l m n o=>
 dD c i fun p q s t u v x y z A B C D E=>
 ax Pr Qm [.agg ⟨aT j k l m n o⟩,.agg ⟨dW p q s t u v x y z A B C D E⟩] i fun F G=>
 aF .i64 F fun I=>
 az (!decide (I=0))
 (aV e 0 ⟨none,0,0⟩ ⟨none,0,0⟩ ⟨none,0,0⟩ ⟨none,0,0⟩ ⟨none,0,0⟩ G fun J=>
 ew g I 0 ⟨none,0,0⟩ ⟨none,0,0⟩ J fun L=>
 aG e L fun M N O Q S T=>
 eX g L fun U V X Y=>
 R (.tuple ⟨[.agg ⟨aT M N O Q S T⟩,.agg ⟨jI U V X Y⟩,.int .i64 I]⟩) L)
 (aG a G fun Z aa ba ca da ea=>
 ax Pr I3 [.agg ⟨aT Z aa ba ca da ea⟩] G fun fa ga=>
 ez fa fun ia ja ka la ma na=>
 nw aA (zc Pr aA) ga fun oa pa=>
 aV oa ia ja ka la ma na pa fun qa=>
 nw eH (zc Pr eH) qa fun sa ta=>
 fD (fun (ua:Int)=>[(9,some (.int .i64 ua))])
 (fun ua va=>az (!decide (ua=0))
 (aV e 0 ⟨none,0,0⟩ ⟨none,0,0⟩ ⟨none,0,0⟩ ⟨none,0,0⟩ ⟨none,0,0⟩ va fun xa=>
 ew g ua 0 ⟨none,0,0⟩ ⟨none,0,0⟩ xa fun ya=>
 aG e ya fun za Aa Ba Ca Da Ea=>
 eX g ya fun Fa Ga Ia Ja=>
 R (.tuple ⟨[.agg ⟨aT za Aa Ba Ca Da Ea⟩,.agg ⟨jI Fa Ga Ia Ja⟩,.int .i64 ua]⟩) ya)
 (ay (Addr.add oa 3) va fun La=>
 au .i64 (Addr.add c 0) va fun Ma=>
 (aH (Ma - 1)∧
 aZ La.a (Ma - 1) La.n
 (B5 (Addr.add (base La.a) (Int.toNat (Ma - 1) * 5)) va fun Na Oa Qa Sa Ta=>
 nw ey (zc Pr ey) va fun Ua Va=>
 p9 Ua Na Oa Qa Sa Ta Va fun Xa=>
 ay (Addr.add oa 3) (World.drew Xa) fun Ya=>
 au .i64 (Addr.add c 0) (World.drew Xa) fun Za=>
 (aH (Za - 1)∧
 ay (Addr.add oa 3) (World.drew Xa) fun ab=>
 au .i64 (Addr.add c 0) (World.drew Xa) fun bb=>
 (aH (bb - 1)∧
 au .i64 (Addr.add Ua 3) (World.drew Xa) fun cb=>
 au .u64 (Addr.add Ua 4) (World.drew Xa) fun db=>
 au .i64 (Addr.add c 1) (World.drew Xa) fun eb=>
 ax Pr Jm (qv cb db eb) (World.drew Xa) fun fb gb=>
 bU.bY fb fun ib=>
 aD ib fun jb kb=>
 aF .i64 jb fun lb=>
 aD kb fun mb nb=>
 aF .u64 mb fun ob=>
 aD nb fun pb qb=>
 aF .i64 pb fun sb=>
 (qb=[]∧
 (kept (Addr.add c 0) 1 (World.drew Xa) gb∧
 (kept (Addr.add oa 3) 1 (World.drew Xa) gb∧
 (kept (Addr.add c 0) 1 (World.drew Xa) gb∧
 (kept (Addr.add oa 3) 1 (World.drew Xa) gb∧
 aZ Ya.a (Za - 1) Ya.n
 (st (Addr.add (Addr.add (base Ya.a) (Int.toNat (Za - 1) * 5)) 3) (.int .i64 lb) gb fun tb=>
 (kept (Addr.add c 0) 1 gb tb∧
 (kept (Addr.add oa 3) 1 gb tb∧
 aZ ab.a (bb - 1) ab.n
 (st (Addr.add (Addr.add (base ab.a) (Int.toNat (bb - 1) * 5)) 4) (.int .u64 ob) tb fun ub=>
 aG oa (World.drew ub) fun vb xb yb zb Ab Bb=>
 eX sa (World.drew ub) fun Cb Db Eb Fb=>
 aV e vb xb yb zb Ab Bb (World.drew ub) fun Gb=>
 (kept sa 4 (World.drew ub) Gb∧
 ew g Cb Db Eb Fb Gb fun Ib=>
 aG e Ib fun Jb Lb Mb Nb Ob Qb=>
 eX g Ib fun Sb Tb Ub Vb=>
 R (.tuple ⟨[.agg ⟨aT Jb Lb Mb Nb Ob Qb⟩,.agg ⟨jI Sb Tb Ub Vb⟩,.int .i64 0]⟩) Ib))))))))))))))))
 (fun Xb=>
 au .i64 (Addr.add c 2) ta fun Yb=>
 az (decide (Yb≤3))
 (aG oa ta fun Zb ac bc cc dc ec=>
 dD c ta fun fc gc ic jc kc lc mc nc oc pc qc sc tc uc=>
 ax Pr Oy [.agg ⟨aT Zb ac bc cc dc ec⟩,.agg ⟨dW fc gc ic jc kc lc mc nc oc pc qc sc tc uc⟩,.slice bV.a bV.n bV.c] ta fun vc xc=>
 bU.bY vc fun yc=>
 aD yc fun Ac Bc=>
 ez Ac fun Cc Dc Ec Fc Gc Ic=>
 aD Bc fun Jc Lc=>
 qh Jc fun Mc Nc Oc Qc=>
 aD Lc fun Sc Tc=>
 aF .i64 Sc fun Uc=>
 (Tc=[]∧
 aV oa Cc Dc Ec Fc Gc Ic xc fun Vc=>
 ew sa Mc Nc Oc Qc Vc fun Xc=>
 Xb Uc Xc))
 (au .i64 (Addr.add c 2) ta fun Yc=>
 az (decide (Yc=13))
 (ay (Addr.add oa 5) ta fun Zc=>
 au .i64 (Addr.add c 7) ta fun bd=>
 ax Pr agU [.slice Zc.a Zc.n Zc.c,.int .i64 bd] ta fun cd dd=>
 bU.bY cd fun ed=>
 aD ed fun fd gd=>
 aK fd fun jd=>
 aD gd fun kd ld=>
 aF .i64 kd fun md=>
 (ld=[]∧
 st (Addr.add oa 5) (.slice jd.a jd.n jd.c) dd fun nd=>
 Xb md nd))
 (aG oa ta fun od pd qd sd td ud=>
 dD c ta fun vd xd yd zd Ad Bd Cd Dd Ed Fd Gd Id Jd Ld=>
 ax Pr ahx [.agg ⟨aT od pd qd sd td ud⟩,.agg ⟨dW vd xd yd zd Ad Bd Cd Dd Ed Fd Gd Id Jd Ld⟩,.slice bV.a bV.n bV.c] ta fun Md Od=>
 bU.bY Md fun Qd=>
 aD Qd fun Sd Td=>
 ez Sd fun Ud Vd Xd Yd Zd ae=>
 aD Td fun be ce=>
 qh be fun de ee fe ge=>
 aD ce fun ie je=>
 aF .i64 ie fun ke=>
 (je=[]∧
 aV oa Ud Vd Xd Yd Zd ae Od fun le=>
 ew sa de ee fe ge le fun me=>
 Xb ke me)))))
theorem ahV {bz:Int} {bA bB:ah} {bH bI bJ:ah} {bD bE:Int} {bF bG:Int} {bS bT:Int} {cB cC:Int} {cD cE cx:Int} {cy:ByteArray} {cz cA bV:ah} {w:World} {R:Value→World→Prop} (h:Rr bz bA bB bH bI bJ bD bE bF bG bS bT cB cC cD cE cx cy cz cA bV w R):Ok Pr QY [.agg ⟨aT bz bA bB bH bI bJ⟩,.agg ⟨dW bD bE bF bG bS bT cB cC cD cE cx cy cz cA⟩,.slice bV.a bV.n bV.c] w R:=
 aP (m:=⟨true,true⟩) (J:=[(11,[(9,.int .i64)])]) (L:=[]) aN Tryz.func74 (by kernel_rfl) ((by kernel_rfl:aO Pr _ _ _ Tryz.f74 _ w R=Rr bz bA bB bH bI bJ bD bE bF bG bS bT cB cC cD cE cx cy cz cA bV w R).mpr h)
def QJ (bz:Int) (bA bB:ah) (bH bI bJ:ah) (bD bE:Int) (bF bG:Int) (bS bT:Int) (cB cC:Int) (cD cE cx:Int) (cy:ByteArray) (cz cA:ah) (w:World) (R:Value→World→Prop):Prop:=
 nw aA (aT bz bA bB bH bI bJ) w fun a b=>
 nw dx (dW bD bE bF bG bS bT cB cC cD cE cx cy cz cA) b fun c d=>
 iJ []
 (fun e=>ay (Addr.add a 3) e fun f=>
 au .i64 (Addr.add c 0) e fun g=>
 (aH (g - 1)∧
 aZ f.a (g - 1) f.n
 (B5 (Addr.add (base f.a) (Int.toNat (g - 1) * 5)) e fun i j k l m=>
 nw ey (zc Pr ey) e fun n o=>
 p9 n i j k l m o fun p=>
 au .i64 (Addr.add n 3) p fun q=>
 au .u64 (Addr.add n 4) p fun s=>
 au .i64 (Addr.add c 1) p fun t=>
 ax Pr Jm (qv q s t) p fun u v=>
 bU.bY u fun x=>
 aD x fun y z=>
 aF .i64 y fun A=>
 aD z fun B C=>
 aF .u64 B fun D=>
 aD C fun E F=>
 aF .i64 E fun G=>
 (F=[]∧
 az (!decide (G=0))
 (R (.int .i64 G) v)
 (aG a v fun I J L M N O=>
 dD c v fun Q S T U V X Y Z aa ba ca da ea fa=>
 ax Pr OB [.agg ⟨aT I J L M N O⟩,.agg ⟨dW Q S T U V X Y Z aa ba ca da ea fa⟩] v fun ga ia=>
 aQ ga fun ja=>
 az (!ja)
 (R (.int .i64 9) ia)
 (ay (Addr.add a 2) (World.drew ia) fun ka=>
 au .i64 (Addr.add n 1) (World.drew ia) fun la=>
 aG a (World.drew ia) fun ma na oa pa qa sa=>
 dD c (World.drew ia) fun ta ua va xa ya za Aa Ba Ca Da Ea Fa Ga Ia=>
 ax Pr OD [.agg ⟨aT ma na oa pa qa sa⟩,.agg ⟨dW ta ua va xa ya za Aa Ba Ca Da Ea Fa Ga Ia⟩] (World.drew ia) fun Ja La=>
 aF .i64 Ja fun Ma=>
 (kept (Addr.add n 1) 1 (World.drew ia) La∧
 (kept (Addr.add a 2) 1 (World.drew ia) La∧
 ax Pr OC (sr ka la Ma) La fun Na Oa=>
 aQ Na fun Qa=>
 az Qa
 (R (.int .i64 0) Oa)
 (au .i64 (Addr.add c 2) Oa fun Sa=>
 au .i64 (Addr.add c 2) Oa fun Ta=>
 au .i64 (Addr.add c 2) Oa fun Ua=>
 az (((!decide (Sa=9)) && (!decide (Ta=10))) && (!decide (Ua=11)))
 (R (.int .i64 10) Oa)
 (ay (Addr.add a 5) Oa fun Va=>
 ay (Addr.add a 1) Oa fun Xa=>
 ay (Addr.add c 13) Oa fun Ya=>
 ax Pr ahy (CY Va Xa Ya) Oa fun Za ab=>
 bU.bY Za fun bb=>
 aD bb fun cb db=>
 Pu cb fun eb fb gb ib jb kb=>
 aD db fun lb mb=>
 aF .i64 lb fun nb=>
 (mb=[]∧
 nw dJ (zc Pr dJ) ab fun ob pb=>
 tw ob eb fb gb ib jb kb pb fun qb=>
 az (!decide (nb=0))
 (R (.int .i64 nb) qb)
 (qm ob qb fun sb tb ub vb xb yb=>
 au .i64 (Addr.add c 4) qb fun zb=>
 au .i64 (Addr.add c 0) qb fun Ab=>
 au .i64 (Addr.add c 2) qb fun Bb=>
 au .i64 (Addr.add a 0) qb fun Cb=>
 ax Pr agV [.agg ⟨pz sb tb ub vb xb yb⟩,.int .i64 zb,.int .i64 Ab,.int .i64 Bb,.int .i64 Cb] qb fun Db Eb=>
 aF .i64 Db fun Fb=>
 R (.int .i64 Fb) Eb))))))))))))
 (fun Gb=>
 fD (fun (Ib:Bool)=>[(11,some (.bool Ib))])
 (fun Ib Jb=>az Ib
 (R (.int .i64 2) Jb)
 (au .i64 (Addr.add c 0) Jb fun Lb=>
 ay (Addr.add a 3) Jb fun Mb=>
 az (decide ((Mb.n:Int)<Lb))
 (R (.int .i64 6) Jb)
 (Gb Jb)))
 (fun Nb=>
 aG a d fun Ob Qb Sb Tb Ub Vb=>
 ax Pr yq [.agg ⟨aT Ob Qb Sb Tb Ub Vb⟩] d fun Xb Yb=>
 aQ Xb fun Zb=>
 dD c Yb fun ac bc cc dc ec fc gc ic jc kc lc mc nc oc=>
 az (!Zb)
 (Nb true Yb)
 (ax Pr Qn [.agg ⟨dW ac bc cc dc ec fc gc ic jc kc lc mc nc oc⟩] Yb fun pc qc=>
 aQ pc fun sc=>
 Nb (!sc) qc)))
theorem aho {bz:Int} {bA bB:ah} {bH bI bJ:ah} {bD bE:Int} {bF bG:Int} {bS bT:Int} {cB cC:Int} {cD cE cx:Int} {cy:ByteArray} {cz cA:ah} {w:World} {R:Value→World→Prop} (h:QJ bz bA bB bH bI bJ bD bE bF bG bS bT cB cC cD cE cx cy cz cA w R):Ok Pr Qm [.agg ⟨aT bz bA bB bH bI bJ⟩,.agg ⟨dW bD bE bF bG bS bT cB cC cD cE cx cy cz cA⟩] w R:=
 aP (m:=⟨true,true⟩) (J:=[(5,[]),(2,[(11,.bool)])]) (L:=[]) aN Tryz.func108 (by kernel_rfl) ((by kernel_rfl:aO Pr _ _ _ Tryz.f108 _ w R=QJ bz bA bB bH bI bJ bD bE bF bG bS bT cB cC cD cE cx cy cz cA w R).mpr h)
def O4 (bz:Int) (bA bB:ah) (bH bI bJ:ah) (bD bE:Int) (bF bG:Int) (bS bT:Int) (cB cC:Int) (cD cE cx:Int) (cy:ByteArray) (cz cA bV:ah) (w:World) (R:Value→World→Prop):Prop:=
 nw aA (aT bz bA bB bH bI bJ) w fun a b=>
 nw dx (dW bD bE bF bG bS bT cB cC cD cE cx cy cz cA) b fun c d=>
 nw aA (zc Pr aA) d fun e f=>
 nw eH (zc Pr eH) f fun g i=>
 au .i64 (Addr.add c 2) i fun j=>
 az (decide (j=1))
 (ay (Addr.add a 2) i fun k=>
 au .i64 (Addr.add c 3) i fun l=>
 dR (Addr.add c 11) i fun m=>
 ax Pr Qo (AH k l m) i fun n o=>
 bU.bY n fun p=>
 aD p fun q s=>
 aK q fun t=>
 aD s fun u v=>
 aF .i64 u fun x=>
 aD v fun y z=>
 aF .i64 y fun B=>
 (z=[]∧
 st (Addr.add a 2) (.slice t.a t.n t.c) o fun C=>
 aG a C fun D E F G I J=>
 aV e D E F G I J C fun L=>
 ew g 0 x ⟨none,0,0⟩ ⟨none,0,0⟩ L fun M=>
 aG e M fun N O Q S T U=>
 eX g M fun V X Y Z=>
 R (.tuple ⟨[.agg ⟨aT N O Q S T U⟩,.agg ⟨jI V X Y Z⟩,.int .i64 B]⟩) M))
 (az (decide (j=2))
 (ax Pr IS [.int .i64 1] i fun aa ba=>
 bU.bY aa fun ca=>
 aD ca fun da ea=>
 aF .i64 da fun fa=>
 aD ea fun ga ia=>
 aF .i64 ga fun ja=>
 aD ia fun ka la=>
 aF .i64 ka fun ma=>
 (la=[]∧
 ay (Addr.add c 12) ba fun na=>
 az (!decide ((na.n:Int)=fa))
 (aG a ba fun oa pa qa sa ta ua=>
 aV e oa pa qa sa ta ua ba fun va=>
 ew g 0 0 ⟨none,0,0⟩ ⟨none,0,0⟩ va fun xa=>
 aG e xa fun ya za Aa Ba Ca Da=>
 eX g xa fun Ea Fa Ga Ia=>
 R (.tuple ⟨[.agg ⟨aT ya za Aa Ba Ca Da⟩,.agg ⟨jI Ea Fa Ga Ia⟩,.int .i64 3]⟩) xa)
 (ay (Addr.add a 3) ba fun Ja=>
 az (decide (6≤(Ja.n:Int)))
 (aG a ba fun La Ma Na Oa Qa Sa=>
 aV e La Ma Na Oa Qa Sa ba fun Ta=>
 ew g 0 0 ⟨none,0,0⟩ ⟨none,0,0⟩ Ta fun Ua=>
 aG e Ua fun Va Xa Ya Za ab bb=>
 eX g Ua fun cb db eb fb=>
 R (.tuple ⟨[.agg ⟨aT Va Xa Ya Za ab bb⟩,.agg ⟨jI cb db eb fb⟩,.int .i64 12]⟩) Ua)
 (ay (Addr.add a 3) ba fun gb=>
 (aH ((gb.n:Int)+1)∧
 lt (A:=Int) ((gb.n:Int)+1) fun ib=>
 ay (Addr.add a 3) (World.drew ba) fun jb=>
 au .i64 (Addr.add c 3) (World.drew ba) fun kb=>
 ay (Addr.add c 12) (World.drew ba) fun lb=>
 cS Pr [bp,bp] bp [.slice none 0 0,.slice lb.a lb.n lb.c] (World.drew ba) fun mb nb=>
 (kept (Addr.add c 3) 1 (World.drew ba) nb∧
 (kept (Addr.add a 3) 1 (World.drew ba) nb∧
 nw ey (RQ ib kb mb 0 0) nb fun ob pb=>
 (kept (Addr.add a 3) 1 nb pb∧
 cS Pr [nE,nE] nE [.slice jb.a jb.n jb.c,.slice (some ob) 1 1] pb fun qb sb=>
 st (Addr.add a 3) (.slice qb.a qb.n qb.c) sb fun tb=>
 aG a tb fun ub vb xb yb zb Ab=>
 aV e ub vb xb yb zb Ab tb fun Bb=>
 ew g 0 ib ⟨none,0,0⟩ ⟨none,0,0⟩ Bb fun Cb=>
 aG e Cb fun Db Eb Fb Gb Ib Jb=>
 eX g Cb fun Lb Mb Nb Ob=>
 R (.tuple ⟨[.agg ⟨aT Db Eb Fb Gb Ib Jb⟩,.agg ⟨jI Lb Mb Nb Ob⟩,.int .i64 0]⟩) Cb))))))))
 (au .i64 (Addr.add c 6) i fun Qb=>
 au .i64 (Addr.add c 6) i fun Sb=>
 az ((decide (Qb<1)) || (decide (3<Sb)))
 (aG a i fun Tb Ub Vb Xb Yb Zb=>
 aV e Tb Ub Vb Xb Yb Zb i fun ac=>
 ew g 0 0 ⟨none,0,0⟩ ⟨none,0,0⟩ ac fun bc=>
 aG e bc fun cc dc ec fc gc ic=>
 eX g bc fun jc kc lc mc=>
 R (.tuple ⟨[.agg ⟨aT cc dc ec fc gc ic⟩,.agg ⟨jI jc kc lc mc⟩,.int .i64 2]⟩) bc)
 (az (!decide ((bV.n:Int)=64))
 (aG a i fun nc oc pc qc sc tc=>
 aV e nc oc pc qc sc tc i fun uc=>
 ew g 0 0 ⟨none,0,0⟩ ⟨none,0,0⟩ uc fun vc=>
 aG e vc fun xc yc Ac Bc Cc Dc=>
 eX g vc fun Ec Fc Gc Ic=>
 R (.tuple ⟨[.agg ⟨aT xc yc Ac Bc Cc Dc⟩,.agg ⟨jI Ec Fc Gc Ic⟩,.int .i64 3]⟩) vc)
 (ay (Addr.add a 4) i fun Jc=>
 az (decide (6≤(Jc.n:Int)))
 (aG a i fun Lc Mc Nc Oc Qc Sc=>
 aV e Lc Mc Nc Oc Qc Sc i fun Tc=>
 ew g 0 0 ⟨none,0,0⟩ ⟨none,0,0⟩ Tc fun Uc=>
 aG e Uc fun Vc Xc Yc Zc bd cd=>
 eX g Uc fun dd ed fd gd=>
 R (.tuple ⟨[.agg ⟨aT Vc Xc Yc Zc bd cd⟩,.agg ⟨jI dd ed fd gd⟩,.int .i64 12]⟩) Uc)
 (ay (Addr.add a 4) i fun jd=>
 (aH ((jd.n:Int)+1)∧
 au .i64 (Addr.add c 3) i fun kd=>
 au .i64 (Addr.add c 6) i fun ld=>
 ax Pr aiz (fu ((jd.n:Int)+1) kd ld bV) i fun md nd=>
 bU.bY md fun od=>
 aD od fun pd qd=>
 Cx pd fun sd td ud vd=>
 aD qd fun xd yd=>
 aF .i64 xd fun zd=>
 (yd=[]∧
 nw bW (zc Pr bW) nd fun Ad Bd=>
 kR Ad sd td ud vd Bd fun Cd=>
 iI Ad Cd fun Dd Ed Fd Gd=>
 ax Pr agW [.agg ⟨fu Dd Ed Fd Gd⟩,.int .i64 1] Cd fun Id Jd=>
 bU.bY Id fun Ld=>
 aD Ld fun Md Od=>
 aK Md fun Qd=>
 aD Od fun Sd Td=>
 aF .i64 Sd fun Ud=>
 (Td=[]∧
 ay (Addr.add a 4) Jd fun Vd=>
 iI Ad Jd fun Xd Yd Zd ae=>
 nw bW (fu Xd Yd Zd ae) Jd fun be ce=>
 cS Pr [nH,nH] nH [.slice Vd.a Vd.n Vd.c,.slice (some be) 1 1] ce fun de ee=>
 st (Addr.add a 4) (.slice de.a de.n de.c) ee fun fe=>
 aG a (World.drew fe) fun ge ie je ke le me=>
 au .i64 (Addr.add Ad 0) (World.drew fe) fun ne=>
 aV e ge ie je ke le me (World.drew fe) fun oe=>
 (kept (Addr.add Ad 0) 1 (World.drew fe) oe∧
 ew g 0 ne Qd ⟨none,0,0⟩ oe fun pe=>
 aG e pe fun qe se te ue ve xe=>
 eX g pe fun ye ze Ae Be=>
 R (.tuple ⟨[.agg ⟨aT qe se te ue ve xe⟩,.agg ⟨jI ye ze Ae Be⟩,.int .i64 zd]⟩) pe)))))))))
theorem af5 {bz:Int} {bA bB:ah} {bH bI bJ:ah} {bD bE:Int} {bF bG:Int} {bS bT:Int} {cB cC:Int} {cD cE cx:Int} {cy:ByteArray} {cz cA bV:ah} {w:World} {R:Value→World→Prop} (h:O4 bz bA bB bH bI bJ bD bE bF bG bS bT cB cC cD cE cx cy cz cA bV w R):Ok Pr Oy [.agg ⟨aT bz bA bB bH bI bJ⟩,.agg ⟨dW bD bE bF bG bS bT cB cC cD cE cx cy cz cA⟩,.slice bV.a bV.n bV.c] w R:=
 aP (m:=⟨true,true⟩) (J:=[]) (L:=[]) aN Tryz.func109 (by kernel_rfl) ((by kernel_rfl:aO Pr _ _ _ Tryz.f109 _ w R=O4 bz bA bB bH bI bJ bD bE bF bG bS bT cB cC cD cE cx cy cz cA bV w R).mpr h)
def O5 (bz:Int) (bA bB:ah) (bH bI bJ:ah) (bD bE:Int) (bF bG:Int) (bS bT:Int) (cB cC:Int) (cD cE cx:Int) (cy:ByteArray) (cz cA:ah) (w:World) (R:Value→World→Prop):Prop:=
 nw aA (aT bz bA bB bH bI bJ) w fun a b=>
 nw dx (dW bD bE bF bG bS bT cB cC cD cE cx cy cz cA) b fun c d=>
 au .i64 (Addr.add c 2) d fun e=>
 ax Pr IU [.int .i64 e] d fun f g=>
 bU.bY f fun i=>
 aD i fun j k=>
 aQ j fun l=>
 aD k fun m n=>
 aQ m fun o=>
 aD n fun p q=>
 aQ p fun s=>
 aD q fun t u=>
 aQ t fun v=>
 aD u fun x y=>
 aQ x fun z=>
 (y=[]∧
 iJ []
 (fun A=>iJ []
 (fun B=>au .i64 (Addr.add c 7) B fun C=>
 au .i64 (Addr.add c 7) B fun D=>
 ay (Addr.add a 5) B fun E=>
 au .i64 (Addr.add c 8) B fun F=>
 au .i64 (Addr.add c 8) B fun G=>
 ay (Addr.add a 3) B fun I=>
 R (.bool (((!v) || ((decide (1≤C)) && (decide (D≤(E.n:Int))))) && ((!z) || ((decide (1≤F)) && (decide (G≤(I.n:Int))))))) B)
 (fun J=>
 az s
 (fD (fun (L:Bool)=>[(11,some (.bool L))])
 (fun L M=>az (!L)
 (R (.bool false) M)
 (J M))
 (fun N=>
 ay (Addr.add a 4) (World.drew A) fun O=>
 au .i64 (Addr.add c 4) (World.drew A) fun Q=>
 (aH (Q - 1)∧
 aZ O.a (Q - 1) O.n
 (iI (Addr.add (base O.a) (Int.toNat (Q - 1) * 4)) (World.drew A) fun S T U V=>
 au .i64 (Addr.add c 5) (World.drew A) fun X=>
 ((ax Pr XJ [.agg ⟨fu S T U V⟩,.int .i64 X] (World.drew A) fun Y Z=>
 bU.bY Y fun aa=>
 aD aa fun ba ca=>
 IL ba fun da ea fa ga=>
 aD ca fun ia ja=>
 aQ ia fun ka=>
 (ja=[]∧
 nw eW (zc Pr eW) Z fun la ma=>
 (kept (Addr.add c 5) 1 Z ma∧
 (kept (Addr.add (base O.a) (Int.toNat (Q - 1) * 4)) 4 Z ma∧
 (kept (Addr.add c 4) 1 Z ma∧
 (kept (Addr.add a 4) 1 Z ma∧
 rT la da ea fa ga ma fun na=>
 N ka na))))))∧
 (nw eW (zc Pr eW) (World.drew A) fun oa pa=>
 (kept (Addr.add c 5) 1 (World.drew A) pa∧
 (kept (Addr.add (base O.a) (Int.toNat (Q - 1) * 4)) 4 (World.drew A) pa∧
 (kept (Addr.add c 4) 1 (World.drew A) pa∧
 (kept (Addr.add a 4) 1 (World.drew A) pa∧
 ax Pr XJ [.agg ⟨fu S T U V⟩,.int .i64 X] pa fun qa sa=>
 bU.bY qa fun ta=>
 aD ta fun ua va=>
 IL ua fun xa ya za Aa=>
 aD va fun Ba Ca=>
 aQ Ba fun Da=>
 (Ca=[]∧
 rT oa xa ya za Aa sa fun Ea=>
 N Da Ea)))))))))))
 (J A)))
 (fun Fa=>
 ay (Addr.add a 2) g fun Ga=>
 au .i64 (Addr.add c 3) g fun Ia=>
 az l
 (ax Pr zZ [.slice Ga.a Ga.n Ga.c,.int .i64 Ia] g fun Ja La=>
 aQ Ja fun Ma=>
 au .i64 (Addr.add c 4) La fun Na=>
 au .i64 (Addr.add c 4) La fun Oa=>
 ay (Addr.add a 4) La fun Qa=>
 az ((!Ma) || (o && ((decide (Na<1)) || (decide ((Qa.n:Int)<Oa)))))
 (R (.bool false) La)
 (Fa La))
 (au .i64 (Addr.add c 4) g fun Sa=>
 au .i64 (Addr.add c 4) g fun Ta=>
 ay (Addr.add a 4) g fun Ua=>
 az (o && ((decide (Sa<1)) || (decide ((Ua.n:Int)<Ta))))
 (R (.bool false) g)
 (Fa g))))
theorem af6 {bz:Int} {bA bB:ah} {bH bI bJ:ah} {bD bE:Int} {bF bG:Int} {bS bT:Int} {cB cC:Int} {cD cE cx:Int} {cy:ByteArray} {cz cA:ah} {w:World} {R:Value→World→Prop} (h:O5 bz bA bB bH bI bJ bD bE bF bG bS bT cB cC cD cE cx cy cz cA w R):Ok Pr OB [.agg ⟨aT bz bA bB bH bI bJ⟩,.agg ⟨dW bD bE bF bG bS bT cB cC cD cE cx cy cz cA⟩] w R:=
 aP (m:=⟨true,true⟩) (J:=[(4,[]),(8,[]),(6,[(11,.bool)])]) (L:=[]) aN Tryz.func142 (by kernel_rfl) ((by kernel_rfl:aO Pr _ _ _ Tryz.f142 _ w R=O5 bz bA bB bH bI bJ bD bE bF bG bS bT cB cC cD cE cx cy cz cA w R).mpr h)
def O6 (bz:Int) (bA bB:ah) (bH bI bJ:ah) (bD bE:Int) (bF bG:Int) (bS bT:Int) (cB cC:Int) (cD cE cx:Int) (cy:ByteArray) (cz cA:ah) (w:World) (R:Value→World→Prop):Prop:=
 nw aA (aT bz bA bB bH bI bJ) w fun a b=>
 nw dx (dW bD bE bF bG bS bT cB cC cD cE cx cy cz cA) b fun c d=>
 au .i64 (Addr.add c 2) d fun e=>
 ax Pr IU [.int .i64 e] d fun f g=>
 bU.bY f fun i=>
 aD i fun j k=>
 aQ j fun l=>
 aD k fun m n=>
 aQ m fun o=>
 aD n fun p q=>
 aQ p fun s=>
 aD q fun t u=>
 aQ t fun v=>
 aD u fun x y=>
 aQ x fun z=>
 (y=[]∧
 az l
 (au .i64 (Addr.add c 3) g fun A=>
 R (.int .i64 A) g)
 (az o
 (ay (Addr.add a 4) g fun B=>
 au .i64 (Addr.add c 4) g fun C=>
 (aH (C - 1)∧
 aZ B.a (C - 1) B.n
 (au .i64 (Addr.add (Addr.add (base B.a) (Int.toNat (C - 1) * 4)) 1) g fun D=>
 R (.int .i64 D) g)))
 (ay (Addr.add a 4) (World.drew g) fun E=>
 ay (Addr.add a 5) (World.drew g) fun F=>
 au .i64 (Addr.add c 7) (World.drew g) fun G=>
 (aH (G - 1)∧
 aZ F.a (G - 1) F.n
 (au .i64 (Addr.add (Addr.add (base F.a) (Int.toNat (G - 1) * 6)) 1) (World.drew g) fun I=>
 (aH (I - 1)∧
 aZ E.a (I - 1) E.n
 (au .i64 (Addr.add (Addr.add (base E.a) (Int.toNat (I - 1) * 4)) 1) (World.drew g) fun J=>
 R (.int .i64 J) (World.drew g))))))))
theorem af7 {bz:Int} {bA bB:ah} {bH bI bJ:ah} {bD bE:Int} {bF bG:Int} {bS bT:Int} {cB cC:Int} {cD cE cx:Int} {cy:ByteArray} {cz cA:ah} {w:World} {R:Value→World→Prop} (h:O6 bz bA bB bH bI bJ bD bE bF bG bS bT cB cC cD cE cx cy cz cA w R):Ok Pr OD [.agg ⟨aT bz bA bB bH bI bJ⟩,.agg ⟨dW bD bE bF bG bS bT cB cC cD cE cx cy cz cA⟩] w R:=
 aP (m:=⟨true,true⟩) (J:=[]) (L:=[]) aN Tryz.func144 (by kernel_rfl) ((by kernel_rfl:aO Pr _ _ _ Tryz.f144 _ w R=O6 bz bA bB bH bI bJ bD bE bF bG bS bT cB cC cD cE cx cy cz cA w R).mpr h)
def O7 (op:Int) (w:World) (R:Value→World→Prop):Prop:=
 lt (A:=Bool) (((decide (op=1)) || (decide (op=2))) || (decide (op=3))) fun a=>
 lt (A:=Bool) ((decide (4≤op)) && (decide (op≤12))) fun b=>
 lt (A:=Bool) ((((decide (5≤op)) && (decide (op≤8))) || (decide (op=10))) || (decide (op=11))) fun c=>
 R (.tuple ⟨akj a b c (decide (op=13)) (decide (op=12))⟩) w
theorem af8 {op:Int} {w:World} {R:Value→World→Prop} (h:O7 op w R):Ok Pr IU [.int .i64 op] w R:=
 aP (m:=⟨true,true⟩) (J:=[]) (L:=[]) aN Tryz.func174 (by kernel_rfl) ((by kernel_rfl:aO Pr _ _ _ Tryz.f174 _ w R=O7 op w R).mpr h)
end Go.Proofs.YtpchgbolambkcaaGreatDoor
end
section
set_option linter.unusedVariables false
set_option linter.unusedSimpArgs false
namespace Go.Proofs.YtpchgbolambkcaaGreatDoor
open Go Go.Ev
set_option maxRecDepth 20000
set_option linter.unusedVariables false
theorem ajh {t:aJ} (h:dh t=true) {i:Nat} (hi:i<t.aE.length):oR t i (t.aE.getD i eJ)=true:=by
 unfold dh at h
 rw [Bool.and_eq_true,Bool.and_eq_true] at h
 cases e:oR t i (t.aE.getD i eJ) with
 | true=>rfl
 | false=>rw [Kc e _ hi] at h; exact absurd h.2.1 (by decide)
theorem ajS {q:bL} (h:iP q=true):1≤q.n2∧q.n2≤13:=by
 unfold iP aW at h
 simp only [Bool.and_eq_true,decide_eq_true_eq] at h
 exact h.2.2.1
theorem aji {q:bL} (h:iP q=true):1≤q.n0∧q.n0≤6:=by
 unfold iP aW at h
 simp only [Bool.and_eq_true,decide_eq_true_eq] at h
 exact h.1
def isKey (op:Int):Bool:=decide (4≤op) && decide (op≤12)
theorem Xm (op:Int) (w:World):Ok Pr IU [.int .i64 op] w fun v w'=>v=.tuple ⟨[.bool (yL op),.bool (isKey op),.bool (AS op),.bool (decide (op=13)),.bool (decide (op=12))]⟩∧w'=w:=by
 refine af8 ?_
 unfold O7
 refine yS (yS (yS ⟨?_,rfl⟩))
 have e1:((decide (op=1) || decide (op=2)) || decide (op=3))=yL op:=by unfold yL; rw [Bool.or_assoc]
 have e2:(((decide (5≤op) && decide (op≤8)) || decide (op=10)) || decide (op=11))=AS op:=by
  unfold AS
  rw [Bool.eq_iff_iff]
  simp only [Bool.or_eq_true,Bool.and_eq_true,decide_eq_true_eq]
  omega
 rw [e1,e2]; rfl
theorem ops {q:bL} (hq:iP q=true):(yL q.n2=true→isKey q.n2=false∧AS q.n2=false∧q.n2≠13∧q.n2≠12)∧(yL q.n2=false→q.n2≠13→isKey q.n2=true)∧(q.n2=13→isKey q.n2=false∧yL q.n2=false∧AS q.n2=false)∧(AS q.n2=true→q.n2≠13∧q.n2≠12)∧(isKey q.n2=true→yL q.n2=false∧q.n2≠13):=by
 have:=ajS hq
 unfold yL isKey AS
 refine ⟨fun h=>?_,fun h h2=>?_,fun h=>?_,fun h=>?_,fun h=>?_⟩ <;> simp only [Bool.or_eq_true,Bool.or_eq_false_iff,Bool.and_eq_true,Bool.and_eq_false_iff,decide_eq_true_eq,decide_eq_false_iff_not] at * <;> omega
end Go.Proofs.YtpchgbolambkcaaGreatDoor
end
section
set_option linter.unusedVariables false
set_option linter.unusedSimpArgs false
namespace Go.Proofs.YtpchgbolambkcaaGreatDoor
open Go Go.Ev
set_option maxRecDepth 20000
set_option linter.unusedVariables false
theorem akE {q:bL} {t:aJ} (hm:dh t=true) (hw:aW 1 (t.aE.length:Int) q.n0=true) (h:kU (dy q t).high (dy q t).used q.n1≠0):kU (dy q t).high (dy q t).used q.n1=8:=by
 obtain ⟨i,_,en,hi⟩:=Ap hw
 have hp:=ajh hm hi
 have e:dy q t=t.aE.getD i eJ:=by unfold dy; rw [en]
 unfold oR at hp
 simp only [Bool.and_eq_true] at hp
 rw [← e] at hp
 unfold kU at h ⊢
 rw [if_pos hp.2.2.2] at h ⊢
 split at h
 ·exact absurd rfl h
 ·rename_i h2; rw [if_neg h2]
end Go.Proofs.YtpchgbolambkcaaGreatDoor
end
section
set_option linter.unusedVariables false
set_option linter.unusedSimpArgs false
namespace Go.Proofs.YtpchgbolambkcaaGreatDoor
open Go Go.Ev
set_option maxRecDepth 20000
set_option linter.unusedVariables false
theorem _root_.Go.Ev.aq.amW {w0 w:World} {S:List Nat} {L:List aB} (H:aq w0 S w L) (j k:Nat) {fp:List Nat} {Q:World→Prop} {e:TypeId} {sz:Nat} {y:ah} {vs:List Value} (hj:L[j]? = some (.box fp Q)) (hk:L[k]? = some (.row e sz y vs)) (j6:j≠k) {Q':World→Prop}
  (h:∀ w2,Q w2→Own w2 0 e sz y vs→Q' w2):aq w0 S w ((L.set k .no).set j (.box (fp ++ y.row) Q')):=
 H.merge j k (t:=.box (fp ++ y.row) Q') hj hk j6 (fun h1 h2=>⟨fun b hb=>(List.mem_append.1 hb).elim (fun h=>h1.1 b h) (fun h=>(Own.tP h2 b h).2),
  fun w2 h3=>h w2 (h1.2 w2 fun b hb=>h3 b (List.mem_append_left _ hb)) ((aB.row e sz y vs).iu w w2 (fun b hb=>h3 b (List.mem_append_right _ hb)) h2)⟩) (fun b hb=>List.mem_append.1 hb)
theorem X6 {w w':World} {b:Nat} {cs:List Value} {t:TypeId} (h:bQ w b cs t) (h':bQ w' b cs t) (i n:Nat):kept (Addr.add ⟨b,0,none⟩ i) n w w':=fun j _=>by rw [an,tN,h.cell,h'.cell]
def Made (w0:World) (S:List Nat) (w':World) (v:Value) (T:aJ) (R:rz) (C:Int):Prop:=
 ∃ (T':aJ) (s:cL) (rc ri:Int) (y z:ah),v=.tuple ⟨[.agg ⟨T'.cs s⟩,.agg ⟨gx rc ri y z⟩,.int .i64 C]⟩∧aq w0 S w' []∧
  (C=0→T'=T∧rc=0∧ri=R.id∧∃ ys zs fp fq,aq w0 S w' (kA s T ys zs fp fq ++ [.cut y R.dG,.cut z R.ex]))
theorem akF {w0 w3:World} {S:List Nat} {L:List aB} {T T':aJ} {s':cL} {R:rz} {C:Int} {p2 p3:Nat} {ri:Int} {y z:ah} {c2 c3:List Value} (H:aq w0 S w3 L) (k2 k3:Nat) (h2:L[k2]? = some (.av p2 c2 aA)) (h3:(L.set k2 (.av p2 (T'.cs s') aA))[k3]? = some (.av p3 c3 eH)) (l2:c2.length=6) (l3:c3.length=4) (h23:k2≠k3)
  (hC:∀ w',aq w0 S w' ((L.set k2 (.av p2 (T'.cs s') aA)).set k3 (.av p3 (gx 0 ri y z) eH))→C=0→T'=T∧ri=R.id∧∃ ys zs fp fq,aq w0 S w' (kA s' T ys zs fp fq ++ [.cut y R.dG,.cut z R.ex])) :
  aV ⟨p2,0,none⟩ T'.clock s'.sec s'.ten s'.aE s'.key s'.gr w3 fun dN=>ew ⟨p3,0,none⟩ 0 ri y z dN fun fZ=>aG ⟨p2,0,none⟩ fZ fun g0 g1 g2 g3 g4 g5=>eX ⟨p3,0,none⟩ fZ fun r0 r1 r2 r3=>
   Made w0 S fZ (.tuple ⟨[.agg ⟨[.int .i64 g0,.slice g1.a g1.n g1.c,.slice g2.a g2.n g2.c,.slice g3.a g3.n g3.c,.slice g4.a g4.n g4.c,.slice g5.a g5.n g5.c]⟩,.agg ⟨[.int .i64 r0,.int .i64 r1,.slice r2.a r2.n r2.c,.slice r3.a r3.n r3.c]⟩,.int .i64 C]⟩) T R C:=by
 have pS:=(List.getElem?_eq_some_iff.1 h2).1
 have UU:=(List.getElem?_eq_some_iff.1 h3).1
 have e2:((L.set k2 (.av p2 (T'.cs s') aA)).set k3 (.av p3 (gx 0 ri y z) eH))[k2]? = some (.av p2 (mO T'.clock s'.sec s'.ten s'.aE s'.key s'.gr) aA):=by
  rw [List.getElem?_set,if_neg (by omega),List.getElem?_set,if_pos rfl,if_pos pS]; rfl
 have e3:((L.set k2 (.av p2 (T'.cs s') aA)).set k3 (.av p3 (gx 0 ri y z) eH))[k3]? = some (.av p3 (gx 0 ri y z) eH):=by
  rw [List.getElem?_set,if_pos rfl,if_pos UU]
 refine H.aV k2 h2 l2 fun dN H=>H.ew k3 h3 l3 fun fZ H=>H.aG k2 e2 (H.eX k3 e3 ?_)
 refine ⟨T',s',0,ri,y,z,rfl,H.take 0,fun h0=>?_⟩
 obtain ⟨a,b,c⟩:=hC fZ H h0
 exact ⟨a,rfl,b,c⟩
end Go.Proofs.YtpchgbolambkcaaGreatDoor
end
section
set_option linter.unusedVariables false
set_option linter.unusedSimpArgs false
namespace Go.Proofs.YtpchgbolambkcaaGreatDoor
open Go Go.Ev
set_option maxRecDepth 20000
set_option linter.unusedVariables false
theorem al1 {w0 w:World} {S:List Nat} {t:aJ} {s:cL} {ys zs:List ah} {fp fq:List Nat} {M:List aB} (H:aq w0 S w (kA s t ys zs fp fq ++ M)) {i:Nat} (hi:i<t.aE.length) :
  t.aE[i]? = some (t.aE.getD i eJ)∧(s.aE.a.isSome=true∧(0:Int)≤(i:Int)∧(i:Int)<(s.aE.n:Int))∧∃ x,ys[i]? = some x∧∀ (j:Nat) (v:Value),((t.aE.getD i eJ).cs x)[j]? = some v→w.cell? (Addr.add (Addr.add (base s.aE.a) (Int.toNat (i:Int) * 5)) j)=some v:=by
 have hk:t.aE[i]? = some (t.aE.getD i eJ):=by rw [List.getD_eq_getElem?_getD,List.getElem?_eq_getElem hi]; rfl
 have h:br lE w ys t.aE:=H.box 4 rfl
 have hr:=H.gQ 3 rfl
 have hl:=hr.len
 rw [kI cv.eo _ _ h.1] at hl
 have hx:ys[i]? = some (ys[i]'(by rw [h.1]; exact hi)):=List.getElem?_eq_getElem _
 refine ⟨hk,⟨hr.pre (by omega),by omega,by omega⟩,_,hx,fun j v hv=>?_⟩
 rw [Int.toNat_natCast]
 exact hr.Dp cv.eo hk hx hv
def F9 (w w':World) (v:Value) (T:aJ) (c:Int) (R:rz):Prop:=
 ∃ s ys zs fp fq y z,v=.tuple ⟨[.agg ⟨T.cs s⟩,.agg ⟨gx c R.id y z⟩,.int .i64 c]⟩∧aq w [] w' (kA s T ys zs fp fq ++ [.cut y R.dG,.cut z R.ex])
end Go.Proofs.YtpchgbolambkcaaGreatDoor
end
section
set_option linter.unusedVariables false
set_option linter.unusedSimpArgs false
namespace Go.Proofs.YtpchgbolambkcaaGreatDoor
open Go Go.Ev Go.RowKit
set_option maxRecDepth 20000
set_option linter.unusedVariables false
theorem ajT:((Pr.fieldsOf cZ).toList.map fun f=>(f.type,f.offset,decide (f.name= "_")))=[(bn,0,false),(bn,1,false),(so,2,false)]:=by kernel_rfl
theorem amX:Pr.underlying cZ=some (.struct (Pr.fieldsOf cZ)):=by kernel_rfl
theorem al2:Pr.stoodInHeld cZ=false:=by kernel_rfl
theorem akG:Pr.eqGuardType Pr.depth cZ=false:=by kernel_rfl
theorem akH (a b:Int) (n:ByteArray) (w:World):(Op.equalIn 10000 cZ (.agg ⟨lK a b n⟩) (.agg ⟨lK a b n⟩)).run Pr w=.ok true w:=by
 rw [show 10000=9999+1 from rfl,run_equalIn_struct w 9999 cZ _ _ amX al2]
 refine OW _ _ _ _ _ fun f hf=>?_
 have hm:(f.type,f.offset,decide (f.name= "_"))∈((Pr.fieldsOf cZ).toList.map fun f=>(f.type,f.offset,decide (f.name= "_"))):=List.mem_map_of_mem hf
 rw [ajT] at hm
 have hI:∀ z:Int,(Op.equalIn 9999 bn (.int .i64 z) (.int .i64 z)).run Pr w=.ok true w:=fun z=>by
  rw [show 9999=9998+1 from rfl,run_equalIn_int w 9998 bn .i64 .i64 z z aag]
  simp
 have hB:∀ z:ByteArray,(Op.equalIn 9999 so (.string z) (.string z)).run Pr w=.ok true w:=fun z=>by
  rw [show 9999=9998+1 from rfl,run_equalIn_string w 9998 so z z Rg]
  simp
 have q0:(Go.part bn ⟨lK a b n⟩ 0).run Pr w=.ok (.int .i64 a) w:=by kernel_rfl
 have q1:(Go.part bn ⟨lK a b n⟩ 1).run Pr w=.ok (.int .i64 b) w:=by kernel_rfl
 have q2:(Go.part so ⟨lK a b n⟩ 2).run Pr w=.ok (.string n) w:=by kernel_rfl
 simp only [List.mem_cons,List.not_mem_nil,or_false,Prod.mk.injEq,decide_eq_false_iff_not] at hm
 rcases hm with ⟨h1,h2,h3⟩ | ⟨h1,h2,h3⟩ | ⟨h1,h2,h3⟩
 ·rw [h1,h2]; exact ⟨_,h3,q0,q0,hI _⟩
 ·rw [h1,h2]; exact ⟨_,h3,q1,q1,hI _⟩
 ·rw [h1,h2]; exact ⟨_,h3,q2,q2,hB _⟩
theorem amY {a b:Int} {n:ByteArray} {w:World} {K:Bool→World→Prop} (h:K false w):Gu Pr .neq cZ (lK a b n) (lK a b n) w K:=by
 refine ⟨.bool false,w,?_,false,rfl,h⟩
 simp only [Sem.run_bind,run_eqGuard_agg w _ _ _ _ _ _ akG,Result.andThen,run_neq_struct,akH]
 rfl
theorem aeu (x y:ah) (l:List bZ) (w:World) (hx:fE w x l) (hy:fE w y l) (hl:l.length≤1000000):Ok Pr MK [.slice x.a x.n x.c,.slice y.a y.n y.c] w fun v w'=>v=.bool true∧Mod [] w w':=by
 refine ael ?_
 unfold MR
 have cH:=hx.len
 have gW:=hy.len
 refine ite_false (by rw [← cH,← gW]; simp) ?_
 refine ep 0 l.length (fun i w'=>Mod [] w w') rfl (by omega) (Mod.refl _ _) ?_ ?_
 ·intro again i w1 _ hi m aR
  have m':=m.trans (Mod.drew [] w1)
  obtain ⟨h1,c1⟩:=(hx.aI m').at hi
  obtain ⟨h2,c2⟩:=(hy.aI m').at hi
  exact ite_true (decide_eq_true (by omega)) ⟨h1,BX c1 ⟨h2,BX c2 (amY (ite_false rfl ⟨⟨by omega,by omega⟩,aR _ m'⟩))⟩⟩
 ·intro again w1 m
  exact ite_false (decide_eq_false (by omega)) ⟨rfl,m⟩
theorem aev (v:cJ) (x y:ah) (hl:v.bV.length≤1000000) (w:World) (hx:pI w x v) (hy:pI w y v):Ok Pr MM [.agg ⟨v.cs x⟩,.agg ⟨v.cs y⟩] w fun r w'=>r=.bool true∧Mod [] w w':=by
 refine aen ?_
 unfold MT
 refine (aq.start w).nw fun p w1 H _=>H.nw fun p1 w2 H _=>?_
 have H:aq w [] w2 [.av p (v.cs x) eW,.av p1 (v.cs y) eW]:=H
 refine H.au 0 rfl (an p 0) rfl (H.au 1 rfl (an p1 0) rfl (H.au 0 rfl (an p 1) rfl (H.au 1 rfl (an p1 1) rfl (H.au 0 rfl (an p 2) rfl (H.au 1 rfl (an p1 2) rfl (H.ay 0 rfl (an p 3) rfl (H.ay 1 rfl (an p1 3) rfl (ite_true (by simp) ?_))))))))
 refine aC (BV x y v.bV v.bV _ (Bytes.aI hx H.mod) (Bytes.aI hy H.mod) (by omega)) ?_
 rintro _ w3 ⟨rfl,m⟩
 exact bh ⟨by rw [decide_eq_true rfl],H.mod.trans m⟩
theorem afC (k:ct) (x y:ah) (hl:k.bu.length≤1000000) (ux:∀ v∈k.bu,v.bV.length≤1000000) (w:World) (hx:oQ w x k.bu) (hy:oQ w y k.bu):Ok Pr NZ [.agg ⟨k.cs x⟩,.agg ⟨k.cs y⟩] w fun r w'=>r=.bool true∧Mod [] w w':=by
 refine afu ?_
 unfold N6
 have cH:=hx.len
 have gW:=hy.len
 refine (aq.start w).nw fun p w1 H _=>H.nw fun p1 w2 H _=>?_
 have H:aq w [] w2 [.av p (k.cs x) bW,.av p1 (k.cs y) bW]:=H
 refine H.au 0 rfl (an p 0) rfl (H.au 1 rfl (an p1 0) rfl (H.au 0 rfl (an p 1) rfl (H.au 1 rfl (an p1 1) rfl (H.au 0 rfl (an p 2) rfl (H.au 1 rfl (an p1 2) rfl (H.ay 0 rfl (an p 3) rfl (H.ay 1 rfl (an p1 3) rfl (ite_false (by rw [← cH,← gW]; simp) ?_))))))))
 refine ep 0 k.bu.length (fun i w'=>aq w [] w' [.av p (k.cs x) bW,.av p1 (k.cs y) bW]) rfl (by omega) H ?_ ?_
 ·intro again i w3 _ hi H aR
  have D:=H.drew
  have hv:k.bu[i]? = some (k.bu.getD i vz):=by rw [List.getD_eq_getElem?_getD,List.getElem?_eq_getElem hi]; rfl
  obtain ⟨h1,u1,e1,c1⟩:=Dv.at cJ.eo (by omega) (hx.aI D.mod) hv
  obtain ⟨h2,u2,e2,c2⟩:=Dv.at cJ.eo (by omega) (hy.aI D.mod) hv
  refine H.ay 0 rfl (an p 3) rfl (ite_true (decide_eq_true (by omega)) (D.ay 0 rfl (an p 3) rfl ⟨h1,BW c1 (D.ay 1 rfl (an p1 3) rfl ⟨h2,BW c2 ?_⟩)⟩))
  refine aC (aev (k.bu.getD i vz) u1 u2 (ux _ (by rw [List.getD_eq_getElem?_getD,List.getElem?_eq_getElem hi]; exact List.getElem_mem hi)) _ e1 e2) ?_
  rintro _ w4 ⟨rfl,m⟩
  exact bh (ite_false rfl ⟨⟨by omega,by omega⟩,aR _ (D.frame m)⟩)
 ·intro again w3 H
  exact H.ay 0 rfl (an p 3) rfl (ite_false (decide_eq_false (by omega)) ⟨rfl,H.mod⟩)
theorem aeH (x y:ah) (l:List cv) (hl:l.length≤1000) (hk:∀ p∈l,p.key.length≤1000000) (w:World) (hx:we w x l) (hy:we w y l):Ok Pr M3 [.slice x.a x.n x.c,.slice y.a y.n y.c] w fun v w'=>v=.bool true∧Mod [] w w':=by
 refine aeB ?_
 unfold Nd
 have cH:=hx.len
 have gW:=hy.len
 refine ite_false (by rw [← cH,← gW]; simp) ?_
 refine ep 0 l.length (fun i w'=>Mod [] w w') rfl (by omega) (Mod.refl _ _) ?_ ?_
 ·intro again i w1 _ hi m aR
  have m':=m.trans (Mod.drew [] w1)
  obtain ⟨h1,u1,e1,c1⟩:=(hx.aI m').at hi
  obtain ⟨h2,u2,e2,c2⟩:=(hy.aI m').at hi
  refine ite_true (decide_eq_true (by omega)) ⟨h1,_,c1 0 _ rfl,h2,_,c2 0 _ rfl,ite_false (by simp) ⟨h1,_,c1 1 _ rfl,h2,_,c2 1 _ rfl,ite_false (by simp) ⟨h1,_,c1 3 _ rfl,h2,_,c2 3 _ rfl,ite_false (by simp) ⟨h1,_,c1 4 _ rfl,h2,_,c2 4 _ rfl,ite_false (by simp) ⟨h1,u1,c1 2 _ rfl,h2,u2,c2 2 _ rfl,?_⟩⟩⟩⟩⟩
  refine aC (BV u1 u2 _ _ _ e1 e2 (Nat.lt_of_le_of_lt (hk _ (by rw [List.getD_eq_getElem?_getD,List.getElem?_eq_getElem hi]; exact List.getElem_mem hi)) (by omega))) ?_
  rintro _ w2 ⟨rfl,m2⟩
  exact bh (ite_false (by simp) ⟨⟨by omega,by omega⟩,aR _ (m'.trans m2)⟩)
 ·intro again w1 m
  exact ite_false (decide_eq_false (by omega)) ⟨rfl,m⟩
end Go.Proofs.YtpchgbolambkcaaGreatDoor
end
section
set_option linter.unusedVariables false
set_option linter.unusedSimpArgs false
namespace Go.Proofs.YtpchgbolambkcaaGreatDoor
open Go Go.Ev
set_option maxRecDepth 20000
set_option linter.unusedVariables false
theorem wA (s1 s2:cL) (t:aJ) (hs:t.small) (w:World) (hx:bN w s1 t) (hy:bN w s2 t):Ok Pr tq [.agg ⟨t.cs s1⟩,.agg ⟨t.cs s2⟩] w fun v w'=>v=.bool true∧Mod [] w w':=by
 refine aeN ?_
 unfold Nu
 have lF:=hs.sec
 have rK:=hs.ten
 have sS:=hs.aE
 have DQ:=hs.key
 have xL:=hs.gr
 have mJ:=hx.key.len
 have pS:=hy.key.len
 refine (aq.start w).nw fun p w1 H _=>H.nw fun p1 w2 H _=>?_
 have H:aq w [] w2 [.av p (t.cs s1) aA,.av p1 (t.cs s2) aA]:=H
 refine iB fun go bX=>?_
 refine H.au 0 rfl (an p 0) rfl (H.au 1 rfl (an p1 0) rfl (H.ay 0 rfl (an p 1) rfl (H.ay 1 rfl (an p1 1) rfl (ite_false (by simp) ?_))))
 refine aC (BV s1.sec s2.sec t.fy t.fy _ (Bytes.aI hx.sec H.mod) (Bytes.aI hy.sec H.mod) (by omega)) ?_
 rintro _ w6 ⟨rfl,m6⟩
 have H:=H.frame m6
 refine bh (H.ay 0 rfl (an p 2) rfl (H.ay 1 rfl (an p1 2) rfl (ite_false (by simp) ?_)))
 refine aC (aeu s1.ten s2.ten t.bq _ (hx.ten.aI H.mod) (hy.ten.aI H.mod) (by omega)) ?_
 rintro _ w7 ⟨rfl,m7⟩
 have H:=H.frame m7
 refine bh (H.ay 0 rfl (an p 3) rfl (H.ay 1 rfl (an p1 3) rfl (ite_false rfl ?_)))
 refine aC (aeH s1.aE s2.aE t.aE sS hs.pk _ (hx.aE.aI H.mod) (hy.aE.aI H.mod)) ?_
 rintro _ w8 ⟨rfl,m8⟩
 have H:=H.frame m8
 refine bh (H.ay 0 rfl (an p 4) rfl (H.ay 1 rfl (an p1 4) rfl (H.ay 0 rfl (an p 5) rfl (H.ay 1 rfl (an p1 5) rfl (ite_false (by rw [← mJ,← pS]; simp) ?_)))))
 refine aC (aeF s1.gr s2.gr t.cM _ (hx.gr.aI H.mod) (hy.gr.aI H.mod) (by omega)) ?_
 rintro _ w9 ⟨rfl,m9⟩
 have H:=H.frame m9
 refine bh (ite_false rfl (bX w9 ?_))
 refine ep 0 t.keys.length (fun i w'=>aq w [] w' [.av p (t.cs s1) aA,.av p1 (t.cs s2) aA]) rfl (by omega) H ?_ ?_
 ·intro again i w4 _ hi H aR
  have D:=H.drew
  obtain ⟨h1,u1,e1,c1⟩:=(hx.key.aI D.mod).at hi
  obtain ⟨h2,u2,e2,c2⟩:=(hy.key.aI D.mod).at hi
  have nY:=Sy hs hi
  refine H.ay 0 rfl (an p 4) rfl (ite_true (decide_eq_true (by omega)) (D.ay 0 rfl (an p 4) rfl ⟨h1,wF c1 (D.ay 1 rfl (an p1 4) rfl ⟨h2,wF c2 ?_⟩)⟩))
  refine aC (afC (t.keys.getD i kz) u1 u2 (by omega) (hs.bV _ (by rw [List.getD_eq_getElem?_getD,List.getElem?_eq_getElem hi]; exact List.getElem_mem hi)) _ e1 e2) ?_
  rintro _ w5 ⟨rfl,m5⟩
  exact bh (ite_false rfl ⟨⟨by omega,by omega⟩,aR _ (D.frame m5)⟩)
 ·intro again w4 H
  exact H.ay 0 rfl (an p 4) rfl (ite_false (decide_eq_false (by omega)) ⟨rfl,H.mod⟩)
end Go.Proofs.YtpchgbolambkcaaGreatDoor
end
section
set_option linter.unusedVariables false
set_option linter.unusedSimpArgs false
namespace Go.Proofs.YtpchgbolambkcaaGreatDoor
open Go Go.Ev
set_option maxRecDepth 20000
set_option linter.unusedVariables false
def SX (k:ct):Prop:=k.bu.length≤8∧∀ v∈k.bu,v.bV.length≤100
theorem af9 (k:ct) (x:ah) (w:World) (hx:oQ w x k.bu):Ok Pr NB [.agg ⟨k.cs x⟩] w fun v w'=>∃ b,v=.bool b∧Mod [] w w'∧(b=false→SX k):=by
 refine afb ?_
 unfold NM
 have cH:=hx.len
 refine (aq.start w).nw fun p w1 H _=>?_
 have H:aq w [] w1 [.av p (k.cs x) bW]:=H
 by_cases h8:k.bu.length≤8
 case neg=>
  refine CI (fun i w'=>aq w [] w' [.av p (k.cs x) bW]) (fun _ _=>0) H ?_
  intro again i w2 H aR
  refine H.ay 0 rfl (an p 3) rfl (H.ay 0 rfl (an p 3) rfl (ite_false ?_ (H.ay 0 rfl (an p 3) rfl ⟨_,rfl,H.mod,fun h=>?_⟩)))
  ·rw [show decide ((x.n:Int)≤8)=false from decide_eq_false (by omega),Bool.and_false]
  ·rw [decide_eq_true (show (8:Int)<(x.n:Int) by omega)] at h; cases h
 refine ep 0 k.bu.length (fun i w'=>aq w [] w' [.av p (k.cs x) bW]∧∀ j,j<i→(k.bu.getD j vz).bV.length≤100) rfl (by omega) ⟨H,fun j h=>by omega⟩ ?_ ?_
 ·rintro again i w2 _ hi ⟨H,Gh⟩ aR
  have hv:k.bu[i]? = some (k.bu.getD i vz):=by rw [List.getD_eq_getElem?_getD,List.getElem?_eq_getElem hi]; rfl
  obtain ⟨h1,u1,e1,c1⟩:=Dv.at cJ.eo (by omega) (hx.aI H.mod) hv
  have BC:=Bytes.len (e1:Bytes w2 u1 (k.bu.getD i vz).bV)
  refine H.ay 0 rfl (an p 3) rfl (H.ay 0 rfl (an p 3) rfl (ite_true ?_ (H.ay 0 rfl (an p 3) rfl ⟨h1,u1,c1 3 _ rfl,cN (fun h=>⟨true,rfl,H.mod,fun h=>by cases h⟩) fun h=>⟨⟨by omega,by omega⟩,aR _ ⟨H,fun j hj=>?_⟩⟩⟩)))
  ·rw [decide_eq_true (show (i:Int)<(x.n:Int) by omega),decide_eq_true (show (x.n:Int)≤8 by omega)]; rfl
  ·rcases Nat.lt_or_ge j i with h2 | h2
   ·exact Gh j h2
   ·have:=of_decide_eq_false h
    rw [show j=i by omega]
    omega
 ·rintro again w2 ⟨H,Gh⟩
  refine H.ay 0 rfl (an p 3) rfl (H.ay 0 rfl (an p 3) rfl (ite_false ?_ (H.ay 0 rfl (an p 3) rfl ⟨_,rfl,H.mod,fun _=>⟨h8,fun v hv=>?_⟩⟩)))
  ·rw [decide_eq_false (show ¬ ((k.bu.length:Nat):Int)<(x.n:Int) by omega),Bool.false_and]
  ·obtain ⟨j,hj,e⟩:=List.getElem_of_mem hv
   have:=Gh j hj
   rw [List.getD_eq_getElem?_getD,List.getElem?_eq_getElem hj] at this
   simpa [e] using this
structure Lx (t:aJ):Prop where
 sec:t.fy.length≤100
 ten:t.bq.length≤12
 aE:t.aE.length≤12
 key:t.keys.length≤12
 gr:t.cM.length≤12
 name:∀ e∈t.bq,e.name.size≤400
 vk:∀ p∈t.aE,p.key.length≤3000
 lS:∀ k∈t.keys,SX k
theorem Lx.small {t:aJ} (h:Lx t) (hf:∀ g∈t.cM,g.fit):t.small where
 sec:=Nat.le_trans h.sec (by omega)
 ten:=Nat.le_trans h.ten (by omega)
 aE:=Nat.le_trans h.aE (by omega)
 key:=Nat.le_trans h.key (by omega)
 gr:=Nat.le_trans h.gr (by omega)
 pk:=fun p hp=>Nat.le_trans (h.vk p hp) (by omega)
 lS:=fun k hk=>Nat.le_trans (h.lS k hk).1 (by omega)
 bV:=fun k hk v hv=>Nat.le_trans ((h.lS k hk).2 v hv) (by omega)
 gf:=hf
theorem SA {A:Type} {l:List A} {d:A} {P:A→Prop} (h:∀ j,j<l.length→P (l.getD j d)):∀ a∈l,P a:=fun a ha=>by
 obtain ⟨j,hj,e⟩:=List.getElem_of_mem ha
 have:=h j hj
 rw [List.getD_eq_getElem?_getD,List.getElem?_eq_getElem hj] at this
 simpa [e] using this
theorem Ix (s:cL) (t:aJ) (w:World) (hx:bN w s t):Ok Pr BU [.agg ⟨t.cs s⟩] w fun v w'=>∃ b,v=.bool b∧Mod [] w w'∧(b=false→Lx t):=by
 refine aeA ?_
 unfold M9
 have Lp:=Bytes.len hx.sec
 have wg:=hx.ten.len
 have rJ:=hx.aE.len
 have zK:=hx.key.len
 have Hl:=hx.gr.len
 refine (aq.start w).nw fun p w1 H _=>?_
 have H:aq w [] w1 [.av p (t.cs s) aA]:=H
 refine H.ay 0 rfl (an p 1) rfl (H.ay 0 rfl (an p 2) rfl (H.ay 0 rfl (an p 3) rfl (H.ay 0 rfl (an p 4) rfl (H.ay 0 rfl (an p 5) rfl (cN (fun h=>⟨true,rfl,H.mod,fun h=>by cases h⟩) fun Gh=>?_)))))
 simp only [Bool.or_eq_false_iff,decide_eq_false_iff_not] at Gh
 have bad:∀ {w':World},aq w [] w' [.av p (t.cs s) aA]→(fun (v:Value) (w':World)=>∃ b,v=.bool b∧Mod [] w w'∧(b=false→Lx t)) (.bool true) w':=fun K=>⟨true,rfl,K.mod,fun h=>by cases h⟩
 refine ep 0 t.bq.length (fun i w'=>aq w [] w' [.av p (t.cs s) aA]∧∀ j,j<i→(t.bq.getD j tz).name.size≤400) rfl (by omega) ⟨H,fun j h=>by omega⟩ ?_ ?_
 ·rintro again i w2 _ hi ⟨H,hl⟩ aR
  obtain ⟨k1,c1⟩:=(hx.ten.aI H.mod).at hi
  refine H.ay 0 rfl (an p 2) rfl (ite_true (decide_eq_true (by omega)) (H.ay 0 rfl (an p 2) rfl ⟨k1,_,c1 2 _ rfl,cN (fun h=>bad H) fun h=>⟨⟨by omega,by omega⟩,aR _ ⟨H,fun j hj=>?_⟩⟩⟩))
  have:=of_decide_eq_false h
  rcases Nat.lt_or_ge j i with h2 | h2
  ·exact hl j h2
  ·rw [show j=i by omega]; omega
 rintro again w2 ⟨H,uN⟩
 refine H.ay 0 rfl (an p 2) rfl (ite_false (decide_eq_false (by omega)) ?_)
 refine ep 0 t.aE.length (fun i w'=>aq w [] w' [.av p (t.cs s) aA]∧∀ j,j<i→(t.aE.getD j eJ).key.length≤3000) rfl (by omega) ⟨H,fun j h=>by omega⟩ ?_ ?_
 ·rintro again i w2 _ hi ⟨H,hl⟩ aR
  obtain ⟨k1,u1,e1,c1⟩:=(hx.aE.aI H.mod).at hi
  have BC:=e1.len
  refine H.ay 0 rfl (an p 3) rfl (ite_true (decide_eq_true (by omega)) (H.ay 0 rfl (an p 3) rfl ⟨k1,u1,c1 2 _ rfl,cN (fun h=>bad H) fun h=>⟨⟨by omega,by omega⟩,aR _ ⟨H,fun j hj=>?_⟩⟩⟩))
  have:=of_decide_eq_false h
  rcases Nat.lt_or_ge j i with h2 | h2
  ·exact hl j h2
  ·rw [show j=i by omega]; omega
 rintro again w3 ⟨H,vX⟩
 refine H.ay 0 rfl (an p 3) rfl (ite_false (decide_eq_false (by omega)) ?_)
 refine ep 0 t.keys.length (fun i w'=>aq w [] w' [.av p (t.cs s) aA]∧∀ j,j<i→SX (t.keys.getD j kz)) rfl (by omega) ⟨H,fun j h=>by omega⟩ ?_ ?_
 ·rintro again i w2 _ hi ⟨H,hl⟩ aR
  obtain ⟨k1,u1,e1,c1⟩:=(hx.key.aI H.mod).at hi
  refine H.ay 0 rfl (an p 4) rfl (ite_true (decide_eq_true (by omega)) (H.ay 0 rfl (an p 4) rfl ⟨k1,wF c1 (aC (af9 (t.keys.getD i kz) u1 _ e1) ?_)⟩))
  rintro _ w5 ⟨b,rfl,m,hb⟩
  have H:=H.frame m
  refine bh ?_
  cases b with
  | true=>exact ite_true rfl (bad H)
  | false=>
   refine ite_false rfl ⟨⟨by omega,by omega⟩,aR _ ⟨H,fun j hj=>?_⟩⟩
   rcases Nat.lt_or_ge j i with h2 | h2
   ·exact hl j h2
   ·rw [show j=i by omega]; exact hb rfl
 rintro again w4 ⟨H,zH⟩
 exact H.ay 0 rfl (an p 4) rfl (ite_false (decide_eq_false (by omega)) ⟨false,rfl,H.mod,fun _=>⟨by omega,by omega,by omega,by omega,by omega,SA uN,SA vX,SA zH⟩⟩)
end Go.Proofs.YtpchgbolambkcaaGreatDoor
end
section
set_option linter.unusedVariables false
set_option linter.unusedSimpArgs false
namespace Go.Proofs.YtpchgbolambkcaaGreatDoor
open Go Go.Ev
set_option maxRecDepth 20000
set_option linter.unusedVariables false
def AT (w w':World) (v:Value) (T:aJ):Prop:=∃ s ys zs fp fq,v=.agg ⟨T.cs s⟩∧aq w [] w' (kA s T ys zs fp fq)
end Go.Proofs.YtpchgbolambkcaaGreatDoor
end
section
set_option linter.unusedVariables false
set_option linter.unusedSimpArgs false
namespace Go.Proofs.YtpchgbolambkcaaGreatDoor
open Go Go.Ev
set_option maxRecDepth 20000
set_option linter.unusedVariables false
def a0:bL:=⟨1,1,1,1,0,0,0,0,0,0,0,fY,⟨none,0,0⟩,⟨none,0,0⟩⟩
end Go.Proofs.YtpchgbolambkcaaGreatDoor
end
section
set_option linter.unusedVariables false
set_option linter.unusedSimpArgs false
namespace Go.Proofs.YtpchgbolambkcaaGreatDoor
open Go Go.Ev
set_option maxRecDepth 20000
set_option linter.unusedVariables false
theorem al3 (ts:List bZ) (par:Int) (name:ByteArray):(vM ts par name).length≤1000:=by
 unfold vM
 split
 ·rename_i h
  have hm:iw ts=true:=by
   unfold kV at h
   split at h
   ·assumption
   ·omega
  unfold iw at hm
  rw [Bool.and_eq_true,decide_eq_true_eq] at hm
  rw [List.length_append,List.length_singleton]
  omega
 ·exact Nat.zero_le _
theorem YD:bK.small:=⟨Nat.zero_le _,Nat.zero_le _,Nat.zero_le _,Nat.zero_le _,Nat.zero_le _,fun p h=>(by cases h),fun p h=>(by cases h),fun p h=>(by cases h),fun p h=>(by cases h)⟩
end Go.Proofs.YtpchgbolambkcaaGreatDoor
end
