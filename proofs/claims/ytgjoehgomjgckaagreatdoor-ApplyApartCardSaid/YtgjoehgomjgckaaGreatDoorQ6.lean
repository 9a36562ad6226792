/- Texts of this claim, packed and shortened. -/
import Derived.KernelRfl
import Derived.Deep.Slices
import Derived.Deep.Fields
import Derived.Test.YtgjoehgomjgckaaGreatDoorQ5
import Derived.Test.YtgjoehgomjgckaaGreatDoorQ1
import Derived.Test.YtgjoehgomjgckaaGreatDoorQ2
import Derived.Test.YtgjoehgomjgckaaGreatDoorQ4
import Derived.Test.YtgjoehgomjgckaaGreatDoorQ3
section
set_option linter.unusedVariables false
set_option linter.unusedSimpArgs false
namespace Go.Proofs.YtgjoehgomjgckaaGreatDoor
open Go Go.Ev
set_option maxRecDepth 20000
set_option linter.unusedVariables false
def AK (l:List bP) (s t:List B8):bP:=if gh l=true then (l.find? fun g=>decide (tok s g=t)).getD gz else gz
def sO (l:List bP) (s t:List B8):Int:=if gh l=true then (if (l.find? fun g=>decide (tok s g=t)).isSome=true then 0 else 15) else 2
theorem alh (l:List bP) (s t:List B8):Told l s t (AK l s t) (sO l s t):=by
 unfold Told AK sO
 cases hm:gh l with
 | false=>exact .inl ⟨rfl,rfl,rfl⟩
 | true=>
  cases hf:l.find? (fun g=>decide (tok s g=t)) with
  | none=>
   refine .inr (.inl ⟨rfl,fun j hj e=>?_,rfl,rfl⟩)
   have:=List.find?_eq_none.1 hf (l.getD j gz) (by rw [List.getD_eq_getElem?_getD,List.getElem?_eq_getElem hj]; exact List.getElem_mem hj)
   exact this (decide_eq_true e)
  | some g=>
   obtain ⟨i,hi,hg,dx⟩:=List.find?_eq_some_iff_getElem.1 hf |>.2
   have ei:l.getD i gz=g:=by rw [List.getD_eq_getElem?_getD,List.getElem?_eq_getElem hi]; exact hg
   refine .inr (.inr ⟨rfl,⟨i,hi,?_,fun j hj e=>?_,?_⟩,rfl⟩)
   ·rw [ei]; exact of_decide_eq_true (List.find?_eq_some_iff_getElem.1 hf).1
   ·have:=dx j hj
    rw [List.getD_eq_getElem?_getD,List.getElem?_eq_getElem (by omega)] at e
    simp only [Option.getD_some] at e
    rw [e] at this
    simp at this
   ·rw [ei]; rfl
theorem Z7 {l:List bP} {s t:List B8} {g:bP} {c:Int} (h:Told l s t g c):g=AK l s t∧c=sO l s t:=h.unique (alh l s t)
def jm (op:Int):Bool:=decide (op=9) || (decide (op=10) || decide (op=11))
def tM (q:bG) (lt:List B8) (t:aS) (ow:Int):Int:=
 if BR t.bI (t.aC.getD (q.n0 - 1).toNat cH).ten ow=true then 0
 else if jm q.n2=true then (if sO t.aX t.bN lt=0 then xw (AK t.aX t.bN lt) q.n4 q.n0 q.n2 t.clock else sO t.aX t.bN lt)
 else 10
theorem YT {w0 w:World} {S:List Nat} {b:Nat} {q:bG} {t:aS} {s:eu} {ow:Int} {sd:ah} {ys zs:List ah} {fp fq:List Nat} {M:List aE} (H:ak w0 S w (cW b q t s ow sd ys zs fp fq ++ M)) {i:Nat} (hi:i<t.aC.length) :
  t.aC[i]? = some (t.aC.getD i cH)∧(s.aC.a.isSome=true∧(0:Int)≤(i:Int)∧(i:Int)<(s.aC.n:Int))∧∃ x,ys[i]? = some x∧∀ (j:Nat) (v:Value),((t.aC.getD i cH).cs x)[j]? = some v→w.cell? (Addr.add (Addr.add (base s.aC.a) (Int.toNat (i:Int) * 5)) j)=some v:=by
 have hk:t.aC[i]? = some (t.aC.getD i cH):=by rw [List.getD_eq_getElem?_getD,List.getElem?_eq_getElem hi]; rfl
 have h:bw iY w ys t.aC:=H.box 5 rfl
 have hr:=H.fI 4 rfl
 have hl:=hr.len
 rw [ir cw.ct _ _ h.1] at hl
 have hx:ys[i]? = some (ys[i]'(by rw [h.1]; exact hi)):=List.getElem?_eq_getElem _
 refine ⟨hk,⟨hr.pre (by omega),by omega,by omega⟩,_,hx,fun j v hv=>?_⟩
 rw [Int.toNat_natCast]
 exact hr.uX cw.ct hk hx hv
theorem acK {w0 w:World} {b:Nat} {q:bG} {t:aS} {s:eu} {ow:Int} {sd:ah} {ys zs:List ah} {fp fq:List Nat} (H:ak w0 [] w (cW b q t s ow sd ys zs fp fq)) (hs:t.small) (hw:aP 1 (t.aC.length:Int) q.n0=true) (lt:List B8) (ht:Bytes w0 q.tok lt) (zX:t.bN.length≤1000) :
  Ok Pr K4 [.pointer (some ⟨b,0,none⟩)] w fun v w'=>cO w w' v (tM q lt t ow)∧Mod [] w w':=by
 refine acu ?_
 unfold K5
 rw [Z6]
 have AI:=hs.ten
 have CU:=hs.aC
 have CV:=hs.gr
 have hC:tM q lt t ow=if BR t.bI (t.aC.getD (q.n0 - 1).toNat cH).ten ow=true then 0 else if jm q.n2=true then (if sO t.aX t.bN lt=0 then xw (AK t.aX t.bN lt) q.n4 q.n0 q.n2 t.clock else sO t.aX t.bN lt) else 10:=rfl
 generalize tM q lt t ow=C at *
 obtain ⟨i,ei,en,hi⟩:=wQ hw
 rw [en] at hC
 have D:=H.drew
 obtain ⟨mL,dh,x,dy,hc⟩:=YT (M:=[]) D hi
 refine nc (D.ax 0 rfl (bE b 14 3) rfl (nc (D.an 0 rfl (bE b 0 0) rfl ⟨by unfold aF; omega,?_⟩)))
 show aU s.aC.a (q.n0 - 1) s.aC.n _
 rw [ei]
 generalize t.aC.getD i cH=pr at *
 have D2:=D.drew
 have T8:iN _ s t:=uU D2
 refine ⟨dh,_,hc 1 _ rfl,nc (D2.ax 0 rfl (bE b 14 2) rfl (nc (D2.an 0 rfl (au b 20) rfl (aB (aed s.ten t.bI (by omega) pr.ten ow _ T8.ten) ?_))))⟩
 rintro _ w1 ⟨rfl,m1⟩
 have m:Mod [] w w1:=(Mod.drew [] w).trans ((Mod.drew [] _).trans m1)
 have H1:=H.frame m
 refine bu ?_
 cases ha:BR t.bI pr.ten ow with
 | true=>
  rw [ha,if_pos rfl] at hC
  rw [hC]
  exact ite_true rfl ⟨qw _ _,m⟩
 | false=>
 rw [ha,if_neg (by decide)] at hC
 refine ite_false rfl (nc (H1.an 0 rfl (bE b 0 2) rfl (jA fun jG iB=>?_)))
 have G:jG (jm q.n2) w1:=by
  refine iB _ _ ?_
  cases hu:jm q.n2 with
  | false=>
   rw [hu,if_neg (by decide)] at hC
   rw [hC]
   refine ite_false rfl (aB (AP 10 (by decide) w1) ?_)
   rintro e w2 ⟨h,m2⟩
   exact ⟨h.from m.size,m.trans m2⟩
  | true=>
   rw [hu,if_pos rfl] at hC
   have E:=H1.drew
   have Kt:iN _ s t:=uU E
   refine ite_true rfl (uO fun go bY=>?_)
   have fin:∀ (g:Nat) (er:Value) (w3:World),Mod [] w1.drew w3→bX w3 g (AK t.aX t.bN lt).cells cJ→cO w1.drew w3 er (sO t.aX t.bN lt)→go ⟨g,0,none⟩ er w3:=by
    intro g er w3 m3 hb he
    have m':Mod [] w w3:=m.trans ((Mod.drew [] w1).trans m3)
    have F:=H.frame m'
    have hE:=he.from (Nat.le_trans m.size (Mod.drew [] w1).size)
    refine bY _ _ _ (he.1.isNil ?_)
    by_cases h0:sO t.aX t.bN lt=0
    case neg=>
     rw [if_neg h0] at hC
     rw [hC]
     exact ite_true (by rw [decide_eq_false h0]; rfl) ⟨hE,m'⟩
    rw [if_pos h0] at hC
    rw [hC]
    refine ite_false (by rw [decide_eq_true h0]; rfl) ?_
    have F2:=F.drew
    have j7:=hb.aG (Mod.drew [] w3)
    refine Dk (fun j v hv=>by rw [au,j7.cell]; exact hv) (nc (F2.an 0 rfl (bE b 0 4) rfl (nc (F2.an 0 rfl (bE b 0 0) rfl (nc (F2.an 0 rfl (bE b 0 2) rfl (nc (F2.an 0 rfl (bE b 14 0) rfl (aB (aef _ _ _ _ _ _) ?_)))))))))
    rintro v w4 ⟨h4,m4⟩
    have m2:=m'.trans (Mod.drew [] w3)
    exact ⟨h4.from m2.size,m2.trans m4⟩
   refine nc (E.ax 0 rfl (bE b 14 5) rfl (nc (E.ax 0 rfl (bE b 14 1) rfl (nc (E.ax 0 rfl (bE b 0 13) rfl ⟨?_,?_⟩)))))
   ·refine aB (UX t.aX s.gr s.sec q.tok t.bN lt zX (by omega) _ Kt.gr Kt.sec (ht.aG E.mod)) ?_
    rintro _ w5 ⟨g,c,er,rfl,hT,he,m5⟩
    obtain ⟨rfl,rfl⟩:=Z7 hT
    have E5:=E.frame m5
    have K:=(ak.start w1.drew).gD m5 he
    refine ⟨_,rfl,US ⟨rfl,K.g9 fun p w6 K6 m6=>⟨E5.kept m6 0 rfl (bE b 0 13) 1,E5.kept m6 0 rfl (bE b 14 1) 1,E5.kept m6 0 rfl (bE b 14 5) 1,K6.oh 1 rfl rfl fun w7 K7=>fin p er w7 K7.mod (K7.av 1 rfl) ⟨K7.ok 0 _ rfl,fun b hb=>(K7.own 0 _ rfl b hb).resolve_left (by simp)⟩⟩⟩⟩
   ·refine (ak.start w1.drew).g9 fun p w8 K8 m8=>⟨E.kept m8 0 rfl (bE b 0 13) 1,E.kept m8 0 rfl (bE b 14 1) 1,E.kept m8 0 rfl (bE b 14 5) 1,aB (UX t.aX s.gr s.sec q.tok t.bN lt zX (by omega) _ (Kt.gr.aG m8) (Kt.sec.aG m8) (ht.aG (E.mod.trans m8))) ?_⟩
    rintro _ w5 ⟨g,c,er,rfl,hT,he,m5⟩
    obtain ⟨rfl,rfl⟩:=Z7 hT
    have K:=K8.gD m5 he
    refine ⟨_,rfl,US ⟨rfl,K.oh 0 rfl rfl fun w7 K7=>fin p er w7 K7.mod (K7.av 0 rfl) ⟨K7.ok 1 _ rfl,fun b hb=>(K7.own 1 _ rfl b hb).resolve_left (by simp)⟩⟩⟩
 show aA (decide (q.n2=9)) _ _
 have tv:∀ {z:Int},jm z=true→q.n2=z→jG (decide (q.n2=z)) w1:=fun hz e=>by
  rw [e] at G ⊢
  rw [hz] at G
  rw [decide_eq_true rfl]
  exact G
 refine bU (fun h=>tv rfl (of_decide_eq_true h)) fun h9=>?_
 refine bU (fun h=>tv rfl (of_decide_eq_true h)) fun iO=>?_
 have e:jm q.n2=decide (q.n2=11):=by
  unfold jm
  have h9:decide (q.n2=9)=false:=h9
  have iO:decide (q.n2=10)=false:=iO
  rw [h9,iO]; rfl
 rw [e] at G
 exact G
end Go.Proofs.YtgjoehgomjgckaaGreatDoor
end
section
set_option linter.unusedVariables false
set_option linter.unusedSimpArgs false
namespace Go.Ev
open Go Go.RowKit
section
variable {A:Type} {C:A→ah→List Value} {sz:Nat} {te:TypeId} {w0 w:World} {S:List Nat} {L:List aE} {s:ah} {ls:List A} {xs:List ah} {i:Nat}
theorem ak.nB (H:ak w0 S w L) (k:Nat) (hk:L[k]? = some (.row te sz s (bq C ls xs))) (hC:∀ a x,(C a x).length=sz) (hx:xs.length=ls.length) {a a':A} {x:ah} (ha:ls[i]? = some a) (dy:xs[i]? = some x) {j:Nat} (hj:j<sz) {v:Value} (hv:ek v=true) (hz:C a' x=(C a x).set j v) {K:World→Prop}
  (h:∀ w',ak w0 S w' (L.set k (.row te sz s (bq C (ls.set i a') xs)))→K w'):Ev.st (Addr.add (Addr.add (base s.a) (Int.toNat (i:Int) * sz)) j) v w K:=by
 have hi:=(List.getElem?_eq_some_iff.1 ha).1
 refine H.qz k (i:=i * sz+j) hk (by rw [add_add,Int.toNat_natCast]) ?_ hv fun w' H'=>h w' ?_
 ·rw [ir hC _ _ hx]
  have:=Nat.mul_le_mul_right sz (show i+1≤ls.length from hi)
  rw [Nat.succ_mul] at this
  omega
 ·rw [s8 hC ls xs i j a a' x x v ha dy hj hz,A8 dy] at H'
  exact H'
end
end Go.Ev
namespace Go.Proofs.YtgjoehgomjgckaaGreatDoor
open Go Go.Ev
set_option maxRecDepth 20000
set_option linter.unusedVariables false
def xO (q:bG) (p:cw):cw:={ p with high:=tQ p.high p.used q.n1,used:=xM p.high p.used q.n1 }
def dM (q:bG) (t:aS):cw:=t.aC.getD (q.n0 - 1).toNat cH
def dO (q:bG) (t:aS):aS:={ t with aC:=t.aC.set (q.n0 - 1).toNat (xO q (dM q t)) }
def oH (q:bG) (lt:List B8) (t:aS):Int:=
 if (fC t && ou q)=true then
  (if aP 1 (t.aC.length:Int) q.n0=true then
   (if mu (dM q t).high (dM q t).used q.n1=0 then (if gT q t=true then tM q lt t (oz q t) else 9) else 8)
  else 6)
 else 2
theorem VX {q:bG} (h:ou q=true):∀ n∈q.rest,0≤n∧n≤1099511627776:=by
 unfold ou at h
 simp only [Bool.and_eq_true] at h
 intro n hn
 have:=List.all_eq_true.1 h.2.2.2.1 n hn
 simpa [aP] using this
theorem mem_set {A:Type} {l:List A} {i:Nat} {a x:A} (h:x∈l.set i a):x∈l∨x=a:=by
 rcases List.mem_or_eq_of_mem_set h with h | h
 ·exact .inl h
 ·exact .inr h
theorem ali {q:bG} {t:aS} {i:Nat} (en:(q.n0 - 1).toNat=i) (hi:i<t.aC.length):t.aC[i]? = some (dM q t):=by
 unfold dM; rw [en,List.getD_eq_getElem?_getD,List.getElem?_eq_getElem hi]; rfl
theorem Wo {q:bG} {t:aS} (hs:t.small) (hw:aP 1 (t.aC.length:Int) q.n0=true):(dO q t).small where
 sec:=hs.sec
 ten:=hs.ten
 aC:=by show (t.aC.set _ _).length≤1000; rw [List.length_set]; exact hs.aC
 key:=hs.key
 gr:=hs.gr
 pk:=fun p hp=>by
  obtain ⟨i,_,en,hi⟩:=wQ hw
  rcases mem_set hp with h | h
  ·exact hs.pk p h
  ·rw [h]; exact hs.pk (dM q t) (List.mem_of_getElem? (ali en hi))
 br:=hs.br
 aq:=hs.aq
 gf:=hs.gf
theorem aio (q:bG) (t:aS):gT q (dO q t)=gT q t:=by
 unfold gT
 have e1:fQ q (dO q t)=fQ q t:=rfl
 have e2:xx q (dO q t)=xx q t:=rfl
 have e3:(dO q t).aC.length=t.aC.length:=by show (t.aC.set _ _).length=_; rw [List.length_set]
 rw [e1,e2,e3]; rfl
theorem aip (q:bG) (lt:List B8) (t:aS) (ow:Int) (hw:aP 1 (t.aC.length:Int) q.n0=true):tM { q with n4:=fQ q t } lt (dO q t) ow=tM q lt t ow:=by
 obtain ⟨i,_,en,hi⟩:=wQ hw
 have e:((dO q t).aC.getD (q.n0 - 1).toNat cH).ten=(t.aC.getD (q.n0 - 1).toNat cH).ten:=by
  show ((t.aC.set _ _).getD _ cH).ten=_
  rw [List.getD_eq_getElem?_getD,List.getElem?_set,if_pos rfl,if_pos (by omega)]; rfl
 show (if BR t.bI ((dO q t).aC.getD (q.n0 - 1).toNat cH).ten ow=true then (0:Int) else if jm q.n2=true then (if sO t.aX t.bN lt=0 then xw (AK t.aX t.bN lt) (fQ q t) q.n0 q.n2 t.clock else sO t.aX t.bN lt) else 10)=_
 rw [e]
 unfold tM
 cases hu:jm q.n2 with
 | false=>rfl
 | true=>
  have:fQ q t=q.n4:=by
   unfold fQ
   rw [if_neg (fun h=>by rw [h] at hu; cases hu)]
  rw [this]
def Z8 (w w':World) (v:Value) (q:bG) (lt:List B8) (t:aS) (sd:ah):Prop:=
 ∃ (pj:Option Addr) (er:Value),v=.tuple ⟨[.pointer pj,er]⟩∧cO w w' er (oH q lt t)∧Mod [] w w'∧
  (oH q lt t=0→∃ b s ys zs fp fq,pj=some ⟨b,0,none⟩∧ak w [] w' (cW b { q with n4:=fQ q t } (dO q t) s (oz q t) sd ys zs fp fq))
theorem afJ (s:eu) (t:aS) (q:bG) (lt:List B8) (sd:ah) (hs:t.small) (w:World) (hx:iN w s t) (ht:Bytes w q.tok lt) :
  Ok Pr MI [.agg ⟨t.cs s⟩,.agg ⟨q.cells⟩,.slice sd.a sd.n sd.c] w fun v w'=>Z8 w w' v q lt t sd:=by
 refine aeh ?_
 unfold Ns
 have qV:=hx.aC.len
 have hC:oH q lt t=if (fC t && ou q)=true then (if aP 1 (t.aC.length:Int) q.n0=true then (if mu (dM q t).high (dM q t).used q.n1=0 then (if gT q t=true then tM q lt t (oz q t) else 9) else 8) else 6) else 2:=rfl
 refine (ak.start w).nw fun p w1 H _=>H.nw fun p1 w2 H _=>?_
 have H:ak w [] w2 [.av p (t.cs s) aN,.av p1 q.cells kZ]:=H
 have no:∀ {w3:World} (c:Int),Mod [] w w3→c≠0→oH q lt t=c→az Pr lD [.int .i64 c] w3 fun v w4=>Z8 w w4 (.tuple ⟨[.pointer none,v]⟩) q lt t sd:=by
  intro w3 c m hc e
  refine aB (AP c hc w3) ?_
  rintro er w4 ⟨h,m4⟩
  exact ⟨none,er,rfl,by rw [e]; exact h.from m.size,m.trans m4,fun h0=>absurd (e.symm.trans h0) hc⟩
 refine jV fun go bY=>?_
 have go':∀ w3,Mod [] w2 w3→(fC t && ou q)=true→go w3:=by
  intro w3 m3 xJ
  refine bY w3 ?_
  rw [if_pos xJ] at hC
  rw [Bool.and_eq_true] at xJ
  have H3:=H.frame m3
  have D:=H3.drew
  refine D.jz 1 rfl (D.bT 0 rfl (aB (Nr s t hs _ (hx.aG D.mod)) ?_))
  rintro _ w4 ⟨s',ys,zs,fp,fq,rfl,aaH⟩
  have D4:=D.join aaH
  refine iZ ⟨D.kept aaH.mod 1 rfl rfl 14,D4.nw fun b w5 D5 _=>?_⟩
  have J:ak w [] w5 (cW b q t s' 0 sd ys zs fp fq ++ [.av p (t.cs s) aN,.av p1 q.cells kZ]):=D5.cS [9,2,3,4,5,6,7,8,0,1] (by decide) rfl
  have J2:=J.drew
  refine J2.an 0 rfl (bE b 0 0) rfl (J2.ax 8 rfl (au p 3) rfl (aB (Dp _ _ _) ?_))
  rintro _ w6 ⟨rfl,hw6⟩
  subst hw6
  refine bu ?_
  show aA (!aP 1 (s.aC.n:Int) q.n0) _ _
  rw [← qV]
  cases c1:aP 1 (t.aC.length:Int) q.n0 with
  | false=>
   rw [c1,if_neg (by decide)] at hC
   exact ite_true rfl (no 6 J2.mod (by decide) hC)
  | true=>
  rw [c1,if_pos rfl] at hC
  obtain ⟨i,ei,en,hi⟩:=wQ c1
  have J3:=J2.drew
  refine ite_false rfl (J3.ax 0 rfl (bE b 14 3) rfl (J3.an 0 rfl (bE b 0 0) rfl ⟨by have:=hs.aC; unfold aF; omega,?_⟩))
  show aU s'.aC.a (q.n0 - 1) s'.aC.n _
  rw [ei]
  have J4:=J3.drew
  obtain ⟨mL,dh,x,dy,hc⟩:=YT J4 hi
  have hwp:t.aC.getD i cH=dM q t:=by unfold dM; rw [en]
  rw [hwp] at mL hc
  refine ⟨dh,_,hc 3 _ rfl,_,hc 4 _ rfl,J4.an 0 rfl (bE b 0 1) rfl (aB (agB (dM q t).high (dM q t).used q.n1 _) ?_)⟩
  rintro _ w8 ⟨er,rfl,lC,m8⟩
  have J5:=J4.frame m8
  refine ⟨_,rfl,_,rfl,_,rfl,rfl,lC.1.isNil ?_⟩
  by_cases Ku:mu (dM q t).high (dM q t).used q.n1=0
  case neg=>
   rw [if_neg Ku] at hC
   exact ite_true (by rw [decide_eq_false Ku]; rfl) (no 8 J5.mod (by decide) hC)
  rw [if_pos Ku] at hC
  refine ite_false (by rw [decide_eq_true Ku]; rfl) ?_
  have CT:ys.length=t.aC.length:=(J5.box 5 rfl:bw iY _ ys t.aC).1
  refine J5.nB 4 rfl cw.ct CT mL dy (a':={ dM q t with high:=tQ (dM q t).high (dM q t).used q.n1 }) (by omega:3<5) rfl rfl fun cL K=>?_
  refine K.nB 4 rfl cw.ct (by rw [List.length_set]; exact CT) (a:={ dM q t with high:=tQ (dM q t).high (dM q t).used q.n1 }) (a':=xO q (dM q t)) (by rw [List.getElem?_set,if_pos rfl,if_pos hi]) dy (by omega:4<5) rfl rfl fun cX K=>?_
  rw [List.set_set,List.set_set] at K
  have K:=K.Rv (Q':=fun w=>bw iY w ys (t.aC.set i (xO q (dM q t)))) 5 rfl fun w h=>by
   have:=bw.put h (i:=i) (x:=x) (a:=xO q (dM q t)) (h.2 i x _ dy mL:iY w x (dM q t))
   rwa [A8 dy] at this
  have K:ak w [] cX (cW b q (dO q t) s' 0 sd ys zs fp fq):=by
   have K:=K.take 8
   unfold cW iW dO
   rw [en]
   exact K
  have Ks:=Wo hs c1
  have hr:=VX xJ.2
  have hq4:=hr q.n4 (by simp [bG.rest])
  have hq7:=hr q.n7 (by simp [bG.rest])
  refine aB (adJ K Ks ⟨by unfold aF; omega,by unfold aF; omega⟩) ?_
  rintro _ fR ⟨rfl,q',kK,hq',K2⟩
  rw [aio] at hq' ⊢
  refine bu ?_
  cases hf:gT q t with
  | false=>
   rw [hf,if_neg (by decide)] at hC
   exact ite_true rfl (no 9 K2.mod (by decide) hC)
  | true=>
  rw [hf,if_pos rfl] at hC
  obtain ⟨rfl,rfl⟩:=hq' hf
  have zX:t.bN.length=32:=by
   have:=xJ.1
   unfold fC zV at this
   simp only [Bool.and_eq_true,decide_eq_true_eq] at this
   exact this.1.2.1
  have qT:aP 1 ((dO q t).aC.length:Int) q.n0=true:=by
   show aP 1 ((t.aC.set _ _).length:Int) _=true
   rw [List.length_set]; exact c1
  refine ite_false rfl (aB (acK K2 Ks qT lt ht (by show t.bN.length≤1000; omega)) ?_)
  rintro er fX ⟨xZ,qh⟩
  have xZ:cO fR fX er (tM { q with n4:=fQ q t } lt (dO q t) (oz q t)):=xZ
  rw [aip q lt t _ c1] at xZ
  exact ⟨some ⟨b,0,none⟩,er,rfl,by rw [hC]; exact xZ.from K2.mod.size,K2.mod.trans qh,fun h0=>⟨b,s',ys,zs,fp,fq,rfl,K2.frame qh⟩⟩
 refine jA fun jG iB=>?_
 have no':∀ {w3:World},Mod [] w2 w3→(fC t && ou q)=false→jG true w3:=fun m e=>by
  refine iB _ _ (ite_true rfl (no 2 (H.mod.trans m) (by decide) ?_))
  rw [e,if_neg (by decide)] at hC
  exact hC
 refine H.bT 0 rfl (aB (VG s t hs _ (hx.aG H.mod)) ?_)
 rintro _ w3 ⟨rfl,m3⟩
 have H3:=H.frame m3
 refine bu (H3.jz 1 rfl ?_)
 cases e1:fC t with
 | false=>exact ite_true rfl (no' m3 (by rw [e1]; rfl))
 | true=>
 refine ite_false rfl (aB (aij q _) ?_)
 rintro _ w4 ⟨rfl,m4⟩
 refine bu ?_
 cases e2:ou q with
 | false=>exact no' (m3.trans m4) (by rw [e1,e2]; rfl)
 | true=>exact iB _ _ (ite_false rfl (go' _ (m3.trans m4) (by rw [e1,e2]; rfl)))
end Go.Proofs.YtgjoehgomjgckaaGreatDoor
end
section
set_option linter.unusedVariables false
set_option linter.unusedSimpArgs false
namespace Go.Proofs.YtgjoehgomjgckaaGreatDoor
open Go Go.Ev
set_option maxRecDepth 20000
set_option linter.unusedVariables false
theorem ak.xy {w0 w:World} {S:List Nat} {L:List aE} (H:ak w0 S w L):ak w0 S w (L ++ [.cut ⟨none,0,0⟩ []]):=
 H.push (Mod.refl _ _) (.inl ⟨rfl,rfl⟩) (by simp [aE.cut,ah.row])
theorem JN {w0 w:World} {S:List Nat} {L:List aE} (H:ak w0 S w L):ak w0 S w (L ++ [.cut ⟨none,0,0⟩ [],.cut ⟨none,0,0⟩ []]):=by
 have H:=ak.xy (ak.xy H)
 rwa [List.append_assoc] at H
structure pT where
 id:Int
 gp:List B8
 ex:List B8
theorem ru:zc Pr bF=dZ 0 0 ⟨none,0,0⟩ ⟨none,0,0⟩:=by kernel_rfl
def jJ (w0:World) (S:List Nat) (w':World) (v:Value) (b:Nat) (T:aS) (R:pT) (C:Int):Prop:=
 ∃ (rc ri:Int) (y z:ah) (er:Value),v=.tuple ⟨[.agg ⟨dZ rc ri y z⟩,er]⟩∧(C≠0→ak w0 S w' [aE.err er C])∧
  (C=0→er=.nilIface∧rc=0∧ri=R.id∧∃ q s ow sd ys zs fp fq,ak w0 S w' (cW b q T s ow sd ys zs fp fq ++ [.cut y R.gp,.cut z R.ex]))
theorem tq {w:World} {e:Value} (h:fZ w e 0):e=.nilIface:=by
 rcases h with ⟨h,_⟩ | ⟨b,s,rfl,_,hc⟩
 ·exact h
 ·exact absurd rfl hc
theorem jJ.no {w0 w':World} {S:List Nat} {v:Value} {b:Nat} {T:aS} {R:pT} {C:Int} {rc ri:Int} {y z:ah} {er:Value} {L:List aE} (k:Nat) (hC:C≠0) (H:ak w0 S w' L) (hk:L[k]? = some (aE.err er C)) (hv:v=.tuple ⟨[.agg ⟨dZ rc ri y z⟩,er]⟩):jJ w0 S w' v b T R C:=
 ⟨rc,ri,y,z,er,hv,fun _=>H.only k hk,fun h=>absurd h hC⟩
def zY (q:bG) (t:aS):aS:={ t with bI:=rQ t.bI q.n3 q.name }
def S9 (q:bG) (t:aS):pT:=⟨Fp t.bI q.n3 q.name,[],[]⟩
theorem acW {w0 w:World} {S:List Nat} {b:Nat} {q:bG} {t:aS} {s:eu} {ow:Int} {sd:ah} {ys zs:List ah} {fp fq:List Nat} (H:ak w0 S w (cW b q t s ow sd ys zs fp fq)) (hs:t.small) :
  Ok Pr Lh [.pointer (some ⟨b,0,none⟩)] w fun v w'=>jJ w0 S w' v b (zY q t) (S9 q t) (oF t.bI q.n3 q.name):=by
 refine acy ?_
 unfold Lq
 rw [ru]
 have AI:=hs.ten
 refine H.nw fun p w1 H _=>?_
 have D:=H.drew
 have hR:iN _ s t:=uU (D.take 8)
 refine nc (D.ax 0 rfl (bE b 14 2) rfl (nc (D.an 0 rfl (bE b 0 3) rfl (nc (D.fS 0 rfl (bE b 0 11) rfl (aB (afG s.ten t.bI (by omega) q.n3 q.name _ hR.ten) ?_))))))
 rintro _ w2 ⟨y,er,rfl,K⟩
 have D:=D.join K
 refine ⟨_,rfl,_,rfl,_,rfl,rfl,nc (D.st 0 rfl (bE b 14 2) (by show 16<22; omega) rfl fun w3 D=>D.bH 8 rfl rfl fun w4 D=>D.cF 8 rfl ?_)⟩
 refine ⟨0,Fp t.bI q.n3 q.name,⟨none,0,0⟩,⟨none,0,0⟩,er,rfl,fun _=>D.only 10 rfl,fun h0=>?_⟩
 have he:fZ w4 er (oF t.bI q.n3 q.name):=D.ok 10 _ rfl
 rw [h0] at he
 refine ⟨tq he,rfl,rfl,q,⟨s.sec,y,s.aC,s.key,s.gr⟩,ow,sd,ys,zs,fp,fq,?_⟩
 have D:=D.cS (L':=cW b q (zY q t) ⟨s.sec,y,s.aC,s.key,s.gr⟩ ow sd ys zs fp fq) [0,1,9,3,4,5,6,7] (by decide) rfl
 exact JN D
end Go.Proofs.YtgjoehgomjgckaaGreatDoor
end
section
set_option linter.unusedVariables false
set_option linter.unusedSimpArgs false
namespace Go.Ev
open Go Go.RowKit
theorem ak.stB {w0:World} {S:List Nat} {k b o:Nat} {t:TypeId} {K:World→Prop}:∀ (l:List Value) {i:Nat} {vs:List Value} {L:List aE} {w:World},ak w0 S w L→L[k]? = some (.av b vs t)→o+i+l.length≤vs.length→(∀ v∈l,ek v=true)→
  (∀ w',ak w0 S w' (L.set k (.av b (ov vs (o+i) l) t))→K w')→Ev.o5 l (Addr.add ⟨b,0,none⟩ o) i w K
 | [],i,vs,L,w,H,hk,hl,h1,h=>by
  refine h w ?_
  rw [ZI,A8 hk]
  exact H
 | v :: r,i,vs,L,w,H,hk,hl,h1,h=>by
  rw [List.length_cons] at hl
  refine H.st k hk (bE b o i) (by omega) (h1 v (List.mem_cons_self ..)) fun w1 H1=>?_
  have bO:k<L.length:=(List.getElem?_eq_some_iff.1 hk).1
  refine ak.stB r H1 (by rw [List.getElem?_set,if_pos rfl,if_pos bO]) (by rw [List.length_set]; omega) (fun u hu=>h1 u (List.mem_cons_of_mem _ hu)) fun w' H'=>h w' ?_
  rw [List.set_set,show o+(i+1)=o+i+1 by omega,YS _ _ _ _ (by omega)] at H'
  exact H'
end Go.Ev
namespace Go.Proofs.YtgjoehgomjgckaaGreatDoor
open Go Go.Ev
set_option maxRecDepth 20000
set_option linter.unusedVariables false
def vA (q:bG) (lb:List B8) (t:aS):cw:=⟨(t.aC.length:Int)+1,q.n3,lb,0,0⟩
def pU (q:bG) (lb:List B8) (t:aS):aS:={ t with aC:=t.aC ++ [vA q lb t] }
def Ct (lb:List B8) (t:aS):Int:=if lb.length=jH 1 then (if t.aC.length=6 then 12 else 0) else 3
def JO (t:aS):pT:=⟨(t.aC.length:Int)+1,[],[]⟩
theorem pe0 (a b:Int) (c:List B8) (x:ah):(cw.mk a b c 0 0).cs x=lE a b x 0 0:=by simp [cw.cs]
theorem ake (a b:Int) (x:ah):∀ v∈lE a b x 0 0,ek v=true:=by
 intro u hu
 simp only [lE,List.mem_cons,List.not_mem_nil,or_false] at hu
 rcases hu with rfl | rfl | rfl | rfl | rfl <;> rfl
theorem aS.alj (t:aS) (s:eu):∀ v∈t.cs s,ek v=true:=by
 intro u hu
 simp only [aS.cs,kY,List.mem_cons,List.not_mem_nil,or_false] at hu
 rcases hu with rfl | rfl | rfl | rfl | rfl | rfl <;> rfl
theorem YU {w0 w:World} {S:List Nat} {b:Nat} {q:bG} {t:aS} {s:eu} {ow:Int} {sd:ah} {L:List aE} (H:ak w0 S w L) (k:Nat) (hk:L[k]? = some (.av b (zW q t s ow sd) wG)) {K:Int→ah→ah→ah→ah→ah→Prop} (h:K t.clock s.sec s.ten s.aC s.key s.gr):bT (Addr.add ⟨b,0,none⟩ 14) w K:=
 UR (fun i v hv=>H.cell k hk (bE b 14 i) (by
  match i,hv with
  | 0,hv=>exact hv
  | 1,hv=>exact hv
  | 2,hv=>exact hv
  | 3,hv=>exact hv
  | 4,hv=>exact hv
  | 5,hv=>exact hv
  | i+6,hv=>simp at hv)) h
theorem alk {w0 w:World} {S:List Nat} {b:Nat} {q:bG} {t t':aS} {s s':eu} {ow:Int} {sd:ah} {L:List aE} (H:ak w0 S w L) (k:Nat) (hk:L[k]? = some (.av b (zW q t s ow sd) wG)) {K:World→Prop} (h:∀ w',ak w0 S w' (L.set k (.av b (zW q t' s' ow sd) wG))→K w'):bM (Addr.add ⟨b,0,none⟩ 14) t'.clock s'.sec s'.ten s'.aC s'.key s'.gr w K:=by
 show o5 (t'.cs s') _ 0 _ _
 exact ak.stB (t'.cs s') H hk (by show 14+0+6≤22; omega) (aS.alj t' s') h
theorem acX {w0 w:World} {S:List Nat} {b:Nat} {q:bG} {t:aS} {s:eu} {ow:Int} {sd:ah} {ys zs:List ah} {fp fq:List Nat} (H:ak w0 S w (cW b q t s ow sd ys zs fp fq)) (hs:t.small) (h6:t.aC.length≤6) (lb:List B8) (hb:∀ {w'},Mod S w0 w'→Bytes w' q.gp lb) :
  Ok Pr Lj [.pointer (some ⟨b,0,none⟩)] w fun v w'=>jJ w0 S w' v b (pU q lb t) (JO t) (Ct lb t):=by
 refine acA ?_
 unfold Lr
 rw [ru]
 have CU:=hs.aC
 have hC:Ct lb t=if lb.length=jH 1 then (if t.aC.length=6 then 12 else 0) else 3:=rfl
 generalize Ct lb t=C at *
 have hR:=uU H
 have qV:=hR.aC.len
 have jO:=(hb H.mod).len
 refine H.nw fun p w1 H _=>aB (Vs 1 w1) ?_
 rintro _ w2 ⟨rfl,m2⟩
 have H:=H.frame m2
 have no:∀ (c:Int),c≠0→C=c→az Pr lD [.int .i64 c] w2 fun v w3=>bH ⟨p,0,none⟩ 0 0 ⟨none,0,0⟩ ⟨none,0,0⟩ w3 fun w4=>cF ⟨p,0,none⟩ w4 fun a b1 c1 d=>jJ w0 S w4 (.tuple ⟨[.agg ⟨[.int .i64 a,.int .i64 b1,.slice c1.a c1.n c1.c,.slice d.a d.n d.c]⟩,v]⟩) b (pU q lb t) (JO t) C:=by
  intro c hc e
  refine aB (AP c hc w2) ?_
  rintro er w3 ⟨h,m3⟩
  have H:=H.gD m3 h
  refine H.bH 8 rfl rfl fun w4 H=>H.cF 8 rfl ?_
  rw [e]
  exact jJ.no 9 hc H rfl rfl
 refine ⟨_,rfl,_,rfl,_,rfl,_,rfl,rfl,nc (H.ax 0 rfl (bE b 0 12) rfl ?_)⟩
 by_cases e1:lb.length=jH 1
 case neg=>
  rw [if_neg e1] at hC
  exact ite_true (by rw [decide_eq_false (by omega)]; rfl) (no 3 (by decide) hC)
 rw [if_pos e1] at hC
 refine ite_false (by rw [decide_eq_true (by omega)]; rfl) (nc (H.ax 0 rfl (bE b 14 3) rfl ?_))
 by_cases e2:t.aC.length=6
 ·rw [if_pos e2] at hC
  exact ite_true (decide_eq_true (by show (s.aC.n:Int)=6; omega)) (no 12 (by decide) hC)
 rw [if_neg e2] at hC
 subst hC
 refine ite_false (decide_eq_false (by show ¬ (s.aC.n:Int)=6; omega)) (nc (H.ax 0 rfl (bE b 14 3) rfl ⟨by show aF ((s.aC.n:Int)+1); unfold aF; omega,?_⟩))
 show lt ((s.aC.n:Int)+1) _
 rw [← qV]
 obtain ⟨n,hn⟩:∃ n:Int,n=(t.aC.length:Int)+1:=⟨_,rfl⟩
 rw [← hn]
 have D:=H.drew
 refine pn ?_
 refine nc (D.ax 0 rfl (bE b 14 3) rfl (nc (D.an 0 rfl (bE b 0 3) rfl (nc (D.ax 0 rfl (bE b 0 12) rfl (D.g9 fun p1 w7 E m7=>⟨D.kept m7 0 rfl (bE b 14 3) 1,?_⟩))))))
 have CT:ys.length=t.aC.length:=(E.box 5 rfl:bw iY _ ys t.aC).1
 have hx:Sl w7 ⟨some ⟨p1,0,none⟩,1,1⟩ 5 (lE n q.n3 q.gp 0 0):=by
  have:=(E.av 9 rfl).sl 5 1 1 (by simp) (by omega)
  simpa [lE] using this
 have J8:(s.aC.n+(ah.mk (some ⟨p1,0,none⟩) 1 1).n) * 56≤140737488355328:=by simp only []; omega
 have j7:s.aC.n+(ah.mk (some ⟨p1,0,none⟩) 1 1).n≤9223372036854775807:=by simp only []; omega
 refine E.app (x:=⟨some ⟨p1,0,none⟩,1,1⟩) (s:=s.aC) (vs:=bq cw.cs t.aC ys) 4 Rz rfl hx (ake _ _ _) J8 j7 fun y w8 E hy=>?_
 refine nc (E.st 0 rfl (bE b 14 3) (by show 17<22; omega) rfl fun w9 E=>?_)
 have hP:vA q lb t=⟨n,q.n3,lb,0,0⟩:=by unfold vA; rw [hn]
 have ed:bq cw.cs t.aC ys ++ lE n q.n3 q.gp 0 0=bq cw.cs (pU q lb t).aC (ys ++ [q.gp]):=by
  show _=bq cw.cs (t.aC ++ [vA q lb t]) (ys ++ [q.gp])
  rw [yQ _ _ CT,wW,hP,pe0]
 rw [ed] at E
 have E:ak w0 S w9 [.av b (zW q (pU q lb t) ⟨s.sec,s.ten,y,s.key,s.gr⟩ ow sd) wG,.row bh 1 s.sec (bn t.bN),.row dF 3 s.ten (gR t.bI),.row cJ 6 s.gr (dY t.aX),.row dJ 5 y (bq cw.cs (pU q lb t).aC (ys ++ [q.gp])),.box fp fun w=>bw iY w ys t.aC,.row aV 4 s.key (bq aR.cs t.keys zs),.box fq fun w=>bw gq w zs t.keys,.av p (dZ 0 0 ⟨none,0,0⟩ ⟨none,0,0⟩) bF,.av p1 (lE n q.n3 q.gp 0 0) dJ]:=E
 have T8:iN w9 ⟨s.sec,s.ten,y,s.key,s.gr⟩ (pU q lb t):=⟨Own.bytes (E.qE 1 rfl),fo.of (E.fI 2 rfl),⟨ys ++ [q.gp],E.fI 4 rfl,by
  show bw yl w9 (ys ++ [q.gp]) (t.aC ++ [vA q lb t])
  rw [hP]
  exact bw.snoc (XK (E.box 5 rfl)) (hb E.mod)⟩,⟨zs,E.fI 6 rfl,XL (E.box 7 rfl)⟩,E.fI 3 rfl⟩
 have hv:jH 1=1312:=rfl
 have AI:(pU q lb t).small:={ hs with
  aC:=by show (t.aC ++ [_]).length≤1000; rw [List.length_append,List.length_singleton]; omega
  pk:=fun p hp=>by
   rcases List.mem_append.1 (show p∈t.aC ++ [vA q lb t] from hp) with h | h
   ·exact hs.pk p h
   ·rw [List.mem_singleton.1 h,hP]; show lb.length≤1000000; omega }
 refine nc (YU E 0 rfl (aB (Nr ⟨s.sec,s.ten,y,s.key,s.gr⟩ (pU q lb t) AI _ T8) ?_))
 rintro _ cL ⟨s',wq,wu,yw,yx,rfl,K⟩
 have E:=E.join K
 refine iZ (nc (alk E 0 rfl fun cX E=>E.bH 8 rfl rfl fun fR E=>E.cF 8 rfl ?_))
 refine ⟨0,n,⟨none,0,0⟩,⟨none,0,0⟩,.nilIface,rfl,fun h=>absurd rfl h,fun _=>⟨rfl,rfl,hn,q,s',ow,sd,wq,wu,yw,yx,?_⟩⟩
 have E:=E.cS (L':=cW b q (pU q lb t) s' ow sd wq wu yw yx) [0,10,11,12,13,14,15,16] (by decide) rfl
 exact JN E
end Go.Proofs.YtgjoehgomjgckaaGreatDoor
end
section
set_option linter.unusedVariables false
set_option linter.unusedSimpArgs false
namespace Go.Proofs.YtgjoehgomjgckaaGreatDoor
open Go Go.Ev
set_option maxRecDepth 20000
set_option linter.unusedVariables false
def cK (q:bG) (aq:List B8) (t:aS):aR:=qH ((t.keys.length:Int)+1) q.n3 q.n6 aq
def Cu (q:bG) (aq:List B8) (t:aS):Int:=
 if 1≤q.n6∧q.n6≤3 then (if aq.length=64 then (if t.keys.length=6 then 12 else (if mq ((t.keys.length:Int)+1) q.n3 q.n6 aq=0 then jv (cK q aq t) 1 mT else mq ((t.keys.length:Int)+1) q.n3 q.n6 aq)) else 3) else 2
def qI (q:bG) (aq:List B8) (t:aS):aS:={ t with keys:=t.keys ++ [cK q aq t] }
def Fq (q:bG) (aq:List B8) (t:aS):pT:=⟨(t.keys.length:Int)+1,sL (cK q aq t) 1 mT,[]⟩
theorem akf (id ten set:Int) (aq:List B8):(qH id ten set aq).aH.length≤1:=by
 unfold qH
 split
 ·exact Nat.le_refl 1
 ·exact Nat.zero_le 1
theorem akg (k:aR) (x:ah):∀ v∈dA k.id k.ten k.set x,ek v=true:=aR.lW k x
theorem acY {w0 w:World} {S:List Nat} {b:Nat} {q:bG} {t:aS} {s:eu} {ow:Int} {sd:ah} {ys zs:List ah} {fp fq:List Nat} (H:ak w0 S w (cW b q t s ow sd ys zs fp fq)) (hs:t.small) (h6:t.keys.length≤6) (aq:List B8) (dP:aq.length≤1000000) (gl:∀ {w'},Mod S w0 w'→Bytes w' sd aq) :
  Ok Pr Ll [.pointer (some ⟨b,0,none⟩)] w fun v w'=>jJ w0 S w' v b (qI q aq t) (Fq q aq t) (Cu q aq t):=by
 refine acB ?_
 unfold Lt
 rw [ru,o6]
 have hC:Cu q aq t=if 1≤q.n6∧q.n6≤3 then (if aq.length=64 then (if t.keys.length=6 then 12 else (if mq ((t.keys.length:Int)+1) q.n3 q.n6 aq=0 then jv (cK q aq t) 1 mT else mq ((t.keys.length:Int)+1) q.n3 q.n6 aq)) else 3) else 2:=rfl
 generalize Cu q aq t=C at *
 have hR:=uU H
 have ux:=hR.key.len
 have Kj:=(gl H.mod).len
 refine H.nw fun p w1 H _=>?_
 have H:ak w0 S w1 (cW b q t s ow sd ys zs fp fq ++ [.av p (dZ 0 0 ⟨none,0,0⟩ ⟨none,0,0⟩) bF]):=H
 have fin:∀ {w3:World} {L:List aE} (k:Nat) (er:Value),ak w0 S w3 ((cW b q t s ow sd ys zs fp fq ++ [.av p (dZ 0 0 ⟨none,0,0⟩ ⟨none,0,0⟩) bF]) ++ L)→C≠0→((cW b q t s ow sd ys zs fp fq ++ [.av p (dZ 0 0 ⟨none,0,0⟩ ⟨none,0,0⟩) bF]) ++ L)[9+k]? = some (aE.err er C)→
   bH ⟨p,0,none⟩ 0 0 ⟨none,0,0⟩ ⟨none,0,0⟩ w3 fun w4=>cF ⟨p,0,none⟩ w4 fun a b1 c1 d=>jJ w0 S w4 (.tuple ⟨[.agg ⟨[.int .i64 a,.int .i64 b1,.slice c1.a c1.n c1.c,.slice d.a d.n d.c]⟩,er]⟩) b (qI q aq t) (Fq q aq t) C:=by
  intro w3 L k er H hc hk
  refine H.bH 8 rfl rfl fun w4 H=>H.cF 8 rfl ?_
  exact jJ.no (9+k) hc H (by rw [List.getElem?_set,if_neg (by omega)]; exact hk) rfl
 have no:∀ {w2:World} (c:Int),ak w0 S w2 (cW b q t s ow sd ys zs fp fq ++ [.av p (dZ 0 0 ⟨none,0,0⟩ ⟨none,0,0⟩) bF])→c≠0→C=c→az Pr lD [.int .i64 c] w2 fun v w3=>bH ⟨p,0,none⟩ 0 0 ⟨none,0,0⟩ ⟨none,0,0⟩ w3 fun w4=>cF ⟨p,0,none⟩ w4 fun a b1 c1 d=>jJ w0 S w4 (.tuple ⟨[.agg ⟨[.int .i64 a,.int .i64 b1,.slice c1.a c1.n c1.c,.slice d.a d.n d.c]⟩,v]⟩) b (qI q aq t) (Fq q aq t) C:=by
  intro w2 c H hc e
  refine aB (AP c hc w2) ?_
  rintro er w3 ⟨h,m3⟩
  exact fin 0 er (H.gD m3 h) (by rw [e]; exact hc) (by rw [e]; rfl)
 refine jV fun go bY=>?_
 have go':(1≤q.n6∧q.n6≤3)→aq.length=64→t.keys.length≠6→go w1:=by
  intro c1 c2 c3
  rw [if_pos c1,if_pos c2,if_neg c3] at hC
  refine bY w1 (nc (H.ax 0 rfl (bE b 14 4) rfl ⟨by show aF ((s.key.n:Int)+1); unfold aF; omega,?_⟩))
  show lt ((s.key.n:Int)+1) _
  rw [← ux]
  obtain ⟨n,hn⟩:∃ n:Int,n=(t.keys.length:Int)+1:=⟨_,rfl⟩
  have Kv:cK q aq t=qH n q.n3 q.n6 aq:=by unfold cK; rw [hn]
  rw [← hn] at hC ⊢
  refine pn (uO fun go2 pJ=>?_)
  have D:=H.drew
  have bad:∀ (kp:Nat) (er:Value) (y:ah) (w3:World),mq n q.n3 q.n6 aq≠0→ak w0 S w3 ((cW b q t s ow sd ys zs fp fq ++ [.av p (dZ 0 0 ⟨none,0,0⟩ ⟨none,0,0⟩) bF]) ++ [.av kp (dA (cK q aq t).id (cK q aq t).ten (cK q aq t).set y) aV,aE.err er (mq n q.n3 q.n6 aq)])→go2 ⟨kp,0,none⟩ er w3:=by
   intro kp er y w3 c4 K
   have he:fZ w3 er (mq n q.n3 q.n6 aq):=K.ok 10 _ rfl
   rw [if_neg c4] at hC
   refine pJ _ _ _ (he.isNil ?_)
   exact ite_true (by rw [decide_eq_false c4]; rfl) (fin 1 er K (by rw [hC]; exact c4) (by rw [hC]; rfl))
  have behind:∀ (kp:Nat) (er:Value) (y:ah) (f:List Nat) (w3:World),mq n q.n3 q.n6 aq=0→er=.nilIface→ak w0 S w3 ((cW b q t s ow sd ys zs fp fq ++ [.av p (dZ 0 0 ⟨none,0,0⟩ ⟨none,0,0⟩) bF]) ++ [.av kp (dA (cK q aq t).id (cK q aq t).ten (cK q aq t).set y) aV,.box f fun w=>j0 w y (cK q aq t).aH])→go2 ⟨kp,0,none⟩ er w3:=by
   intro kp er y f w3 c4 qD K
   have he:fZ w3 er 0:=.inl ⟨qD,rfl⟩
   refine pJ _ _ _ (he.isNil ?_)
   rw [if_pos c4] at hC
   refine ite_false rfl ?_
   have K2:=K.drew
   refine nc (K2.ax 0 rfl (bE b 14 4) rfl (K2.bz 9 rfl (K2.g9 fun p1 w5 E m5=>⟨K2.kept m5 0 rfl (bE b 14 4) 1,?_⟩)))
   have jR:zs.length=t.keys.length:=(E.box 7 rfl:bw gq _ zs t.keys).1
   have hx:Sl w5 ⟨some ⟨p1,0,none⟩,1,1⟩ 4 (dA (cK q aq t).id (cK q aq t).ten (cK q aq t).set y):=by
    have:=(E.av 11 rfl).sl 4 1 1 (by simp) (by omega)
    simpa [dA] using this
   have J8:(s.key.n+(ah.mk (some ⟨p1,0,none⟩) 1 1).n) * 48≤140737488355328:=by simp only []; omega
   have j7:s.key.n+(ah.mk (some ⟨p1,0,none⟩) 1 1).n≤9223372036854775807:=by simp only []; omega
   refine E.app (x:=⟨some ⟨p1,0,none⟩,1,1⟩) (s:=s.key) (vs:=bq aR.cs t.keys zs) 6 RA rfl hx (akg _ _) J8 j7 fun u w6 E hu=>?_
   refine nc (E.st 0 rfl (bE b 14 4) (by show 18<22; omega) rfl fun w7 E=>?_)
   have ed:bq aR.cs t.keys zs ++ dA (cK q aq t).id (cK q aq t).ten (cK q aq t).set y=bq aR.cs (qI q aq t).keys (zs ++ [y]):=by
    show _=bq aR.cs (t.keys ++ [cK q aq t]) (zs ++ [y])
    rw [yQ _ _ jR,wW]; rfl
   rw [ed] at E
   have E:ak w0 S w7 [.av b (zW q (qI q aq t) ⟨s.sec,s.ten,s.aC,u,s.gr⟩ ow sd) wG,.row bh 1 s.sec (bn t.bN),.row dF 3 s.ten (gR t.bI),.row cJ 6 s.gr (dY t.aX),.row dJ 5 s.aC (bq cw.cs t.aC ys),.box fp fun w=>bw iY w ys t.aC,.row aV 4 u (bq aR.cs (qI q aq t).keys (zs ++ [y])),.box fq fun w=>bw gq w zs t.keys,.av p (dZ 0 0 ⟨none,0,0⟩ ⟨none,0,0⟩) bF,.av kp (dA (cK q aq t).id (cK q aq t).ten (cK q aq t).set y) aV,.box f fun w=>j0 w y (cK q aq t).aH,.av p1 (dA (cK q aq t).id (cK q aq t).ten (cK q aq t).set y) aV]:=E
   have hv:j0 w7 y (cK q aq t).aH:=E.box 10 rfl
   have Ki:(cK q aq t).aH.length≤1:=akf _ _ _ _
   refine E.bz 9 rfl (aB (U6 (cK q aq t) y 1 (by omega) w7 hv.aH) ?_)
   rintro _ w8 ⟨z,e2,rfl,G⟩
   have E:=E.join G
   refine ⟨_,rfl,_,rfl,rfl,E.bH 8 rfl rfl fun w9 E=>E.cF 8 rfl ?_⟩
   refine ⟨0,n,z,⟨none,0,0⟩,e2,rfl,fun _=>?_,fun h0=>?_⟩
   ·rw [hC]; exact E.only 13 rfl
   ·rw [hC] at h0
    have yh:fZ w9 e2 (jv (cK q aq t) 1 mT):=E.ok 13 _ rfl
    rw [h0] at yh
    refine ⟨tq yh,rfl,hn,q,⟨s.sec,s.ten,s.aC,u,s.gr⟩,ow,sd,ys,zs ++ [y],fp,fq ++ f,?_⟩
    have E:=E.merge 7 10 (t:=.box (fq ++ f) fun w=>bw gq w (zs ++ [y]) (qI q aq t).keys) rfl rfl (by omega) (fun h1 h2=>?_) (fun b hb=>List.mem_append.1 hb)
    ·have E:=E.Ey 12 rfl
     have E:=ak.xy E
     exact E.cS (L':=cW b q (qI q aq t) ⟨s.sec,s.ten,s.aC,u,s.gr⟩ ow sd ys (zs ++ [y]) fp (fq ++ f) ++ [.cut z (sL (cK q aq t) 1 mT),.cut ⟨none,0,0⟩ []]) [0,1,2,3,4,5,6,7,12,14] (by decide) rfl
    ·refine ⟨fun b hb=>?_,fun w2 h3=>?_⟩
     ·rcases List.mem_append.1 hb with h | h
      ·exact h1.1 b h
      ·exact h2.1 b h
     ·exact bw.snoc (h1.2 w2 fun b hb=>h3 b (List.mem_append_left _ hb)) (h2.2 w2 fun b hb=>h3 b (List.mem_append_right _ hb))
  refine nc (D.an 0 rfl (bE b 0 3) rfl (nc (D.an 0 rfl (bE b 0 6) rfl (nc (D.ax 0 rfl (au b 21) rfl ⟨?_,?_⟩)))))
  ·refine aB (VW n q.n3 q.n6 sd aq dP _ (gl D.mod)) ?_
   rintro _ cL ⟨y,er,rfl,hy,lC⟩
   rw [← Kv] at hy
   have eK:(qH n q.n3 q.n6 aq)=cK q aq t:=Kv.symm
   rw [eK]
   by_cases c4:mq n q.n3 q.n6 aq=0
   ·obtain ⟨f,D2⟩:=D.iu hy
    have T9:er=.nilIface:=tq (c4 ▸ lC.1)
    refine ⟨_,rfl,nZ ⟨rfl,D2.g9 fun p2 cX E qU=>⟨D2.kept qU 0 rfl (au b 21) 1,D2.kept qU 0 rfl (bE b 0 6) 1,D2.kept qU 0 rfl (bE b 0 3) 1,E.cA 10 rfl rfl fun fR E=>behind p2 er y f fR c4 T9 ?_⟩⟩⟩
    exact E.cS [0,1,2,3,4,5,6,7,8,10,9] (by decide) rfl
   ·have D2:=D.gD hy.mod lC
    refine ⟨_,rfl,nZ ⟨rfl,D2.g9 fun p2 cX E qU=>⟨D2.kept qU 0 rfl (au b 21) 1,D2.kept qU 0 rfl (bE b 0 6) 1,D2.kept qU 0 rfl (bE b 0 3) 1,E.cA 10 rfl rfl fun fR E=>bad p2 er y fR c4 ?_⟩⟩⟩
    exact E.cS [0,1,2,3,4,5,6,7,8,10,9] (by decide) rfl
  ·refine D.g9 fun p2 fF E jt=>⟨D.kept jt 0 rfl (au b 21) 1,D.kept jt 0 rfl (bE b 0 6) 1,D.kept jt 0 rfl (bE b 0 3) 1,aB (VW n q.n3 q.n6 sd aq dP _ (gl E.mod)) ?_⟩
   rintro _ cL ⟨y,er,rfl,hy,lC⟩
   rw [← Kv] at hy
   have eK:(qH n q.n3 q.n6 aq)=cK q aq t:=Kv.symm
   rw [eK]
   by_cases c4:mq n q.n3 q.n6 aq=0
   ·obtain ⟨f,D2⟩:=E.iu hy
    have T9:er=.nilIface:=tq (c4 ▸ lC.1)
    exact ⟨_,rfl,nZ ⟨rfl,D2.cA 9 rfl rfl fun fR E=>behind p2 er y f fR c4 T9 E⟩⟩
   ·have D2:=E.gD hy.mod lC
    exact ⟨_,rfl,nZ ⟨rfl,D2.cA 9 rfl rfl fun fR E=>bad p2 er y fR c4 E⟩⟩
 refine jA fun CY Cv=>?_
 have rest:∀ (r:Bool),(r=true→¬ (1≤q.n6∧q.n6≤3))→(r=false→1≤q.n6∧q.n6≤3)→CY r w1:=by
  intro r h1 h2
  refine Cv _ _ ?_
  cases r with
  | true=>exact ite_true rfl (no 2 H (by decide) (by rw [hC,if_neg (h1 rfl)]))
  | false=>
   have c1:=h2 rfl
   rw [if_pos c1] at hC
   refine ite_false rfl (nc (H.ax 0 rfl (au b 21) rfl ?_))
   by_cases c2:aq.length=64
   case neg=>
    rw [if_neg c2] at hC
    exact ite_true (by rw [decide_eq_false (by omega)]; rfl) (no 3 H (by decide) hC)
   rw [if_pos c2] at hC
   refine ite_false (by rw [decide_eq_true (by omega)]; rfl) (nc (H.ax 0 rfl (bE b 14 4) rfl ?_))
   by_cases c3:t.keys.length=6
   ·rw [if_pos c3] at hC
    exact ite_true (decide_eq_true (by show (s.key.n:Int)=6; omega)) (no 12 H (by decide) hC)
   ·exact ite_false (decide_eq_false (by show ¬ (s.key.n:Int)=6; omega)) (go' c1 c2 c3)
 refine nc (H.an 0 rfl (bE b 0 6) rfl ?_)
 show aA (decide (q.n6<1)) _ _
 by_cases c1:q.n6<1
 ·exact ite_true (decide_eq_true c1) (rest true (fun _=>by omega) (fun h=>by cases h))
 ·refine ite_false (decide_eq_false c1) (nc (H.an 0 rfl (bE b 0 6) rfl ?_))
  show CY (decide (3<q.n6)) w1
  by_cases c2:3<q.n6
  ·rw [decide_eq_true c2]; exact rest true (fun _=>by omega) (fun h=>by cases h)
  ·rw [decide_eq_false c2]; exact rest false (fun h=>by cases h) (fun _=>by omega)
end Go.Proofs.YtgjoehgomjgckaaGreatDoor
end
section
set_option linter.unusedVariables false
set_option linter.unusedSimpArgs false
namespace Go.Proofs.YtgjoehgomjgckaaGreatDoor
open Go Go.Ev
set_option maxRecDepth 20000
set_option linter.unusedVariables false
def cv (q:bG) (t:aS):aR:=t.keys.getD (q.n4 - 1).toNat kz
def Cw (q:bG) (aq:List B8) (t:aS):Int:=
 if q.n2=4 then (if oE (cv q t) aq.length=0 then jv (iV (cv q t) aq) ((iV (cv q t) aq).aH.length:Int) mT else oE (cv q t) aq.length) else vu (cv q t) q.n2 q.n5 q.nT t.clock
def Cx (q:bG) (aq:List B8) (t:aS):aR:=if q.n2=4 then iV (cv q t) aq else pN (cv q t) q.n2 q.n5 q.nT t.clock
def xP (q:bG) (aq:List B8) (t:aS):aS:={ t with keys:=t.keys.set (q.n4 - 1).toNat (Cx q aq t) }
def Fs (q:bG) (aq:List B8) (t:aS):pT:=if q.n2=4 then ⟨((iV (cv q t) aq).aH.length:Int),sL (iV (cv q t) aq) ((iV (cv q t) aq).aH.length:Int) mT,[]⟩ else ⟨0,[],[]⟩
theorem Th {A B:Prop} (h:B):fB .nilIface fun z=>aA (!z) A B:=h
theorem akh (k:aR) (aq:List B8):(iV k aq).aH.length≤k.aH.length+1:=by
 unfold iV
 split
 ·simp
 ·exact Nat.zero_le _
theorem acZ {w0 w:World} {S:List Nat} {b:Nat} {q:bG} {t:aS} {s:eu} {ow:Int} {sd:ah} {ys zs:List ah} {fp fq:List Nat} (H:ak w0 S w (cW b q t s ow sd ys zs fp fq)) (hs:t.small) (hk:aP 1 (t.keys.length:Int) q.n4=true) (aq:List B8) (dP:aq.length≤1000000) (gl:∀ {w'},Mod S w0 w'→Bytes w' sd aq) :
  Ok Pr Lm [.pointer (some ⟨b,0,none⟩)] w fun v w'=>jJ w0 S w' v b (xP q aq t) (Fs q aq t) (Cw q aq t):=by
 refine acC ?_
 unfold Lu
 rw [ru,o6]
 have hC:Cw q aq t=if q.n2=4 then (if oE (cv q t) aq.length=0 then jv (iV (cv q t) aq) ((iV (cv q t) aq).aH.length:Int) mT else oE (cv q t) aq.length) else vu (cv q t) q.n2 q.n5 q.nT t.clock:=rfl
 have hK:Cx q aq t=if q.n2=4 then iV (cv q t) aq else pN (cv q t) q.n2 q.n5 q.nT t.clock:=rfl
 have ko:Fs q aq t=if q.n2=4 then ⟨((iV (cv q t) aq).aH.length:Int),sL (iV (cv q t) aq) ((iV (cv q t) aq).aH.length:Int) mT,[]⟩ else ⟨0,[],[]⟩:=rfl
 obtain ⟨i,ei,en,hi⟩:=wQ hk
 have hT:xP q aq t={ t with keys:=t.keys.set i (Cx q aq t) }:=by unfold xP; rw [en]
 have yy:cv q t=t.keys.getD i kz:=by unfold cv; rw [en]
 have bO:=xk hs hi
 rw [← yy] at bO
 have yp:=hs.key
 generalize Cw q aq t=C at *
 generalize Cx q aq t=k' at *
 generalize Fs q aq t=R at *
 generalize xP q aq t=T at *
 refine H.nw fun p w1 H _=>?_
 have D:=H.drew
 obtain ⟨mL,dh,x,dy,yz⟩:=RD (M:=[_]) D hi
 refine nc (D.ax 0 rfl (bE b 14 4) rfl (nc (D.an 0 rfl (bE b 0 4) rfl ⟨by unfold aF; omega,?_⟩)))
 show aU s.key.a (q.n4 - 1) s.key.n _
 rw [ei]
 rw [← yy] at mL yz
 refine ⟨dh,D.g9 fun p1 w2 E m2=>qo (fun j v h=>m2.o9 (yz j v h)) (E.nw fun p2 w3 E _=>E.cA 10 rfl rfl fun w4 E=>?_)⟩
 have E:ak w0 S w4 (cW b q t s ow sd ys zs fp fq ++ [.av p (dZ 0 0 ⟨none,0,0⟩ ⟨none,0,0⟩) bF,.av p1 (dZ 0 0 ⟨none,0,0⟩ ⟨none,0,0⟩) bF,.av p2 (dA (cv q t).id (cv q t).ten (cv q t).set x) aV]):=E
 have cell:∀ {w':World} {M:List aE},ak w0 S w' (cW b q t s ow sd ys zs fp fq ++ M)→∀ (j:Nat) (v:Value),((cv q t).cs x)[j]? = some v→w'.cell? (Addr.add (Addr.add (base s.key.a) (Int.toNat (i:Int) * 4)) j)=some v:=fun G j v hv=>by
  rw [Int.toNat_natCast]
  exact (G.fI 6 rfl).uX aR.ct mL dy hv
 have br:∀ {w':World} {M:List aE},ak w0 S w' (cW b q t s ow sd ys zs fp fq ++ M)→fO w' x (cv q t).aH:=fun G=>(RX G dy mL).aH
 refine jA fun go bY=>?_
 have bad:∀ (er:Value) (w5:World) (L:List aE),C≠0→ak w0 S w5 (cW b q t s ow sd ys zs fp fq ++ ([.av p (dZ 0 0 ⟨none,0,0⟩ ⟨none,0,0⟩) bF,aE.err er C] ++ L))→go er w5:=by
  intro er w5 L hc K
  have he:fZ w5 er C:=K.ok 9 _ rfl
  refine bY _ _ (he.isNil (ite_true (by rw [decide_eq_false hc]; rfl) (K.bH 8 rfl rfl fun w6 K=>K.cF 8 rfl ?_)))
  exact jJ.no 9 hc K rfl rfl
 have aJ:∀ (ri:Int) (y u:ah) (f:List Nat) (l:List B8) (w5:World),C=0→ak w0 S w5 (cW b q t s ow sd ys zs fp fq ++ [.av p (dZ 0 0 ⟨none,0,0⟩ ⟨none,0,0⟩) bF,.av p1 (dZ 0 ri y ⟨none,0,0⟩) bF,.av p2 (dA k'.id k'.ten k'.set u) aV,.box f fun w=>j0 w u k'.aH,.cut y l])→R=⟨ri,l,[]⟩→go .nilIface w5:=by
  intro ri y u f l w5 hc K hr
  refine bY _ _ ?_
  refine Th (K.bz 10 rfl ?_)
  have jR:zs.length=t.keys.length:=(K.box 7 rfl:bw gq _ zs t.keys).1
  show o5 (k'.cs u) _ 0 _ _
  refine K.putAt 6 rfl aR.ct jR hi k' u (aR.lW k' u) fun w7 K=>K.cF 9 rfl (K.bH 8 rfl rfl fun w8 K=>K.cF 8 rfl ?_)
  refine ⟨0,ri,y,⟨none,0,0⟩,.nilIface,rfl,fun h=>absurd hc h,fun _=>⟨rfl,rfl,by rw [hr],q,s,ow,sd,ys,zs.set i u,fp,fq ++ f,?_⟩⟩
  rw [hT,hr]
  have K:=K.merge 7 11 (t:=.box (fq ++ f) fun w=>bw gq w (zs.set i u) (t.keys.set i k')) rfl rfl (by omega) (fun h1 h2=>?_) (fun b hb=>List.mem_append.1 hb)
  ·have K:=ak.xy K
   exact K.cS (L':=cW b q { t with keys:=t.keys.set i k' } s ow sd ys (zs.set i u) fp (fq ++ f) ++ [.cut y l,.cut ⟨none,0,0⟩ []]) [0,1,2,3,4,5,6,7,12,13] (by decide) rfl
  ·refine ⟨fun b hb=>?_,fun w2 h3=>?_⟩
   ·rcases List.mem_append.1 hb with h | h
    ·exact h1.1 b h
    ·exact h2.1 b h
   ·exact bw.put (h1.2 w2 fun b hb=>h3 b (List.mem_append_left _ hb)) (h2.2 w2 fun b hb=>h3 b (List.mem_append_right _ hb))
 refine nc (E.an 0 rfl (bE b 0 2) rfl ?_)
 show aA (decide (q.n2=4)) _ _
 have E2:=E.drew
 by_cases c4:q.n2=4
 ·rw [if_pos c4] at hC hK ko
  refine ite_true (decide_eq_true c4) (qo (cell E2) (nc (E2.ax 0 rfl (au b 21) rfl (aB (afF (cv q t) x sd aq (by omega) _ (br E2) (gl E2.mod)) ?_))))
  rintro _ w9 ⟨u,er,rfl,hu,lC⟩
  by_cases e1:oE (cv q t) aq.length=0
  case neg=>
   rw [if_neg e1] at hC
   have G:=E2.gD hu.mod lC
   refine ⟨_,rfl,nZ ⟨rfl,G.cA 10 rfl rfl fun cL G=>?_⟩⟩
   have he:fZ cL er (oE (cv q t) aq.length):=G.ok 11 _ rfl
   refine he.isNil (ite_true (by rw [decide_eq_false e1]; rfl) (G.cF 9 rfl (G.bH 8 rfl rfl fun cX G=>G.cF 8 rfl ?_)))
   rw [hC]
   exact jJ.no 11 e1 G rfl rfl
  rw [if_pos e1] at hC
  have qD:er=.nilIface:=tq (e1 ▸ lC.1)
  subst qD
  obtain ⟨f,G⟩:=E2.iu hu
  rw [← hK] at hC ko G ⊢
  refine ⟨_,rfl,nZ ⟨rfl,G.cA 10 rfl rfl fun cL G=>Th ?_⟩⟩
  have hvu:j0 cL u k'.aH:=G.box 11 rfl
  have jE:=hvu.aH.len
  have ary:k'.aH.length≤1001:=by rw [hK]; have:=akh (cv q t) aq; omega
  refine G.ax 10 rfl (au p2 3) rfl (G.st 9 rfl (au p1 1) (by show 1<4; omega) rfl fun fR G=>G.bz 10 rfl (G.an 9 rfl (au p1 1) rfl ?_))
  refine aB (U6 k' u (u.n:Int) (by omega) fR (j0.aH (G.box 11 rfl))) ?_
  rw [← jE] at *
  rintro _ fF ⟨y,e2,rfl,Y⟩
  have G:=G.join Y
  refine ⟨_,rfl,_,rfl,rfl,G.st 9 rfl (au p1 2) (by show 2<4; omega) rfl fun fX G=>?_⟩
  by_cases e3:C=0
  ·have yh:fZ fX e2 (jv k' (k'.aH.length:Int) mT):=G.ok 13 _ rfl
   rw [← hC,e3] at yh
   have tX:=tq yh
   subst tX
   have G:=G.Ey 12 rfl
   exact aJ (k'.aH.length:Int) y u f (sL k' (k'.aH.length:Int) mT) fX e3 (G.cS [0,1,2,3,4,5,6,7,8,9,10,11,12] (by decide) rfl) ko
  ·refine bad e2 fX [] e3 (G.cS [0,1,2,3,4,5,6,7,8,13] (by decide) ?_)
   rw [hC]; rfl
 ·rw [if_neg c4] at hC hK ko
  refine ite_false (decide_eq_false c4) (qo (cell E2) (nc (E2.an 0 rfl (bE b 0 2) rfl (nc (E2.an 0 rfl (bE b 0 5) rfl (nc (E2.an 0 rfl (bE b 0 10) rfl (nc (E2.an 0 rfl (bE b 14 0) rfl (aB (ahL (cv q t) x q.n2 q.n5 q.nT t.clock (by omega) _ (br E2)) ?_))))))))))
  rintro _ w9 ⟨u,er,rfl,hu,lC⟩
  rw [← hC] at lC
  rw [← hK] at hu ⊢
  by_cases e1:C=0
  ·have qD:er=.nilIface:=tq (e1 ▸ lC.1)
   subst qD
   obtain ⟨f,G⟩:=E2.iu hu
   refine ⟨_,rfl,nZ ⟨rfl,G.cA 10 rfl rfl fun cL G=>?_⟩⟩
   exact aJ 0 ⟨none,0,0⟩ u f [] cL e1 (ak.xy G) ko
  ·have G:=E2.gD hu.mod lC
   refine ⟨_,rfl,nZ ⟨rfl,G.cA 10 rfl rfl fun cL G=>?_⟩⟩
   exact bad er cL [] e1 (G.cS [0,1,2,3,4,5,6,7,8,11] (by decide) rfl)
end Go.Proofs.YtgjoehgomjgckaaGreatDoor
end
section
set_option linter.unusedVariables false
set_option linter.unusedSimpArgs false
namespace Go.Proofs.YtgjoehgomjgckaaGreatDoor
open Go Go.Ev
set_option maxRecDepth 20000
set_option linter.unusedVariables false
def nG (l s:List B8) (i:Nat):List B8:=(List.range s.length).map fun j=>if j<i then s.getD j 0 ^^^ l.getD j 0 else s.getD j 0
theorem y9 (l s:List B8) (i:Nat):(nG l s i).length=s.length:=by simp [nG]
theorem IJ (l s:List B8) (i j:Nat) (hj:j<s.length):(nG l s i)[j]? = some (if j<i then s.getD j 0 ^^^ l.getD j 0 else s.getD j 0):=by
 unfold nG
 rw [List.getElem?_map,List.getElem?_range hj]; rfl
theorem WZ (l s:List B8):nG l s 0=s:=by
 refine List.ext_getElem? fun j=>?_
 rcases Nat.lt_or_ge j s.length with h | h
 ·rw [IJ l s 0 j h,if_neg (by omega),List.getD_eq_getElem?_getD,List.getElem?_eq_getElem h]; rfl
 ·rw [List.getElem?_eq_none (by rw [y9]; exact h),List.getElem?_eq_none h]
theorem aje (l s:List B8) (i:Nat) (hi:i<s.length):(nG l s i).set i (s.getD i 0 ^^^ l.getD i 0)=nG l s (i+1):=by
 refine List.ext_getElem? fun j=>?_
 rw [List.getElem?_set]
 rcases Nat.lt_or_ge j s.length with h | h
 ·rw [IJ l s (i+1) j h]
  by_cases e:i=j
  ·subst e
   rw [if_pos rfl,if_pos (by rw [y9]; exact hi),if_pos (by omega)]
  ·rw [if_neg e,IJ l s i j h]
   by_cases h2:j<i
   ·rw [if_pos h2,if_pos (by omega)]
   ·rw [if_neg h2,if_neg (by omega)]
 ·rw [if_neg (by omega),List.getElem?_eq_none (by rw [y9]; exact h),List.getElem?_eq_none (by rw [y9]; exact h)]
theorem amg {k:aR} {br:Int} {c:List B8} (h:oC k br c=0):(oL k br c).length=32:=by
 unfold oL
 rw [if_pos h]
 unfold oC at h
 split at h
 ·unfold uw
  rw [if_pos h]
  split
  ·have hg:(qk k.set (wj k br j4) c).length=64:=by unfold qk; exact s4 72 6 _ 64 (by omega)
   rw [List.length_take,hg]; rfl
  ·exact s4 136 31 _ 32 (by omega)
 ·omega
theorem alm {k:aR} {m:List B8} (h:kV k m=0):(sM k m).length=32:=by
 unfold sM
 rw [if_pos h]
 unfold kV at h
 split at h
 ·cases hc:kD k with
  | none=>rw [hc] at h; cases h
  | some v=>
   rw [hc] at h
   unfold x5
   rw [if_pos (show oO k.set (ju k.set ((some v).getD vz).aq) m=0 from h),List.length_take,YG]; rfl
 ·cases h
def Gp (q:bG) (lb aq:List B8) (t:aS):Int:=
 if q.n2=9 then kV (cv q t) aq else (if oC (cv q t) q.n5 lb=0 then (if q.n2=10 then 0 else kV (cv q t) aq) else oC (cv q t) q.n5 lb)
def Gq (q:bG) (lb aq:List B8) (t:aS):pT:=
 if q.n2=9 then ⟨wk (cv q t) aq,jP (cv q t) aq,sM (cv q t) aq⟩ else if q.n2=10 then ⟨0,oL (cv q t) q.n5 lb,[]⟩
 else ⟨wk (cv q t) aq,jP (cv q t) aq,nG (oL (cv q t) q.n5 lb) (sM (cv q t) aq) 32⟩
theorem _root_.Go.Ev.ak.anO {w0 w:World} {S:List Nat} {L:List aE} (H:ak w0 S w L) (k:Nat) {y:ah} {l:List B8} (hk:L[k]? = some (.cut y l)) {i:Nat} (hi:i<l.length) (x:B8) {K:World→Prop}
  (h:∀ w',ak w0 S w' (L.set k (.cut y (l.set i x)))→K w'):Ev.st (Addr.add (base y.a) (Int.toNat (i:Int) * 1)) (.int .u8 (x.toNat:Int)) w K:=by
 rcases H.ok k _ hk with ⟨rfl,rfl⟩ | ⟨g,cur,t,h1,h2,h3,h4,h5,h6⟩
 ·simp at hi
 ·have Ki:i<cur.length:=by
   have:=congrArg List.length h6
   rw [List.length_take,yN] at this
   omega
  rw [h1]
  show Ev.st (Addr.add ⟨g,0,none⟩ _) _ w K
  rw [Int.toNat_natCast,Nat.mul_one,au]
  refine RI h2 Ki rfl fun w' h7 h8 _=>h w' (H.iQ k hk h8 (fun c hc=>.inl (by simp [aE.cut,ah.row,h1]; simpa using hc)) (.inr ⟨g,cur.set i (.int .u8 (x.toNat:Int)),t,h1,h7,by rw [List.length_set]; exact h3,h4,⟨h5.1,h5.2.1,by rw [List.length_set]; exact h5.2.2⟩,?_⟩) (fun b hb=>.inl hb))
  rw [List.take_set,h6]
  show (bn l).set i (.int .u8 (x.toNat:Int))=_
  rw [akR]
theorem aek {w0 w:World} {S:List Nat} {b:Nat} {q:bG} {t:aS} {s:eu} {ow:Int} {sd:ah} {ys zs:List ah} {fp fq:List Nat} (H:ak w0 S w (cW b q t s ow sd ys zs fp fq)) (hs:t.small) (hu:jm q.n2=true) (hk:aP 1 (t.keys.length:Int) q.n4=true) (lb aq:List B8) (hb:∀ {w'},Mod S w0 w'→Bytes w' q.gp lb) (gl:∀ {w'},Mod S w0 w'→Bytes w' sd aq) :
  Ok Pr LN [.pointer (some ⟨b,0,none⟩)] w fun v w'=>jJ w0 S w' v b t (Gq q lb aq t) (Gp q lb aq t):=by
 refine adp ?_
 unfold Mk
 rw [ru,o6]
 have hC:Gp q lb aq t=if q.n2=9 then kV (cv q t) aq else (if oC (cv q t) q.n5 lb=0 then (if q.n2=10 then 0 else kV (cv q t) aq) else oC (cv q t) q.n5 lb):=rfl
 have ko:Gq q lb aq t=if q.n2=9 then ⟨wk (cv q t) aq,jP (cv q t) aq,sM (cv q t) aq⟩ else if q.n2=10 then ⟨0,oL (cv q t) q.n5 lb,[]⟩ else ⟨wk (cv q t) aq,jP (cv q t) aq,nG (oL (cv q t) q.n5 lb) (sM (cv q t) aq) 32⟩:=rfl
 obtain ⟨i,ei,en,hi⟩:=wQ hk
 have yy:cv q t=t.keys.getD i kz:=by unfold cv; rw [en]
 have bO:=xk hs hi
 rw [← yy] at bO
 have yp:=hs.key
 generalize Gp q lb aq t=C at *
 generalize Gq q lb aq t=R at *
 refine H.nw fun p w1 H _=>?_
 have D:=H.drew
 obtain ⟨mL,dh,x,dy,yz⟩:=RD (M:=[_]) D hi
 refine nc (D.ax 0 rfl (bE b 14 4) rfl (nc (D.an 0 rfl (bE b 0 4) rfl ⟨by unfold aF; omega,?_⟩)))
 show aU s.key.a (q.n4 - 1) s.key.n _
 rw [ei]
 rw [← yy] at mL yz
 refine ⟨dh,qo yz (D.g9 fun p1 w2 E m2=>⟨yY m2 (yz 0 _ rfl),D.kept m2 0 rfl (bE b 0 4) 1,D.kept m2 0 rfl (bE b 14 4) 1,E.cA 9 rfl rfl fun w3 E=>E.nw fun p2 w4 E _=>?_⟩)⟩
 have E:ak w0 S w4 (cW b q t s ow sd ys zs fp fq ++ [.av p (dZ 0 0 ⟨none,0,0⟩ ⟨none,0,0⟩) bF,.av p1 (dA (cv q t).id (cv q t).ten (cv q t).set x) aV,.av p2 (dZ 0 0 ⟨none,0,0⟩ ⟨none,0,0⟩) bF]):=E
 have br:∀ {w':World} {M:List aE},ak w0 S w' (cW b q t s ow sd ys zs fp fq ++ M)→fO w' x (cv q t).aH:=fun G=>(RX G dy mL).aH
 generalize TG:cv q t=k at *
 refine jA fun go bY=>?_
 have loop:∀ (old y z:ah) (n:Int) (l lL lS:List B8) (w5:World),C=0→l.length≤32→l.length≤lS.length→R=⟨n,lL,nG l lS l.length⟩→ak w0 S w5 (cW b q t s ow sd ys zs fp fq ++ [.av p (dZ 0 0 ⟨none,0,0⟩ ⟨none,0,0⟩) bF,.av p2 (dZ 0 n y z) bF,.cut old l,.cut y lL,.cut z lS])→go old w5:=by
  intro old y z n l lL lS w5 hc kG TQ hr K
  refine bY _ _ ?_
  have hol:l.length=old.n:=(Cut.bytes (K.ok 10 _ rfl)).len
  refine cZ 0 l.length (fun i w'=>ak w0 S w' (cW b q t s ow sd ys zs fp fq ++ [.av p (dZ 0 0 ⟨none,0,0⟩ ⟨none,0,0⟩) bF,.av p2 (dZ 0 n y z) bF,.cut old l,.cut y lL,.cut z (nG l lS i)])) rfl (by omega) (by rw [WZ]; exact K) ?_ ?_
  ·intro again i w6 _ hi K aM
   have h1:Bytes w6 old l:=Cut.bytes (K.ok 10 _ rfl)
   have h2:Bytes w6 z (nG l lS i):=Cut.bytes (K.ok 12 _ rfl)
   have wo:=h2.len
   rw [y9] at wo
   have Jv:z.a.isSome=true∧(0:Int)≤(i:Int)∧(i:Int)<(z.n:Int):=⟨h2.pre (by omega),by omega,by omega⟩
   have hg:(nG l lS i).getD i 0=lS.getD i 0:=by
    rw [List.getD_eq_getElem?_getD,IJ l lS i i (by omega),if_neg (by omega)]; rfl
   refine ite_true (decide_eq_true (by omega)) (h1.ld hi (K.ax 9 rfl (au p2 3) rfl (h2.ld (by rw [y9]; omega) ⟨Jv,?_⟩)))
   rw [hg,anZ]
   refine K.anO 12 rfl (by rw [y9]; omega) _ fun w7 K=>⟨⟨by omega,by omega⟩,aM w7 ?_⟩
   rw [aje l lS i (by omega)] at K
   exact K
  ·intro again w6 K
   refine ite_false (decide_eq_false (by omega)) (K.cF 9 rfl (K.bH 8 rfl rfl fun w8 K=>K.cF 8 rfl ?_))
   refine ⟨0,n,y,z,.nilIface,rfl,fun h=>absurd hc h,fun _=>⟨rfl,rfl,by rw [hr],q,s,ow,sd,ys,zs,fp,fq,?_⟩⟩
   rw [hr]
   exact K.cS [0,1,2,3,4,5,6,7,11,12] (by decide) rfl
 refine nc (E.an 0 rfl (bE b 0 2) rfl (jA fun jG iB=>?_))
 have Z9:∀ (old:ah) (l:List B8) (w9:World),C=kV k aq→(kV k aq=0→l.length≤32∧R=⟨wk k aq,jP k aq,nG l (sM k aq) l.length⟩)→ak w0 S w9 (cW b q t s ow sd ys zs fp fq ++ [.av p (dZ 0 0 ⟨none,0,0⟩ ⟨none,0,0⟩) bF,.av p1 (dA k.id k.ten k.set x) aV,.av p2 (dZ 0 0 ⟨none,0,0⟩ ⟨none,0,0⟩) bF,.cut old l])→jG old w9:=by
  intro old l w9 hc hr K
  refine iB _ _ ?_
  have K:=K.drew
  refine K.bz 9 rfl (nc (K.ax 0 rfl (au b 21) rfl (aB (aha k x sd aq (by omega) _ (br K) (gl K.mod)) ?_)))
  rintro _ cL ⟨y,z,er,rfl,G⟩
  have K:=K.join G
  refine ⟨_,rfl,_,rfl,_,rfl,_,rfl,rfl,K.st 10 rfl (au p2 1) (by show 1<4; omega) rfl fun cX K=>K.st 10 rfl (au p2 2) (by show 2<4; omega) rfl fun fR K=>K.st 10 rfl (au p2 3) (by show 3<4; omega) rfl fun fF K=>?_⟩
  have he:fZ fF er (kV k aq):=K.ok 14 _ rfl
  refine he.isNil ?_
  by_cases e1:kV k aq=0
  ·obtain ⟨hl,hr⟩:=hr e1
   rw [e1] at hc
   have K:=K.Ey 12 rfl
   refine ite_false (by rw [decide_eq_true e1]; rfl) (loop old y z (wk k aq) l (jP k aq) (sM k aq) fF hc hl (by rw [alm e1]; exact hl) hr ?_)
   exact K.cS [0,1,2,3,4,5,6,7,8,10,11,12,13] (by decide) rfl
  ·refine ite_true (by rw [decide_eq_false e1]; rfl) (K.bH 8 rfl rfl fun fX K=>K.cF 8 rfl ?_)
   rw [hc]
   exact jJ.no 14 e1 K rfl rfl
 refine jV fun go2 pJ=>?_
 have op:q.n2≠9→go2 w4:=by
  intro h9
  rw [if_neg h9] at hC ko
  have K:=E.drew
  refine pJ w4 (K.bz 9 rfl (nc (K.an 0 rfl (bE b 0 5) rfl (nc (K.ax 0 rfl (bE b 0 12) rfl (aB (ahb k x q.gp q.n5 lb (by omega) _ (br K) (hb K.mod)) ?_))))))
  rintro _ kJ ⟨y,er,rfl,G⟩
  have K:=K.join G
  have he:fZ kJ er (oC k q.n5 lb):=K.ok 12 _ rfl
  refine ⟨_,rfl,_,rfl,rfl,he.isNil ?_⟩
  by_cases e1:oC k q.n5 lb=0
  case neg=>
   rw [if_neg e1] at hC
   refine ite_true (by rw [decide_eq_false e1]; rfl) (K.cF 10 rfl (K.bH 8 rfl rfl fun sB K=>K.cF 8 rfl ?_))
   rw [hC]
   exact jJ.no 12 e1 K rfl rfl
  rw [if_pos e1] at hC
  have hl:=amg e1
  refine ite_false (by rw [decide_eq_true e1]; rfl) (nc (K.an 0 rfl (bE b 0 2) rfl ?_))
  show aA (decide (q.n2=10)) _ _
  by_cases iO:q.n2=10
  ·rw [if_pos iO] at hC ko
   refine ite_true (decide_eq_true iO) (K.bH 8 rfl rfl fun j8 K=>K.cF 8 rfl ?_)
   refine ⟨0,0,y,⟨none,0,0⟩,.nilIface,rfl,fun h=>absurd hC h,fun _=>⟨rfl,rfl,by rw [ko],q,s,ow,sd,ys,zs,fp,fq,?_⟩⟩
   rw [ko]
   have K:=ak.xy K
   exact K.cS [0,1,2,3,4,5,6,7,11,13] (by decide) rfl
  ·rw [if_neg iO] at hC ko
   refine ite_false (decide_eq_false iO) (Z9 y (oL k q.n5 lb) kJ hC (fun _=>⟨by omega,by rw [ko,hl]⟩) (K.take 12))
 have no9:q.n2=9→jG ⟨none,0,0⟩ w4:=by
  intro h9
  rw [if_pos h9] at hC ko
  exact Z9 ⟨none,0,0⟩ [] w4 hC (fun _=>⟨by simp,by rw [ko]; show _=pT.mk _ _ (nG [] _ 0); rw [WZ]⟩) (ak.xy E)
 show aA (decide (q.n2=11)) (aA (decide (q.n2=11)) _ _) (aA (decide (q.n2=10)) _ _)
 by_cases xQ:q.n2=11
 ·exact ite_true (decide_eq_true xQ) (ite_true (decide_eq_true xQ) (op (by omega)))
 ·refine ite_false (decide_eq_false xQ) ?_
  by_cases iO:q.n2=10
  ·exact ite_true (decide_eq_true iO) (op (by omega))
  ·refine ite_false (decide_eq_false iO) (no9 ?_)
   unfold jm at hu
   rw [decide_eq_false xQ,decide_eq_false iO,Bool.or_false,Bool.or_false] at hu
   exact of_decide_eq_true hu
end Go.Proofs.YtgjoehgomjgckaaGreatDoor
end
section
set_option linter.unusedVariables false
set_option linter.unusedSimpArgs false
namespace Go.Proofs.YtgjoehgomjgckaaGreatDoor
open Go Go.Ev
set_option maxRecDepth 20000
set_option linter.unusedVariables false
def hO (q:bG):bP:=⟨0,q.n4,q.n8,q.n9,q.nT,false⟩
def zZ (q:bG) (t:aS):Int:=if q.n2=13 then nF t.aX q.n7 else if q.nT≤t.clock then 2 else oG t.aX (hO q)
def vB (q:bG) (t:aS):aS:={ t with aX:=if q.n2=13 then kF t.aX q.n7 else j5 t.aX (hO q) }
def Ft (q:bG) (t:aS):pT:=if q.n2=13 then ⟨0,[],[]⟩ else ⟨vv t.aX (hO q),tok t.bN (mw t.aX (hO q)),[]⟩
theorem adq {w0 w:World} {S:List Nat} {b:Nat} {q:bG} {t:aS} {s:eu} {ow:Int} {sd:ah} {ys zs:List ah} {fp fq:List Nat} (H:ak w0 S w (cW b q t s ow sd ys zs fp fq)) (hs:t.small) (zX:t.bN.length≤1000) :
  Ok Pr Lw [.pointer (some ⟨b,0,none⟩)] w fun v w'=>jJ w0 S w' v b (vB q t) (Ft q t) (zZ q t):=by
 refine acJ ?_
 unfold LB
 rw [ru]
 have CV:=hs.gr
 have hC:zZ q t=if q.n2=13 then nF t.aX q.n7 else if q.nT≤t.clock then 2 else oG t.aX (hO q):=rfl
 have hT:vB q t={ t with aX:=if q.n2=13 then kF t.aX q.n7 else j5 t.aX (hO q) }:=rfl
 have ko:Ft q t=if q.n2=13 then ⟨0,[],[]⟩ else ⟨vv t.aX (hO q),tok t.bN (mw t.aX (hO q)),[]⟩:=rfl
 generalize zZ q t=C at *
 generalize vB q t=T at *
 generalize Ft q t=R at *
 refine H.nw fun p w1 H _=>?_
 have D:=H.drew
 refine nc (H.an 0 rfl (bE b 0 2) rfl ?_)
 show aA (decide (q.n2=13)) _ _
 by_cases j9:q.n2=13
 ·rw [if_pos j9] at hC hT ko
  have hR:iN _ s t:=uU (D.take 8)
  refine ite_true (decide_eq_true j9) (nc (D.ax 0 rfl (bE b 14 5) rfl (nc (D.an 0 rfl (bE b 0 7) rfl (aB (aee s.gr t.aX q.n7 (by omega) _ hR.gr) ?_)))))
  rintro _ w2 ⟨y,er,rfl,hy,he,hn,m⟩
  have K:=D.SP m hy he hn
  refine ⟨_,rfl,_,rfl,rfl,nc (K.st 0 rfl (bE b 14 5) (by show 19<22; omega) rfl fun w3 K=>K.bH 8 rfl rfl fun w4 K=>K.cF 8 rfl ?_)⟩
  refine ⟨0,0,⟨none,0,0⟩,⟨none,0,0⟩,er,rfl,fun _=>by rw [hC]; exact K.only 10 rfl,fun h0=>?_⟩
  have he:fZ w4 er (nF t.aX q.n7):=K.ok 10 _ rfl
  rw [hC] at h0
  rw [h0] at he
  refine ⟨tq he,rfl,by rw [ko],q,⟨s.sec,s.ten,s.aC,s.key,y⟩,ow,sd,ys,zs,fp,fq,?_⟩
  rw [hT,ko]
  exact JN (K.cS (L':=cW b q { t with aX:=kF t.aX q.n7 } ⟨s.sec,s.ten,s.aC,s.key,y⟩ ow sd ys zs fp fq) [0,1,2,9,4,5,6,7] (by decide) rfl)
 ·rw [if_neg j9] at hC hT ko
  refine ite_false (decide_eq_false j9) (nc (D.an 0 rfl (bE b 0 10) rfl (nc (D.an 0 rfl (bE b 14 0) rfl ?_))))
  show aA (decide (q.nT≤t.clock)) _ _
  by_cases hu:q.nT≤t.clock
  ·rw [if_pos hu] at hC
   refine ite_true (decide_eq_true hu) (aB (AP 2 (by decide) _) ?_)
   rintro er w3 ⟨h,m3⟩
   have K:=D.gD m3 h
   refine K.bH 8 rfl rfl fun w4 K=>K.cF 8 rfl ?_
   rw [hC]
   exact jJ.no 9 (by decide) K rfl rfl
  rw [if_neg hu] at hC
  have D2:=D.drew
  have hR:iN _ s t:=uU (D2.take 8)
  refine ite_false (decide_eq_false hu) (nc (D2.ax 0 rfl (bE b 14 5) rfl (nc (D2.an 0 rfl (bE b 0 4) rfl (nc (D2.an 0 rfl (bE b 0 8) rfl (nc (D2.an 0 rfl (bE b 0 9) rfl (nc (D2.an 0 rfl (bE b 0 10) rfl (aB (agC s.gr t.aX (hO q) (by omega) _ hR.gr) ?_)))))))))))
  rintro _ w7 ⟨y,er,rfl,hy,he,hn,m⟩
  have K:=D2.SP m hy he hn
  refine ⟨_,rfl,_,rfl,_,rfl,rfl,he.1.isNil ?_⟩
  by_cases e1:oG t.aX (hO q)=0
  case neg=>
   refine ite_true (by rw [decide_eq_false e1]; rfl) (K.bH 8 rfl rfl fun w8 K=>K.cF 8 rfl ?_)
   rw [hC]
   exact jJ.no 10 e1 K rfl rfl
  have eL:j5 t.aX (hO q)=t.aX ++ [mw t.aX (hO q)]:=by unfold j5; rw [if_pos e1]
  have eN:vv t.aX (hO q)=(t.aX.length:Int)+1:=by unfold vv; rw [if_pos e1]
  have qD:er=.nilIface:=tq (e1 ▸ he.1)
  rw [e1] at hC
  refine ite_false (by rw [decide_eq_true e1]; rfl) (nc (K.st 0 rfl (bE b 14 5) (by show 19<22; omega) rfl fun w9 K=>?_))
  have K:=K.drew
  have hg:gQ _ y (t.aX ++ [mw t.aX (hO q)]):=eL ▸ K.fI 9 rfl
  refine nc (K.ax 0 rfl (bE b 14 1) rfl ⟨by rw [eN]; unfold aF; omega,?_⟩)
  rw [eN,Int.add_sub_cancel]
  have jq:(t.aX ++ [mw t.aX (hO q)]).getD t.aX.length gz=mw t.aX (hO q):=by
   rw [List.getD_eq_getElem?_getD,List.getElem?_append_right (Nat.le_refl _),Nat.sub_self]; rfl
  refine hg.ld (i:=t.aX.length) (by simp) rfl ?_
  rw [jq]
  refine aB (UW s.sec t.bN (mw t.aX (hO q)) zX _ (Own.bytes (K.qE 1 rfl))) ?_
  rintro _ cL ⟨z,rfl,hz,Gh⟩
  have K:=K.cB Gh hz
  refine bW (K.bH 8 rfl rfl fun cX K=>K.cF 8 rfl ?_)
  refine ⟨0,(t.aX.length:Int)+1,z,⟨none,0,0⟩,.nilIface,rfl,fun h=>absurd hC h,fun _=>⟨rfl,rfl,by rw [ko,eN],q,⟨s.sec,s.ten,s.aC,s.key,y⟩,ow,sd,ys,zs,fp,fq,?_⟩⟩
  rw [hT,ko]
  have K:=ak.xy (K.Ey 11 rfl)
  exact K.cS (L':=cW b q { t with aX:=j5 t.aX (hO q) } ⟨s.sec,s.ten,s.aC,s.key,y⟩ ow sd ys zs fp fq ++ [.cut z (tok t.bN (mw t.aX (hO q))),.cut ⟨none,0,0⟩ []]) [0,1,2,9,4,5,6,7,11,12] (by decide) rfl
def oQ (q:bG) (lb aq:List B8) (t:aS):Int:=
 if q.n2=1 then oF t.bI q.n3 q.name else if q.n2=2 then Ct lb t else if q.n2=3 then Cu q aq t else if jm q.n2=true then Gp q lb aq t
 else if q.n2=12∨q.n2=13 then zZ q t else Cw q aq t
def nV (q:bG) (lb aq:List B8) (t:aS):aS:=
 if q.n2=1 then zY q t else if q.n2=2 then pU q lb t else if q.n2=3 then qI q aq t else if jm q.n2=true then t
 else if q.n2=12∨q.n2=13 then vB q t else xP q aq t
def Gr (q:bG) (lb aq:List B8) (t:aS):pT:=
 if q.n2=1 then S9 q t else if q.n2=2 then JO t else if q.n2=3 then Fq q aq t else if jm q.n2=true then Gq q lb aq t
 else if q.n2=12∨q.n2=13 then Ft q t else Fs q aq t
structure Fit (q:bG) (t:aS):Prop where
 small:t.small
 aC:t.aC.length≤6
 key:t.keys.length≤6
 sec:t.bN.length=32
 the:iK q.n2=false→aP 1 (t.keys.length:Int) q.n4=true
theorem _root_.Go.Ev.ak.sub {w0 w:World} {S:List Nat} {L M:List aE} (H:ak w0 S w (L ++ M)):ak w (L.flatMap (·.fp)) w L:=by
 have e:∀ {k:Nat} {r:aE},L[k]? = some r→(L ++ M)[k]? = some r:=fun {k r} h=>by
  rw [List.getElem?_append_left (List.getElem?_eq_some_iff.1 h).1]; exact h
 exact ⟨Mod.refl _ _,fun k r h=>H.ok k r (e h),fun k r h b hb=>.inl (List.mem_flatMap.2 ⟨r,List.mem_of_getElem? h,hb⟩),fun j k r s lp h1 h2=>H.apart j k r s lp (e h1) (e h2)⟩
theorem _root_.Go.Ev.ak.JP {w0 w:World} {S:List Nat} {L M:List aE} (H:ak w0 S w (L ++ M)):∀ b∈L.flatMap (·.fp),b∈S∨w0.heap.size≤b:=fun b hb=>by
 obtain ⟨r,hr,hb⟩:=List.mem_flatMap.1 hb
 obtain ⟨k,hk⟩:=List.getElem?_of_mem hr
 exact H.own k r (by rw [List.getElem?_append_left (List.getElem?_eq_some_iff.1 hk).1]; exact hk) b hb
theorem _root_.Go.Ev.ak.back {w0 w w':World} {S:List Nat} {L M L':List aE} (H:ak w0 S w (L ++ M)) (K:ak w (L.flatMap (·.fp)) w' L'):ak w0 S w' (L' ++ M):=by
 have hL:∀ b∈L.flatMap (·.fp),(b∈S∨w0.heap.size≤b)∧∃ (k:Nat) (r:aE),L[k]? = some r∧b∈r.fp:=fun b hb=>by
  obtain ⟨r,hr,hb⟩:=List.mem_flatMap.1 hb
  obtain ⟨k,hk⟩:=List.getElem?_of_mem hr
  have qR:(L ++ M)[k]? = some r:=by rw [List.getElem?_append_left (List.getElem?_eq_some_iff.1 hk).1]; exact hk
  exact ⟨H.own k r qR b hb,k,r,hk,hb⟩
 have em:∀ {k:Nat} {r:aE},M[k]? = some r→(L ++ M)[L.length+k]? = some r:=fun {k r} h=>by
  rw [List.getElem?_append_right (Nat.le_add_right _ _),Nat.add_sub_cancel_left]; exact h
 have hM:∀ {k:Nat} {r:aE},M[k]? = some r→∀ b∈r.fp,b<w.heap.size∧b∉L.flatMap (·.fp):=fun {k r} h b hb=>by
  refine ⟨r.lt w (H.ok _ r (em h)) b hb,fun h2=>?_⟩
  obtain ⟨_,i,s,hi,hs⟩:=hL b h2
  have Ko:=(List.getElem?_eq_some_iff.1 hi).1
  exact H.apart i (L.length+k) s r (by omega) (by rw [List.getElem?_append_left Ko]; exact hi) (em h) b hs hb
 have e:∀ {k:Nat} {r:aE},(L' ++ M)[k]? = some r→(L'[k]? = some r∧k<L'.length)∨(L'.length≤k∧M[k - L'.length]? = some r):=fun {k r} h=>by
  rcases Nat.lt_or_ge k L'.length with hk | hk
  ·rw [List.getElem?_append_left hk] at h; exact .inl ⟨h,hk⟩
  ·rw [List.getElem?_append_right hk] at h; exact .inr ⟨hk,h⟩
 have x:∀ {j k:Nat} {r s:aE},L'[j]? = some r→M[k]? = some s→∀ b∈r.fp,b∉s.fp:=fun {j k r s} h1 h2 b h3 h4=>by
  obtain ⟨h5,h6⟩:=hM h2 b h4
  rcases K.own j r h1 b h3 with h | h
  ·exact h6 h
  ·omega
 refine ⟨H.mod.trans' K.mod fun b hb=>(hL b hb).1,fun k r h=>?_,fun k r h b hb=>?_,fun j k r s lp h1 h2 b hb j7=>?_⟩
 ·rcases e h with ⟨h,_⟩ | ⟨_,h⟩
  ·exact K.ok k r h
  ·exact r.kC w w' (fun b hb=>K.mod.block b (hM h b hb).1 (hM h b hb).2) (H.ok _ r (em h))
 ·rcases e h with ⟨h,_⟩ | ⟨_,h⟩
  ·rcases K.own k r h b hb with h3 | h3
   ·exact (hL b h3).1
   ·exact .inr (Nat.le_trans H.mod.size h3)
  ·exact H.own _ r (em h) b hb
 ·rcases e h1 with ⟨g1,l1⟩ | ⟨l1,g1⟩
  ·rcases e h2 with ⟨g2,_⟩ | ⟨_,g2⟩
   ·exact K.apart j k r s lp g1 g2 b hb j7
   ·exact x g1 g2 b hb j7
  ·rcases e h2 with ⟨g2,_⟩ | ⟨l2,g2⟩
   ·exact x g2 g1 b j7 hb
   ·exact H.apart _ _ r s (by omega) (em g1) (em g2) b hb j7
theorem aeZ {w0 w:World} {S:List Nat} {b:Nat} {q:bG} {t:aS} {s:eu} {ow:Int} {sd:ah} {ys zs:List ah} {fp fq:List Nat} (H:ak w0 S w (cW b q t s ow sd ys zs fp fq)) (hf:Fit q t) (lb aq:List B8) (hb:∀ {w'},Mod S w0 w'→Bytes w' q.gp lb) (dP:aq.length≤1000000) (gl:∀ {w'},Mod S w0 w'→Bytes w' sd aq) :
  Ok Pr Mm [.pointer (some ⟨b,0,none⟩)] w fun v w'=>jJ w0 S w' v b (nV q lb aq t) (Gr q lb aq t) (oQ q lb aq t):=by
 refine adI ?_
 unfold MH
 rw [ru]
 have hC:oQ q lb aq t=if q.n2=1 then oF t.bI q.n3 q.name else if q.n2=2 then Ct lb t else if q.n2=3 then Cu q aq t else if jm q.n2=true then Gp q lb aq t else if q.n2=12∨q.n2=13 then zZ q t else Cw q aq t:=rfl
 have hT:nV q lb aq t=if q.n2=1 then zY q t else if q.n2=2 then pU q lb t else if q.n2=3 then qI q aq t else if jm q.n2=true then t else if q.n2=12∨q.n2=13 then vB q t else xP q aq t:=rfl
 have hR:Gr q lb aq t=if q.n2=1 then S9 q t else if q.n2=2 then JO t else if q.n2=3 then Fq q aq t else if jm q.n2=true then Gq q lb aq t else if q.n2=12∨q.n2=13 then Ft q t else Fs q aq t:=rfl
 generalize oQ q lb aq t=C at *
 generalize nV q lb aq t=T at *
 generalize Gr q lb aq t=R at *
 refine H.nw fun p w1 H _=>?_
 have H:ak w0 S w1 (cW b q t s ow sd ys zs fp fq ++ [.av p (dZ 0 0 ⟨none,0,0⟩ ⟨none,0,0⟩) bF]):=H
 have j7:∀ {w'},Mod ((cW b q t s ow sd ys zs fp fq).flatMap (·.fp)) w1 w'→Bytes w' q.gp lb:=fun {w'} m=>hb (H.mod.trans' m H.JP)
 have Tj:∀ {w'},Mod ((cW b q t s ow sd ys zs fp fq).flatMap (·.fp)) w1 w'→Bytes w' sd aq:=fun {w'} m=>gl (H.mod.trans' m H.JP)
 have D:=H.sub
 have fin:∀ {f:FuncId} (T':aS) (R':pT) (C':Int),Ok Pr f [.pointer (some ⟨b,0,none⟩)] w1 (fun v w'=>jJ w1 ((cW b q t s ow sd ys zs fp fq).flatMap (·.fp)) w' v b T' R' C')→T'=T→R'=R→C'=C→
   az Pr f [.pointer (some ⟨b,0,none⟩)] w1 fun v w3=>bB.bC v fun vs=>aD vs fun Uh r=>fG Uh fun a1 a2 a3 a4=>aD r fun Uj Uk=>(Uk=[]∧bH ⟨p,0,none⟩ a1 a2 a3 a4 w3 fun w4=>cF ⟨p,0,none⟩ w4 fun c1 c2 c3 c4=>jJ w0 S w4 (.tuple ⟨[.agg ⟨[.int .i64 c1,.int .i64 c2,.slice c3.a c3.n c3.c,.slice c4.a c4.n c4.c]⟩,Uj]⟩) b T R C):=by
  intro f T' R' C' h e1 e2 e3
  subst e1 e2 e3
  refine aB h ?_
  rintro _ w3 ⟨rc,ri,y,z,er,rfl,h1,h2⟩
  refine ⟨_,rfl,oS ⟨rfl,?_⟩⟩
  by_cases hc:C'=0
  ·obtain ⟨rfl,rfl,rfl,q',s',kK,Ul,wq,wu,yw,yx,K⟩:=h2 hc
   have K:=H.back K
   refine K.bH 10 rfl rfl fun w4 K=>K.cF 10 rfl ?_
   exact ⟨0,R'.id,y,z,.nilIface,rfl,fun h=>absurd hc h,fun _=>⟨rfl,rfl,rfl,q',s',kK,Ul,wq,wu,yw,yx,K.take 10⟩⟩
  ·have K:=H.back (h1 hc)
   refine K.bH 1 rfl rfl fun w4 K=>K.cF 1 rfl ?_
   exact jJ.no 0 hc K rfl rfl
 refine jV fun go bY=>nc (H.an 0 rfl (bE b 0 2) rfl ?_)
 show aA (decide (q.n2=1)) _ _
 by_cases e1:q.n2=1
 ·rw [if_pos e1] at hC hT hR
  exact ite_true (decide_eq_true e1) (fin _ _ _ (acW D hf.small) hT.symm hR.symm hC.symm)
 rw [if_neg e1] at hC hT hR
 refine ite_false (decide_eq_false e1) ?_
 by_cases e2:q.n2=2
 ·rw [if_pos e2] at hC hT hR
  exact ite_true (decide_eq_true e2) (fin _ _ _ (acX D hf.small hf.aC lb j7) hT.symm hR.symm hC.symm)
 rw [if_neg e2] at hC hT hR
 refine ite_false (decide_eq_false e2) ?_
 by_cases e3:q.n2=3
 ·rw [if_pos e3] at hC hT hR
  exact ite_true (decide_eq_true e3) (fin _ _ _ (acY D hf.small hf.key aq dP Tj) hT.symm hR.symm hC.symm)
 rw [if_neg e3] at hC hT hR
 have hm:iK q.n2=false:=by
  unfold iK
  rw [decide_eq_false e1,decide_eq_false e2,decide_eq_false e3]; rfl
 have hk:=hf.the hm
 have zX:t.bN.length≤1000:=by have:=hf.sec; omega
 refine ite_false (decide_eq_false e3) (jA fun go2 pJ=>?_)
 have G:go2 (jm q.n2) w1:=by
  refine pJ _ _ ?_
  cases hu:jm q.n2 with
  | true=>
   rw [hu,if_pos rfl] at hC hT hR
   exact ite_true rfl (fin _ _ _ (aek D hf.small hu hk lb aq j7 Tj) hT.symm hR.symm hC.symm)
  | false=>
   rw [hu,if_neg (by decide)] at hC hT hR
   refine ite_false rfl (jA fun CY Cv=>?_)
   have g1:q.n2=12∨q.n2=13→CY true w1:=fun h=>by
    rw [if_pos h] at hC hT hR
    exact Cv _ _ (ite_true rfl (fin _ _ _ (adq D hf.small zX) hT.symm hR.symm hC.symm))
   have g2:¬ (q.n2=12∨q.n2=13)→CY false w1:=fun h=>by
    rw [if_neg h] at hC hT hR
    exact Cv _ _ (ite_false rfl (bY _ (fin _ _ _ (acZ D hf.small hk aq dP Tj) hT.symm hR.symm hC.symm)))
   by_cases iC:q.n2=12
   ·refine ite_true (decide_eq_true iC) ?_
    rw [decide_eq_true iC]
    exact g1 (.inl iC)
   ·refine ite_false (decide_eq_false iC) ?_
    by_cases j9:q.n2=13
    ·rw [decide_eq_true j9]; exact g1 (.inr j9)
    ·rw [decide_eq_false j9]; exact g2 (fun h=>h.elim iC j9)
 have tv:∀ {z:Int},jm z=true→q.n2=z→go2 (decide (q.n2=z)) w1:=fun hz e=>by
  rw [e] at G ⊢
  rw [hz] at G
  rw [decide_eq_true rfl]
  exact G
 refine bU (fun h=>tv rfl (of_decide_eq_true h)) fun h9=>?_
 refine bU (fun h=>tv rfl (of_decide_eq_true h)) fun iO=>?_
 have e:jm q.n2=decide (q.n2=11):=by
  unfold jm
  have h9:decide (q.n2=9)=false:=h9
  have iO:decide (q.n2=10)=false:=iO
  rw [h9,iO]; rfl
 rw [e] at G
 exact G
end Go.Proofs.YtgjoehgomjgckaaGreatDoor
end
section
set_option linter.unusedVariables false
set_option linter.unusedSimpArgs false
namespace Go.Proofs.YtgjoehgomjgckaaGreatDoor
open Go Go.Ev
set_option maxRecDepth 20000
set_option linter.unusedVariables false
def qK (q:bG) (t:aS):bG:={ q with n4:=fQ q t }
def dC (q:bG) (lb lt aq:List B8) (t:aS):Int:=if oH q lt t=0 then oQ (qK q t) lb aq (dO q t) else oH q lt t
def dT (q:bG) (lb lt aq:List B8) (t:aS):aS:=if dC q lb lt aq t=0 then nV (qK q t) lb aq (dO q t) else gH
def dR (q:bG) (lb lt aq:List B8) (t:aS):pT:=if dC q lb lt aq t=0 then Gr (qK q t) lb aq (dO q t) else ⟨0,[],[]⟩
theorem aiq {t:aS} (h:fC t=true):t.clock≤1099511627776∧0≤t.clock∧t.bN.length=32∧1≤t.bI.length∧gG t.bI=true∧(1≤t.aC.length∧t.aC.length≤6)∧t.keys.length≤6∧gh t.aX=true:=by
 unfold fC zV aP at h
 simp only [Bool.and_eq_true,decide_eq_true_eq] at h
 obtain ⟨⟨h1,h2,h3,h4,h5,h6,h7⟩,_⟩:=h
 exact ⟨h1.2,h1.1,h2,h3,h4,⟨by omega,by omega⟩,h6,h7⟩
theorem IB {q:bG} {lt:List B8} {t:aS} (h:oH q lt t=0):fC t=true∧ou q=true∧aP 1 (t.aC.length:Int) q.n0=true∧mu (dM q t).high (dM q t).used q.n1=0∧gT q t=true∧tM q lt t (oz q t)=0:=by
 unfold oH at h
 split at h
 ·rename_i h1
  rw [Bool.and_eq_true] at h1
  split at h
  ·rename_i h2
   split at h
   ·rename_i h3
    split at h
    ·rename_i h4
     exact ⟨h1.1,h1.2,h2,h3,h4,h⟩
    ·omega
   ·omega
  ·omega
 ·omega
theorem XM {q:bG} {lt:List B8} {t:aS} (hs:t.small) (h:oH q lt t=0):Fit (qK q t) (dO q t):=by
 obtain ⟨h1,_,h2,_,h4,_⟩:=IB h
 have hp:=aiq h1
 exact ⟨Wo hs h2,by show (t.aC.set _ _).length≤6; rw [List.length_set]; exact hp.2.2.2.2.2.1.2,hp.2.2.2.2.2.2.1,hp.2.2.1,fun hm=>by
  have hm:iK q.n2=false:=hm
  unfold gT at h4
  rw [if_neg (by rw [hm]; decide),Bool.and_eq_true,Bool.and_eq_true] at h4
  exact h4.2.1⟩
theorem ahg (e:Value) (c:Int) (hc:c≠0) (w:World) (hg:Laid w) (h:fZ w e c):Ok Pr DM [e] w fun v w'=>v=.int .i64 c∧Mod [] w w':=by
 rcases h with ⟨_,h⟩ | ⟨b,s,rfl,hb,_⟩
 ·exact absurd h hc
 ·exact VQ b c w hg (by rw [hb.cell]; rfl)
def Ans (w w':World) (v:Value) (T:aS) (c:Int) (R:pT):Prop:=
 ∃ s ys zs fp fq y z er,v=.tuple ⟨[.agg ⟨T.cs s⟩,.agg ⟨dZ c R.id y z⟩,er]⟩∧ak w [] w' (iW s T ys zs fp fq ++ [.cut y R.gp,.cut z R.ex,aE.err er c])
theorem fV {w w':World} {b:Nat} {cs:List Value} {t:TypeId} (h:bX w b cs t) (h':bX w' b cs t) (n:Nat):kept ⟨b,0,none⟩ n w w':=fun j _=>by rw [au,h.cell,h'.cell]
theorem ak.ZK {w0 w:World} {S:List Nat} {L:List aE} (H:ak w0 S w L):ak w0 S w (L ++ [aE.err .nilIface 0]):=
 H.push (Mod.refl _ _) (.inl ⟨rfl,rfl⟩) (fun b hb=>by cases hb)
theorem wL (s:eu) (t:aS) (q:bG) (lb lt:List B8) (sd:ah) (aq:List B8) (hs:t.small) (dP:aq.length≤1000000) (w:World) (hg:Laid w) (hx:iN w s t) (hb:Bytes w q.gp lb) (ht:Bytes w q.tok lt) (gl:Bytes w sd aq) :
  Ok Pr gA [.agg ⟨t.cs s⟩,.agg ⟨q.cells⟩,.slice sd.a sd.n sd.c] w fun v w'=>Ans w w' v (dT q lb lt aq t) (dC q lb lt aq t) (dR q lb lt aq t):=by
 refine agG ?_
 unfold Qt
 rw [th,ru]
 have hC:dC q lb lt aq t=if oH q lt t=0 then oQ (qK q t) lb aq (dO q t) else oH q lt t:=rfl
 have hT:dT q lb lt aq t=if dC q lb lt aq t=0 then nV (qK q t) lb aq (dO q t) else gH:=rfl
 have hR:dR q lb lt aq t=if dC q lb lt aq t=0 then Gr (qK q t) lb aq (dO q t) else ⟨0,[],[]⟩:=rfl
 generalize dC q lb lt aq t=C at *
 generalize dT q lb lt aq t=T at *
 generalize dR q lb lt aq t=R at *
 refine (ak.start w).nw fun p w1 H _=>H.nw fun p1 w2 H _=>H.nw fun p2 w3 H _=>H.nw fun p3 w4 H _=>?_
 have H:ak w [] w4 [.av p (t.cs s) aN,.av p1 q.cells kZ,.av p2 (gH.cs sZ) aN,.av p3 (dZ 0 0 ⟨none,0,0⟩ ⟨none,0,0⟩) bF]:=H
 refine H.bT 0 rfl (H.jz 1 rfl (aB (afJ s t q lt sd hs _ (hx.aG H.mod) (ht.aG H.mod)) ?_))
 rintro _ w5 ⟨pj,er,rfl,lC,m5,aox⟩
 refine ⟨_,rfl,pj,rfl,rfl,?_⟩
 refine qv fun p4 w6 hb4 hk4 m6 _=>?_
 refine jA fun go bY=>?_
 have fail:∀ {w7:World} (e:Value),C≠0→ak w [] w7 [.av p2 (gH.cs sZ) aN,.av p3 (dZ 0 0 ⟨none,0,0⟩ ⟨none,0,0⟩) bF,aE.err e C]→go e w7:=by
  intro w7 e hc K
  rw [if_neg hc] at hT hR
  subst hT hR
  have he:fZ w7 e C:=K.ok 2 _ rfl
  refine bY _ _ (he.isNil (ite_true (by rw [decide_eq_false hc]; rfl) (aB (ahg e C hc w7 (hg.oD K (by simp)) he) ?_)))
  rintro _ w8 ⟨rfl,m8⟩
  have K:=K.frame m8
  refine ⟨_,rfl,K.bM 0 rfl rfl fun w9 K=>K.bH 1 rfl rfl fun cL K=>K.bT 0 rfl (K.cF 1 rfl ?_)⟩
  refine ⟨sZ,[],[],[],[],⟨none,0,0⟩,⟨none,0,0⟩,e,rfl,?_⟩
  exact (JN (Rg K)).cS (L':=iW sZ gH [] [] [] [] ++ [.cut ⟨none,0,0⟩ [],.cut ⟨none,0,0⟩ [],aE.err e C]) [3,4,5,6,7,8,9,10,11,2] (by decide) rfl
 refine lC.1.isNil ?_
 by_cases h0:oH q lt t=0
 case neg=>
  rw [if_neg h0] at hC
  refine ite_false (decide_eq_false h0) ?_
  have K:=(H.gD m5 lC).frame m6
  exact fail er (by rw [hC]; exact h0) (K.cS [2,3,4] (by decide) (by rw [hC]; rfl))
 rw [if_pos h0] at hC
 have qD:er=.nilIface:=tq (h0 ▸ lC.1)
 subst qD
 obtain ⟨b,s',ys,zs,fp,fq,rfl,J⟩:=aox h0
 have K:=((H.join J).frame (Mod.refl [] _)).push (r:=.av p4 (dZ 0 0 ⟨none,0,0⟩ ⟨none,0,0⟩) bF) m6 hk4 (by simp [aE.av,hb4])
 have K:ak w [] w6 (cW b (qK q t) (dO q t) s' (oz q t) sd ys zs fp fq ++ [.av p2 (gH.cs sZ) aN,.av p3 (dZ 0 0 ⟨none,0,0⟩ ⟨none,0,0⟩) bF,.av p4 (dZ 0 0 ⟨none,0,0⟩ ⟨none,0,0⟩) bF]):=K.cS [4,5,6,7,8,9,10,11,2,3,12] (by decide) rfl
 refine ite_true (decide_eq_true h0) (aB (aeZ K.sub (XM hs h0) lb aq (fun m=>hb.aG (K.mod.trans' m K.JP)) dP (fun m=>gl.aG (K.mod.trans' m K.JP))) ?_)
 rintro _ fF ⟨rc,ri,y,z,er,rfl,h1,h2⟩
 refine ⟨_,rfl,oS ⟨rfl,?_⟩⟩
 rw [← hC] at h1 h2
 by_cases hc:C=0
 ·obtain ⟨rfl,rfl,rfl,q',s2,kK,Ul,wq,wu,yw,yx,G⟩:=h2 hc
  rw [if_pos hc] at hT hR
  rw [← hT,← hR] at G
  rw [← hR]
  have G:=K.back G
  have G:ak w [] fF [.av b (zW q' T s2 kK Ul) wG,.row bh 1 s2.sec (bn T.bN),.row dF 3 s2.ten (gR T.bI),.row cJ 6 s2.gr (dY T.aX),.row dJ 5 s2.aC (bq cw.cs T.aC wq),.box yw fun w=>bw iY w wq T.aC,.row aV 4 s2.key (bq aR.cs T.keys wu),.box yx fun w=>bw gq w wu T.keys,.cut y R.gp,.cut z R.ex,.av p2 (gH.cs sZ) aN,.av p3 (dZ 0 0 ⟨none,0,0⟩ ⟨none,0,0⟩) bF,.av p4 (dZ 0 0 ⟨none,0,0⟩ ⟨none,0,0⟩) bF]:=G
  refine G.bH 12 rfl rfl fun fX G=>bY _ _ (Th ?_)
  have G:=G.drew
  refine YU G 0 rfl (G.cF 12 rfl (G.bM 10 rfl rfl fun kH E=>⟨fV (G.av 12 rfl) (E.av 12 rfl) 4,E.bH 11 rfl rfl fun kJ E=>E.bT 10 rfl (E.cF 11 rfl ?_)⟩))
  refine ⟨s2,wq,wu,yw,yx,y,z,.nilIface,by rw [hc]; rfl,?_⟩
  rw [hc]
  exact (ak.ZK E).cS (L':=iW s2 T wq wu yw yx ++ [.cut y R.gp,.cut z R.ex,aE.err .nilIface 0]) [1,2,3,4,5,6,7,8,9,13] (by decide) rfl
 ·have G:=K.back (h1 hc)
  refine G.bH 3 rfl rfl fun fX G=>fail er hc (G.cS [1,2,0] (by decide) rfl)
end Go.Proofs.YtgjoehgomjgckaaGreatDoor
end
section
set_option linter.unusedVariables false
set_option linter.unusedSimpArgs false
namespace Go.Proofs.YtgjoehgomjgckaaGreatDoor
open Go Go.Ev
set_option maxRecDepth 20000
set_option linter.unusedVariables false
def oR (l:List aR) (c:Int) (i:Nat):List aR:=(List.range l.length).map fun j=>if j<i then wh (l.getD j kz) c else l.getD j kz
def AL (l:List aR) (c:Int):Nat→Nat
 | 0=>0
 | i+1=>AL l c i+x9 (l.getD i kz) c
theorem zu (l:List aR) (c:Int) (i:Nat):(oR l c i).length=l.length:=by simp [oR]
theorem I0 (l:List aR) (c:Int) (i j:Nat) (hj:j<l.length):(oR l c i)[j]? = some (if j<i then wh (l.getD j kz) c else l.getD j kz):=by
 unfold oR
 rw [List.getElem?_map,List.getElem?_range hj]; rfl
theorem aki (l:List aR) (c:Int):oR l c 0=l:=by
 refine List.ext_getElem? fun j=>?_
 rcases Nat.lt_or_ge j l.length with h | h
 ·rw [I0 l c 0 j h,if_neg (by omega),List.getD_eq_getElem?_getD,List.getElem?_eq_getElem h]; rfl
 ·rw [List.getElem?_eq_none (by rw [zu]; exact h),List.getElem?_eq_none h]
theorem XN (l:List aR) (c:Int) (i:Nat) (hi:i<l.length):(oR l c i).set i (wh (l.getD i kz) c)=oR l c (i+1):=by
 refine List.ext_getElem? fun j=>?_
 rw [List.getElem?_set]
 rcases Nat.lt_or_ge j l.length with h | h
 ·rw [I0 l c (i+1) j h]
  by_cases e:i=j
  ·subst e
   rw [if_pos rfl,if_pos (by rw [zu]; exact hi),if_pos (by omega)]
  ·rw [if_neg e,I0 l c i j h]
   by_cases h2:j<i
   ·rw [if_pos h2,if_pos (by omega)]
   ·rw [if_neg h2,if_neg (by omega)]
 ·rw [if_neg (by omega),List.getElem?_eq_none (by rw [zu]; exact h),List.getElem?_eq_none (by rw [zu]; exact h)]
theorem ZL (k:aR) (c:Int):x9 k c≤k.aH.length:=by
 unfold x9 x8
 split
 ·exact List.countP_le_length
 ·exact Nat.zero_le _
theorem ZM {t:aS} (hs:t.small) (c:Int):∀ i,i≤t.keys.length→AL t.keys c i≤i * 1000
 | 0,_=>Nat.le_refl 0
 | i+1,h=>by
  have:=ZM hs c i (by omega)
  have h2:=ZL (t.keys.getD i kz) c
  have h3:=xk hs (i:=i) (by omega)
  show AL t.keys c i+x9 (t.keys.getD i kz) c≤_
  omega
def xE (t:aS) (c:Int):Int:=if fC t=true then (if t.clock≤c∧c≤1099511627776 then 0 else 2) else 2
def Um (t:aS) (c:Int):aS:={ t with clock:=c,keys:=oR t.keys c t.keys.length }
def Jw (t:aS) (c:Int):aS:=if xE t c=0 then Um t c else gH
def Jy (t:aS) (c:Int):Int:=if xE t c=0 then (AL t.keys c t.keys.length:Int) else 0
def Tkd (w w':World) (v:Value) (T:aS) (m c:Int):Prop:=
 ∃ s ys zs fp fq er,v=.tuple ⟨[.agg ⟨T.cs s⟩,.int .i64 m,er]⟩∧ak w [] w' (iW s T ys zs fp fq ++ [aE.err er c])
theorem agH (s:eu) (t:aS) (c:Int) (hs:t.small) (w:World) (hx:iN w s t) :
  Ok Pr Nz [.agg ⟨t.cs s⟩,.int .i64 c] w fun v w'=>Tkd w w' v (Jw t c) (Jy t c) (xE t c):=by
 refine aeY ?_
 unfold Ou
 rw [th,o6]
 have hC:xE t c=if fC t=true then (if t.clock≤c∧c≤1099511627776 then 0 else 2) else 2:=rfl
 have hT:Jw t c=if xE t c=0 then Um t c else gH:=rfl
 have hM:Jy t c=if xE t c=0 then (AL t.keys c t.keys.length:Int) else 0:=rfl
 generalize xE t c=C at *
 generalize Jw t c=T at *
 generalize Jy t c=M at *
 have yp:=hs.key
 refine (ak.start w).nw fun p w1 H _=>H.nw fun p1 w2 H _=>?_
 have H:ak w [] w2 [.av p (t.cs s) aN,.av p1 (gH.cs sZ) aN]:=H
 refine H.bT 0 rfl (aB (VG s t hs _ (hx.aG H.mod)) ?_)
 rintro _ w3 ⟨rfl,m3⟩
 have H:=H.frame m3
 refine bu (H.an 0 rfl (au p 0) rfl ?_)
 have Sk:((!fC t || decide (c<t.clock)) || decide ((1099511627776:Int)<c))=!(decide (C=0)):=by
  rw [hC]
  cases fC t with
  | false=>rfl
  | true=>
   by_cases h1:c<t.clock
   ·rw [if_pos rfl,if_neg (by omega),decide_eq_true h1]; rfl
   ·rw [if_pos rfl,decide_eq_false h1]
    by_cases h2:(1099511627776:Int)<c
    ·rw [if_neg (by omega),decide_eq_true h2]; rfl
    ·rw [if_pos (by omega),decide_eq_false h2]; rfl
 show aA ((!fC t || decide (c<t.clock)) || decide ((1099511627776:Int)<c)) _ _
 rw [Sk]
 by_cases h0:C=0
 case neg=>
  rw [if_neg h0] at hT hM
  subst hT hM
  have Ke:C=2:=by
   rw [hC] at h0 ⊢
   split
   ·split
    ·rename_i h1 h2; rw [if_pos h1,if_pos h2] at h0; exact absurd rfl h0
    ·rfl
   ·rfl
  refine ite_true (by rw [decide_eq_false h0]; rfl) (aB (AP 2 (by decide) w3) ?_)
  rintro er w4 ⟨he,m4⟩
  have K:=H.gD m4 he
  refine K.bM 1 rfl rfl fun w5 K=>K.bT 1 rfl ⟨sZ,[],[],[],[],er,rfl,?_⟩
  rw [Ke]
  exact (Rg K).cS (L':=iW sZ gH [] [] [] [] ++ [aE.err er 2]) [3,4,5,6,7,8,9,2] (by decide) rfl
 rw [if_pos h0] at hT hM
 subst hT hM
 refine ite_false (by rw [decide_eq_true h0]; rfl) (H.bT 0 rfl (aB (Nr s t hs _ (hx.aG H.mod)) ?_))
 rintro _ w6 ⟨s',ys,zs,fp,fq,rfl,G⟩
 have H:=H.join G
 refine iZ (H.bM 0 rfl rfl fun w7 H=>H.st 0 rfl (au p 0) (by show 0<6; omega) rfl fun w8 H=>?_)
 have ux:=(H.fI 7 rfl).len
 rw [ir aR.ct _ _ (H.box 8 rfl:bw gq _ zs t.keys).1] at ux
 refine H.ax 0 rfl (au p 4) rfl ?_
 refine k5 0 t.keys.length (fun i (m:Int) w'=>m=(AL t.keys c i:Int)∧∃ zs fq,ak w [] w' [.av p ((Um t c).cs s') aN,.av p1 (gH.cs sZ) aN,.row bh 1 s'.sec (bn t.bN),.row dF 3 s'.ten (gR t.bI),.row cJ 6 s'.gr (dY t.aX),.row dJ 5 s'.aC (bq cw.cs t.aC ys),.box fp fun w=>bw iY w ys t.aC,.row aV 4 s'.key (bq aR.cs (oR t.keys c i) zs),.box fq fun w=>bw gq w zs (oR t.keys c i)]) rfl (by omega) ⟨rfl,zs,fq,by rw [aki]; exact H⟩ ?_ ?_
 ·rintro again i m w9 _ hi ⟨rfl,zs,fq,K⟩ aM
  have mL:(oR t.keys c i)[i]? = some (t.keys.getD i kz):=by rw [I0 _ _ _ _ hi,if_neg (by omega)]
  have hE:bw gq w9 zs (oR t.keys c i):=K.box 8 rfl
  have pZ:zs.length=t.keys.length:=by rw [hE.1,zu]
  have dy:zs[i]? = some (zs[i]'(by omega)):=List.getElem?_eq_getElem _
  generalize zs[i]'(by omega)=x at dy
  have hsw:=ZM hs c i (by omega)
  have dP:=ZL (t.keys.getD i kz) c
  have vS:=xk hs hi
  have yz:∀ (j:Nat) (v:Value),((t.keys.getD i kz).cs x)[j]? = some v→w9.cell? (Addr.add (Addr.add (base s'.key.a) (Int.toNat (i:Int) * 4)) j)=some v:=fun j v hv=>by
   rw [Int.toNat_natCast]
   exact (K.fI 7 rfl).uX aR.ct mL dy hv
  have dh:s'.key.a.isSome=true∧(0:Int)≤(i:Int)∧(i:Int)<(s'.key.n:Int):=⟨(K.fI 7 rfl).pre (by omega),by omega,by omega⟩
  refine ite_true (decide_eq_true (by omega)) ⟨dh,qo yz (K.nw fun p2 cL K _=>K.cA 9 rfl rfl fun cX K=>K.bz 9 rfl ?_)⟩
  have hE:bw gq cX zs (oR t.keys c i):=K.box 8 rfl
  refine aB (agA (t.keys.getD i kz) x c (by omega) cX (hE.2 i x _ dy mL).aH) ?_
  rintro _ fR ⟨y,rfl,hy⟩
  obtain ⟨f,K⟩:=K.iu hy
  refine ⟨_,rfl,nZ ⟨_,rfl,rfl,K.nw fun p3 fF K _=>K.cA 11 rfl rfl fun fX K=>K.ax 0 rfl (au p 4) rfl (K.bz 11 rfl ⟨dh,?_⟩)⟩⟩
  refine K.putAt 7 rfl aR.ct (by rw [pZ,zu]) (by rw [zu]; exact hi) (wh (t.keys.getD i kz) c) y (aR.lW _ y) fun kH K=>⟨by unfold aF; omega,by unfold aF; omega,?_⟩
  rw [XN _ _ _ hi] at K
  refine aM _ _ ⟨by show _=((AL t.keys c i+x9 (t.keys.getD i kz) c:Nat):Int); omega,zs.set i y,fq ++ f,?_⟩
  have K:=K.merge 8 10 (t:=.box (fq ++ f) fun w=>bw gq w (zs.set i y) (oR t.keys c (i+1))) rfl rfl (by omega) (fun h1 h2=>?_) (fun b hb=>List.mem_append.1 hb)
  ·exact K.take 9
  ·refine ⟨fun b hb=>?_,fun w2 h3=>?_⟩
   ·rcases List.mem_append.1 hb with h | h
    ·exact h1.1 b h
    ·exact h2.1 b h
   ·have:=bw.put (i:=i) (h1.2 w2 fun b hb=>h3 b (List.mem_append_left _ hb)) (h2.2 w2 fun b hb=>h3 b (List.mem_append_right _ hb):gq w2 y (wh (t.keys.getD i kz) c))
    rwa [XN _ _ _ hi] at this
 ·rintro again m w9 ⟨rfl,zs,fq,K⟩
  refine ite_false (decide_eq_false (by omega)) (K.bT 0 rfl (K.bM 1 rfl rfl fun kJ K=>K.bT 1 rfl ⟨s',ys,zs,fp,fq,.nilIface,rfl,?_⟩))
  rw [h0]
  exact (ak.ZK K).drop 2
end Go.Proofs.YtgjoehgomjgckaaGreatDoor
end
section
set_option linter.unusedVariables false
set_option linter.unusedSimpArgs false
namespace Go.Proofs.YtgjoehgomjgckaaGreatDoor
open Go Go.Ev
set_option maxRecDepth 100000
set_option linter.unusedVariables false
def Lv (dw:ah) (Gs:Int) (Gt:Int) (Gu:Int) (Gv:Int) (Gw:Int) (Gx:Int) (Gy:Int) (Gz:Int) (GA:Int) (GB:Int) (Fu:Int) (Fv:ByteArray) (vC:ah) (vD:ah) (vF:ah) (Fw:Bool) (w:World) (R:Value→World→Prop):Prop:=
 nw mN [.int .i64 Gs,.int .i64 Gt,.int .i64 Gu,.int .i64 Gv,.int .i64 Gw,.int .i64 Gx,.int .i64 Gy,.int .i64 Gz,.int .i64 GA,.int .i64 GB,.int .i64 Fu,.string Fv,.slice vC.a vC.n vC.c,.slice vD.a vD.n vD.c,.slice vF.a vF.n vF.c,.bool Fw] w fun a b=>
 jL []
 (fun c=>az Pr uH [] c fun d e=>
 dK d fun f g i j k l=>
 nw aN (zc Pr aN) e fun m n=>
 bM m f g i j k l n fun o=>
 cY (fun (p:Int)=>[(6,some (.int .i64 p))])
 (fun q p s=>aA (decide (p<(dw.n:Int)))
 (tC (fun (t:Addr) (u:Value)=>[(7,some (.pointer (some t))),(9,some (u))])
 (fun t u v=>fB u fun x=>
 aA x
 (bT t v fun y z B C D E=>
 bM m y z B C D E v fun F=>
 (aF (p+1)∧
 q (p+1) F))
 ((aF (p+1)∧
 q (p+1) v)))
 (fun G=>
 bT m (World.drew s) fun I J L M N O=>
 aU dw.a p dw.n
 (jz (Addr.add (Addr.add (base dw.a) (Int.toNat p * 16)) 0) (World.drew s) fun Q S T U V X Y Z aa ba ca da ea fa=>
 aU dw.a p dw.n
 (ax (Addr.add (Addr.add (base dw.a) (Int.toNat p * 16)) 14) (World.drew s) fun ga=>
 ((az Pr gA [.agg ⟨[.int .i64 I,.slice J.a J.n J.c,.slice L.a L.n L.c,.slice M.a M.n M.c,.slice N.a N.n N.c,.slice O.a O.n O.c]⟩,.agg ⟨[.int .i64 Q,.int .i64 S,.int .i64 T,.int .i64 U,.int .i64 V,.int .i64 X,.int .i64 Y,.int .i64 Z,.int .i64 aa,.int .i64 ba,.int .i64 ca,.string da,.slice ea.a ea.n ea.c,.slice fa.a fa.n fa.c]⟩,.slice ga.a ga.n ga.c] (World.drew s) fun ia ja=>
 bB.bC ia fun ka=>
 aD ka fun la ma=>
 dK la fun na oa pa qa sa ta=>
 aD ma fun ua va=>
 fG ua fun xa ya za Aa=>
 aD va fun Ba Ca=>
 (Ca=[]∧
 ((nw aN (zc Pr aN) ja fun Da Ea=>
 (kept (Addr.add (Addr.add (base dw.a) (Int.toNat p * 16)) 14) 1 ja Ea∧
 (kept (Addr.add (Addr.add (base dw.a) (Int.toNat p * 16)) 0) 14 ja Ea∧
 (kept m 6 ja Ea∧
 nw bF (zc Pr bF) Ea fun Fa Ga=>
 (kept (Addr.add (Addr.add (base dw.a) (Int.toNat p * 16)) 14) 1 Ea Ga∧
 (kept (Addr.add (Addr.add (base dw.a) (Int.toNat p * 16)) 0) 14 Ea Ga∧
 (kept m 6 Ea Ga∧
 bM Da na oa pa qa sa ta Ga fun Ia=>
 bH Fa xa ya za Aa Ia fun Ja=>
 G Da Ba Ja)))))))∧
 (nw bF (zc Pr bF) ja fun La Ma=>
 (kept (Addr.add (Addr.add (base dw.a) (Int.toNat p * 16)) 14) 1 ja Ma∧
 (kept (Addr.add (Addr.add (base dw.a) (Int.toNat p * 16)) 0) 14 ja Ma∧
 (kept m 6 ja Ma∧
 nw aN (zc Pr aN) Ma fun Na Oa=>
 (kept (Addr.add (Addr.add (base dw.a) (Int.toNat p * 16)) 14) 1 Ma Oa∧
 (kept (Addr.add (Addr.add (base dw.a) (Int.toNat p * 16)) 0) 14 Ma Oa∧
 (kept m 6 Ma Oa∧
 bM Na na oa pa qa sa ta Oa fun Qa=>
 bH La xa ya za Aa Qa fun Sa=>
 G Na Ba Sa))))))))))∧
 (((nw aN (zc Pr aN) (World.drew s) fun Ta Ua=>
 (kept (Addr.add (Addr.add (base dw.a) (Int.toNat p * 16)) 14) 1 (World.drew s) Ua∧
 (kept (Addr.add (Addr.add (base dw.a) (Int.toNat p * 16)) 0) 14 (World.drew s) Ua∧
 (kept m 6 (World.drew s) Ua∧
 ((az Pr gA [.agg ⟨[.int .i64 I,.slice J.a J.n J.c,.slice L.a L.n L.c,.slice M.a M.n M.c,.slice N.a N.n N.c,.slice O.a O.n O.c]⟩,.agg ⟨[.int .i64 Q,.int .i64 S,.int .i64 T,.int .i64 U,.int .i64 V,.int .i64 X,.int .i64 Y,.int .i64 Z,.int .i64 aa,.int .i64 ba,.int .i64 ca,.string da,.slice ea.a ea.n ea.c,.slice fa.a fa.n fa.c]⟩,.slice ga.a ga.n ga.c] Ua fun Va Xa=>
 bB.bC Va fun Ya=>
 aD Ya fun Za ab=>
 dK Za fun bb cb db eb fb gb=>
 aD ab fun ib jb=>
 fG ib fun kb lb mb nb=>
 aD jb fun ob pb=>
 (pb=[]∧
 nw bF (zc Pr bF) Xa fun qb sb=>
 (kept (Addr.add (Addr.add (base dw.a) (Int.toNat p * 16)) 14) 1 Xa sb∧
 (kept (Addr.add (Addr.add (base dw.a) (Int.toNat p * 16)) 0) 14 Xa sb∧
 (kept m 6 Xa sb∧
 bM Ta bb cb db eb fb gb sb fun tb=>
 bH qb kb lb mb nb tb fun ub=>
 G Ta ob ub)))))∧
 (nw bF (zc Pr bF) Ua fun vb xb=>
 (kept (Addr.add (Addr.add (base dw.a) (Int.toNat p * 16)) 14) 1 Ua xb∧
 (kept (Addr.add (Addr.add (base dw.a) (Int.toNat p * 16)) 0) 14 Ua xb∧
 (kept m 6 Ua xb∧
 az Pr gA [.agg ⟨[.int .i64 I,.slice J.a J.n J.c,.slice L.a L.n L.c,.slice M.a M.n M.c,.slice N.a N.n N.c,.slice O.a O.n O.c]⟩,.agg ⟨[.int .i64 Q,.int .i64 S,.int .i64 T,.int .i64 U,.int .i64 V,.int .i64 X,.int .i64 Y,.int .i64 Z,.int .i64 aa,.int .i64 ba,.int .i64 ca,.string da,.slice ea.a ea.n ea.c,.slice fa.a fa.n fa.c]⟩,.slice ga.a ga.n ga.c] xb fun yb zb=>
 bB.bC yb fun Ab=>
 aD Ab fun Bb Cb=>
 dK Bb fun Db Eb Fb Gb Ib Jb=>
 aD Cb fun Lb Mb=>
 fG Lb fun Nb Ob Qb Sb=>
 aD Mb fun Tb Ub=>
 (Ub=[]∧
 bM Ta Db Eb Fb Gb Ib Jb zb fun Vb=>
 bH vb Nb Ob Qb Sb Vb fun Xb=>
 G Ta Tb Xb))))))))))∧
 (nw bF (zc Pr bF) (World.drew s) fun Yb Zb=>
 (kept (Addr.add (Addr.add (base dw.a) (Int.toNat p * 16)) 14) 1 (World.drew s) Zb∧
 (kept (Addr.add (Addr.add (base dw.a) (Int.toNat p * 16)) 0) 14 (World.drew s) Zb∧
 (kept m 6 (World.drew s) Zb∧
 ((az Pr gA [.agg ⟨[.int .i64 I,.slice J.a J.n J.c,.slice L.a L.n L.c,.slice M.a M.n M.c,.slice N.a N.n N.c,.slice O.a O.n O.c]⟩,.agg ⟨[.int .i64 Q,.int .i64 S,.int .i64 T,.int .i64 U,.int .i64 V,.int .i64 X,.int .i64 Y,.int .i64 Z,.int .i64 aa,.int .i64 ba,.int .i64 ca,.string da,.slice ea.a ea.n ea.c,.slice fa.a fa.n fa.c]⟩,.slice ga.a ga.n ga.c] Zb fun ac bc=>
 bB.bC ac fun cc=>
 aD cc fun dc ec=>
 dK dc fun fc gc ic jc kc lc=>
 aD ec fun mc nc=>
 fG mc fun oc pc qc sc=>
 aD nc fun tc uc=>
 (uc=[]∧
 nw aN (zc Pr aN) bc fun vc xc=>
 (kept (Addr.add (Addr.add (base dw.a) (Int.toNat p * 16)) 14) 1 bc xc∧
 (kept (Addr.add (Addr.add (base dw.a) (Int.toNat p * 16)) 0) 14 bc xc∧
 (kept m 6 bc xc∧
 bM vc fc gc ic jc kc lc xc fun yc=>
 bH Yb oc pc qc sc yc fun Ac=>
 G vc tc Ac)))))∧
 (nw aN (zc Pr aN) Zb fun Bc Cc=>
 (kept (Addr.add (Addr.add (base dw.a) (Int.toNat p * 16)) 14) 1 Zb Cc∧
 (kept (Addr.add (Addr.add (base dw.a) (Int.toNat p * 16)) 0) 14 Zb Cc∧
 (kept m 6 Zb Cc∧
 az Pr gA [.agg ⟨[.int .i64 I,.slice J.a J.n J.c,.slice L.a L.n L.c,.slice M.a M.n M.c,.slice N.a N.n N.c,.slice O.a O.n O.c]⟩,.agg ⟨[.int .i64 Q,.int .i64 S,.int .i64 T,.int .i64 U,.int .i64 V,.int .i64 X,.int .i64 Y,.int .i64 Z,.int .i64 aa,.int .i64 ba,.int .i64 ca,.string da,.slice ea.a ea.n ea.c,.slice fa.a fa.n fa.c]⟩,.slice ga.a ga.n ga.c] Cc fun Dc Ec=>
 bB.bC Dc fun Fc=>
 aD Fc fun Gc Ic=>
 dK Gc fun Jc Lc Mc Nc Oc Qc=>
 aD Ic fun Sc Tc=>
 fG Sc fun Uc Vc Xc Yc=>
 aD Tc fun Zc bd=>
 (bd=[]∧
 bM Bc Jc Lc Mc Nc Oc Qc Ec fun cd=>
 bH Yb Uc Vc Xc Yc cd fun dd=>
 G Bc Zc dd)))))))))))))))))
 (bT m s fun ed fd gd jd kd ld=>
 jz (Addr.add a 0) s fun md nd od pd qd sd td ud vd xd yd zd Ad Bd=>
 ax (Addr.add a 14) s fun Cd=>
 az Pr gA [.agg ⟨[.int .i64 ed,.slice fd.a fd.n fd.c,.slice gd.a gd.n gd.c,.slice jd.a jd.n jd.c,.slice kd.a kd.n kd.c,.slice ld.a ld.n ld.c]⟩,.agg ⟨[.int .i64 md,.int .i64 nd,.int .i64 od,.int .i64 pd,.int .i64 qd,.int .i64 sd,.int .i64 td,.int .i64 ud,.int .i64 vd,.int .i64 xd,.int .i64 yd,.string zd,.slice Ad.a Ad.n Ad.c,.slice Bd.a Bd.n Bd.c]⟩,.slice Cd.a Cd.n Cd.c] s fun Dd Ed=>
 bB.bC Dd fun Fd=>
 aD Fd fun Gd Id=>
 dK Gd fun Jd Ld Md Od Qd Sd=>
 aD Id fun Td Ud=>
 fG Td fun Vd Xd Yd Zd=>
 aD Ud fun ae be=>
 (be=[]∧
 nw aN (zc Pr aN) Ed fun ce de=>
 nw bF (zc Pr bF) de fun ee fe=>
 bM ce Jd Ld Md Od Qd Sd fe fun ge=>
 bH ee Vd Xd Yd Zd ge fun ie=>
 fB ae fun je=>
 aA (!je)
 (az Pr AQ [] ie fun ke le=>
 aW ke fun me=>
 R (.bool me) le)
 (jL []
 (fun ne=>ax (Addr.add ce 2) ne fun oe=>
 ax (Addr.add ce 3) ne fun pe=>
 (aF ((oe.n:Int)+(pe.n:Int))∧
 ax (Addr.add ce 4) ne fun qe=>
 (aF (((oe.n:Int)+(pe.n:Int))+(qe.n:Int))∧
 ax (Addr.add ce 5) ne fun se=>
 (aF ((((oe.n:Int)+(pe.n:Int))+(qe.n:Int))+(se.n:Int))∧
 ax (Addr.add m 2) ne fun te=>
 (aF (((((oe.n:Int)+(pe.n:Int))+(qe.n:Int))+(se.n:Int)) - (te.n:Int))∧
 ax (Addr.add m 3) ne fun ue=>
 (aF ((((((oe.n:Int)+(pe.n:Int))+(qe.n:Int))+(se.n:Int)) - (te.n:Int)) - (ue.n:Int))∧
 ax (Addr.add m 4) ne fun ve=>
 (aF (((((((oe.n:Int)+(pe.n:Int))+(qe.n:Int))+(se.n:Int)) - (te.n:Int)) - (ue.n:Int)) - (ve.n:Int))∧
 ax (Addr.add m 5) ne fun xe=>
 (aF ((((((((oe.n:Int)+(pe.n:Int))+(qe.n:Int))+(se.n:Int)) - (te.n:Int)) - (ue.n:Int)) - (ve.n:Int)) - (xe.n:Int))∧
 lt (A:=Int) ((((((((oe.n:Int)+(pe.n:Int))+(qe.n:Int))+(se.n:Int)) - (te.n:Int)) - (ue.n:Int)) - (ve.n:Int)) - (xe.n:Int)) fun ye=>
 an .i64 (Addr.add (Addr.add a 0) 2) ne fun ze=>
 an .i64 (Addr.add (Addr.add a 0) 2) ne fun Ae=>
 an .i64 (Addr.add (Addr.add a 0) 2) ne fun Be=>
 an .i64 (Addr.add (Addr.add a 0) 2) ne fun Ce=>
 lt (A:=Bool) ((((decide (ze=1)) || (decide (Ae=2))) || (decide (Be=3))) || (decide (Ce=12))) fun De=>
 jL []
 (fun Ee=>cY (fun (Fe:Int)=>[(15,some (.int .i64 Fe))])
 (fun Ge Fe Ie=>ax (Addr.add m 3) Ie fun Je=>
 aA (decide (Fe<(Je.n:Int)))
 (tC (fun (Le:Addr) (Me:Addr)=>[(16,some (.pointer (some Le))),(17,some (.pointer (some Me)))])
 (fun Le Me Oe=>an .i64 (Addr.add Le 1) Oe fun Qe=>
 an .i64 (Addr.add Me 1) Oe fun Se=>
 ax (Addr.add Le 2) Oe fun Te=>
 ax (Addr.add Me 2) Oe fun Ue=>
 aA (!decide (Qe=Se))
 (an .i64 (Addr.add (Addr.add a 0) 0) Oe fun Ve=>
 an .i64 (Addr.add Le 3) Oe fun Xe=>
 an .i64 (Addr.add Me 3) Oe fun Ye=>
 an .u64 (Addr.add Le 4) Oe fun Ze=>
 an .u64 (Addr.add Me 4) Oe fun af=>
 R (.bool false) Oe)
 (az Pr C8 [.slice Te.a Te.n Te.c,.slice Ue.a Ue.n Ue.c] Oe fun bf cf=>
 aW bf fun df=>
 an .i64 (Addr.add (Addr.add a 0) 0) cf fun ef=>
 an .i64 (Addr.add Le 3) cf fun ff=>
 an .i64 (Addr.add Me 3) cf fun gf=>
 an .u64 (Addr.add Le 4) cf fun jf=>
 an .u64 (Addr.add Me 4) cf fun kf=>
 aA ((!df) || ((!decide (IntKind.wrap .i64 (Fe+1)=ef)) && ((!decide (ff=gf)) || (!decide (jf=kf)))))
 (R (.bool false) cf)
 ((aF (Fe+1)∧
 Ge (Fe+1) cf))))
 (fun lf=>
 ax (Addr.add m 3) (World.drew Ie) fun mf=>
 aU mf.a Fe mf.n
 (Ds (Addr.add (base mf.a) (Int.toNat Fe * 5)) (World.drew Ie) fun nf pf qf sf tf=>
 ax (Addr.add ce 3) (World.drew Ie) fun uf=>
 aU uf.a Fe uf.n
 (Ds (Addr.add (base uf.a) (Int.toNat Fe * 5)) (World.drew Ie) fun vf xf yf zf Af=>
 ((nw dJ (zc Pr dJ) (World.drew Ie) fun Bf Cf=>
 (kept (Addr.add (base uf.a) (Int.toNat Fe * 5)) 5 (World.drew Ie) Cf∧
 (kept (Addr.add ce 3) 1 (World.drew Ie) Cf∧
 (kept (Addr.add (base mf.a) (Int.toNat Fe * 5)) 5 (World.drew Ie) Cf∧
 (kept (Addr.add m 3) 1 (World.drew Ie) Cf∧
 nw dJ (zc Pr dJ) Cf fun Df Ef=>
 (kept (Addr.add (base uf.a) (Int.toNat Fe * 5)) 5 Cf Ef∧
 (kept (Addr.add ce 3) 1 Cf Ef∧
 (kept (Addr.add (base mf.a) (Int.toNat Fe * 5)) 5 Cf Ef∧
 (kept (Addr.add m 3) 1 Cf Ef∧
 nY Bf nf pf qf sf tf Ef fun Ff=>
 (kept (Addr.add (base uf.a) (Int.toNat Fe * 5)) 5 Ef Ff∧
 (kept (Addr.add ce 3) 1 Ef Ff∧
 nY Df vf xf yf zf Af Ff fun Gf=>
 lf Bf Df Gf)))))))))))∧
 (nw dJ (zc Pr dJ) (World.drew Ie) fun If Jf=>
 (kept (Addr.add (base uf.a) (Int.toNat Fe * 5)) 5 (World.drew Ie) Jf∧
 (kept (Addr.add ce 3) 1 (World.drew Ie) Jf∧
 (kept (Addr.add (base mf.a) (Int.toNat Fe * 5)) 5 (World.drew Ie) Jf∧
 (kept (Addr.add m 3) 1 (World.drew Ie) Jf∧
 nw dJ (zc Pr dJ) Jf fun Lf Mf=>
 (kept (Addr.add (base uf.a) (Int.toNat Fe * 5)) 5 Jf Mf∧
 (kept (Addr.add ce 3) 1 Jf Mf∧
 (kept (Addr.add (base mf.a) (Int.toNat Fe * 5)) 5 Jf Mf∧
 (kept (Addr.add m 3) 1 Jf Mf∧
 nY Lf nf pf qf sf tf Mf fun Nf=>
 (kept (Addr.add (base uf.a) (Int.toNat Fe * 5)) 5 Mf Nf∧
 (kept (Addr.add ce 3) 1 Mf Nf∧
 nY If vf xf yf zf Af Nf fun Of=>
 lf Lf If Of))))))))))))))))
 (an .i64 (Addr.add (Addr.add a 0) 2) Ie fun Qf=>
 an .i64 (Addr.add (Addr.add a 0) 2) Ie fun Sf=>
 lt (A:=Bool) ((decide (4≤Qf)) && (decide (Sf≤8))) fun Tf=>
 cY (fun (Uf:Int)=>[(19,some (.int .i64 Uf))])
 (fun Vf Uf Xf=>ax (Addr.add m 4) Xf fun Yf=>
 aA (decide (Uf<(Yf.n:Int)))
 (ax (Addr.add m 4) (World.drew Xf) fun Zf=>
 aU Zf.a Uf Zf.n
 (bz (Addr.add (base Zf.a) (Int.toNat Uf * 4)) (World.drew Xf) fun ag bg cg dg=>
 ax (Addr.add ce 4) (World.drew Xf) fun eg=>
 aU eg.a Uf eg.n
 (bz (Addr.add (base eg.a) (Int.toNat Uf * 4)) (World.drew Xf) fun fg gg ig jg=>
 az Pr Dm [.agg ⟨[.int .i64 ag,.int .i64 bg,.int .i64 cg,.slice dg.a dg.n dg.c]⟩,.agg ⟨[.int .i64 fg,.int .i64 gg,.int .i64 ig,.slice jg.a jg.n jg.c]⟩] (World.drew Xf) fun kg lg=>
 aW kg fun mg=>
 an .i64 (Addr.add (Addr.add a 0) 4) lg fun ng=>
 aA ((!mg) && ((!Tf) || (!decide (IntKind.wrap .i64 (Uf+1)=ng))))
 (R (.bool false) lg)
 ((aF (Uf+1)∧
 Vf (Uf+1) lg)))))
 (cY (fun (og:Int)=>[(20,some (.int .i64 og))])
 (fun pg og qg=>ax (Addr.add m 5) qg fun sg=>
 aA (decide (og<(sg.n:Int)))
 (ax (Addr.add m 5) (World.drew qg) fun tg=>
 aU tg.a og tg.n
 (iI (Addr.add (base tg.a) (Int.toNat og * 6)) (World.drew qg) fun ug vg xg yg zg Ag=>
 ax (Addr.add ce 5) (World.drew qg) fun Bg=>
 aU Bg.a og Bg.n
 (iI (Addr.add (base Bg.a) (Int.toNat og * 6)) (World.drew qg) fun Cg Dg Eg Fg Gg Ig=>
 FA Pr .neq cJ [.int .i64 ug,.int .i64 vg,.int .i64 xg,.int .i64 yg,.int .i64 zg,.bool Ag] [.int .i64 Cg,.int .i64 Dg,.int .i64 Eg,.int .i64 Fg,.int .i64 Gg,.bool Ig] (World.drew qg) fun Jg Lg=>
 an .i64 (Addr.add (Addr.add a 0) 2) Lg fun Mg=>
 an .i64 (Addr.add (Addr.add a 0) 7) Lg fun Ng=>
 aA (Jg && ((!decide (Mg=13)) || (!decide (IntKind.wrap .i64 (og+1)=Ng))))
 (R (.bool false) Lg)
 ((aF (og+1)∧
 pg (og+1) Lg)))))
 (az Pr AQ [] qg fun Og Qg=>
 aW Og fun Sg=>
 R (.bool Sg) Qg))
 0 Xf))
 0 Ie))
 0 Ee)
 (fun Tg=>
 ax (Addr.add ce 2) (World.drew ne) fun Ug=>
 ax (Addr.add m 2) (World.drew ne) fun Vg=>
 aA ((De && (!decide (ye=1))) || ((!De) && (!decide (ye=0))))
 (R (.bool false) (World.drew ne))
 (tV Ug (Vg.n:Int) fun Xg=>
 ax (Addr.add m 2) (World.drew ne) fun Yg=>
 az Pr K9 [.slice Xg.a Xg.n Xg.c,.slice Yg.a Yg.n Yg.c] (World.drew ne) fun Zg ai=>
 aW Zg fun bi=>
 aA (!bi)
 (R (.bool false) ai)
 (Tg ai)))))))))))
 (fun ci=>
 an .i64 (Addr.add ce 0) ie fun di=>
 an .i64 (Addr.add m 0) ie fun ei=>
 ax (Addr.add ce 1) ie fun fi=>
 ax (Addr.add m 1) ie fun gi=>
 aA (!decide (di=ei))
 (ax (Addr.add ce 2) ie fun ii=>
 ax (Addr.add m 2) ie fun ji=>
 ax (Addr.add ce 3) ie fun ki=>
 ax (Addr.add m 3) ie fun li=>
 ax (Addr.add ce 4) ie fun mi=>
 ax (Addr.add m 4) ie fun ni=>
 ax (Addr.add ce 5) ie fun oi=>
 ax (Addr.add m 5) ie fun pi=>
 R (.bool false) ie)
 (az Pr C8 [.slice fi.a fi.n fi.c,.slice gi.a gi.n gi.c] ie fun qi si=>
 aW qi fun ti=>
 ax (Addr.add ce 2) si fun ui=>
 ax (Addr.add m 2) si fun vi=>
 ax (Addr.add ce 3) si fun xi=>
 ax (Addr.add m 3) si fun yi=>
 ax (Addr.add ce 4) si fun zi=>
 ax (Addr.add m 4) si fun Ai=>
 ax (Addr.add ce 5) si fun Bi=>
 ax (Addr.add m 5) si fun Ci=>
 aA (((((!ti) || (decide ((ui.n:Int)<(vi.n:Int)))) || (decide ((xi.n:Int)<(yi.n:Int)))) || (decide ((zi.n:Int)<(Ai.n:Int)))) || (decide ((Bi.n:Int)<(Ci.n:Int))))
 (R (.bool false) si)
 (ci si)))))))
 0 o)
 (fun Di=>
 jl (fun (Ei:Bool)=>[(27,some (.bool Ei))])
 (fun Ei Fi=>aA Ei
 (az Pr AQ [] Fi fun Gi Ii=>
 aW Gi fun Ji=>
 R (.bool Ji) Ii)
 (Di Fi))
 (fun Li=>
 az Pr Hf [.slice dw.a dw.n dw.c,.int .i64 6] b fun Mi Ni=>
 aW Mi fun Oi=>
 NL a Ni fun Qi Si Ti Ui Vi Xi Yi Zi aj bj cj dj ej fj gj ij=>
 aA Oi
 (Li true Ni)
 (nw mN [.int .i64 Qi,.int .i64 Si,.int .i64 Ti,.int .i64 Ui,.int .i64 Vi,.int .i64 Xi,.int .i64 Yi,.int .i64 Zi,.int .i64 aj,.int .i64 bj,.int .i64 cj,.string dj,.slice ej.a ej.n ej.c,.slice fj.a fj.n fj.c,.slice gj.a gj.n gj.c,.bool ij] Ni fun jj kj=>
 az Pr Hf [.slice (some jj) 1 1,.int .i64 1] kj fun lj mj=>
 aW lj fun nj=>
 Li nj mj)))
theorem acD {dw:ah} {Gs:Int} {Gt:Int} {Gu:Int} {Gv:Int} {Gw:Int} {Gx:Int} {Gy:Int} {Gz:Int} {GA:Int} {GB:Int} {Fu:Int} {Fv:ByteArray} {vC:ah} {vD:ah} {vF:ah} {Fw:Bool} {w:World} {R:Value→World→Prop} (h:Lv dw Gs Gt Gu Gv Gw Gx Gy Gz GA GB Fu Fv vC vD vF Fw w R):Ok Pr UD [.slice dw.a dw.n dw.c,.agg ⟨[.int .i64 Gs,.int .i64 Gt,.int .i64 Gu,.int .i64 Gv,.int .i64 Gw,.int .i64 Gx,.int .i64 Gy,.int .i64 Gz,.int .i64 GA,.int .i64 GB,.int .i64 Fu,.string Fv,.slice vC.a vC.n vC.c,.slice vD.a vD.n vD.c,.slice vF.a vF.n vF.c,.bool Fw]⟩] w R:=
 aL (m:=⟨true,true⟩) (J:=[(3,[]),(2,[(27,.bool)]),(8,[(7,.xR),(9,.val)]),(15,[]),(19,[]),(23,[(16,.xR),(17,.xR)])]) (L:=[(5,[(6,.int .i64)]),(20,[(15,.int .i64)]),(27,[(19,.int .i64)]),(32,[(20,.int .i64)])]) aJ Tryz.func5 (by kernel_rfl) ((by kernel_rfl:aK Pr _ _ _ Tryz.f5 _ w R=Lv dw Gs Gt Gu Gv Gw Gx Gy Gz GA GB Fu Fv vC vD vF Fw w R).mpr h)
def Nv (dw:ah) (oI:Int) (w:World) (R:Value→World→Prop):Prop:=
 cY (fun (a:Int)=>[(5,some (.int .i64 a))])
 (fun b a c=>aA ((decide (a<(dw.n:Int))) && (decide ((dw.n:Int)≤oI)))
 (aU dw.a a dw.n
 (jz (Addr.add (Addr.add (base dw.a) (Int.toNat a * 16)) 0) c fun d e f g i j k l m n o p q s=>
 az Pr LM [.agg ⟨[.int .i64 d,.int .i64 e,.int .i64 f,.int .i64 g,.int .i64 i,.int .i64 j,.int .i64 k,.int .i64 l,.int .i64 m,.int .i64 n,.int .i64 o,.string p,.slice q.a q.n q.c,.slice s.a s.n s.c]⟩] c fun t u=>
 aW t fun v=>
 aA v
 (R (.bool true) u)
 (aU dw.a a dw.n
 (ax (Addr.add (Addr.add (base dw.a) (Int.toNat a * 16)) 14) u fun x=>
 aA (decide (100<(x.n:Int)))
 (R (.bool true) u)
 ((aF (a+1)∧
 b (a+1) u))))))
 (R (.bool (decide (oI<(dw.n:Int)))) c))
 0 w
theorem ael {dw:ah} {oI:Int} {w:World} {R:Value→World→Prop} (h:Nv dw oI w R):Ok Pr Hf [.slice dw.a dw.n dw.c,.int .i64 oI] w R:=
 aL (m:=⟨true,true⟩) (J:=[]) (L:=[(2,[(5,.int .i64)])]) aJ Tryz.func8 (by kernel_rfl) ((by kernel_rfl:aK Pr _ _ _ Tryz.f8 _ w R=Nv dw oI w R).mpr h)
def Nw (w:World) (R:Value→World→Prop):Prop:=
 nw kZ (zc Pr kZ) w fun a b=>
 HZ a 1 1 1 1 0 0 0 0 0 0 0 S_a ⟨none,0,0⟩ ⟨none,0,0⟩ b fun c=>
 ZV (fun (d:Addr) (e:Addr) (f:Value)=>[(2,some (.pointer (some d))),(3,some (.pointer (some e))),(4,some (f))])
 (fun d e f g=>bT d g fun i j k l m n=>
 jz a g fun o p q s t u v x y z A B C D=>
 az Pr gA [.agg ⟨[.int .i64 i,.slice j.a j.n j.c,.slice k.a k.n k.c,.slice l.a l.n l.c,.slice m.a m.n m.c,.slice n.a n.n n.c]⟩,.agg ⟨[.int .i64 o,.int .i64 p,.int .i64 q,.int .i64 s,.int .i64 t,.int .i64 u,.int .i64 v,.int .i64 x,.int .i64 y,.int .i64 z,.int .i64 A,.string B,.slice C.a C.n C.c,.slice D.a D.n D.c]⟩,.slice none 0 0] g fun E F=>
 bB.bC E fun G=>
 aD G fun I J=>
 dK I fun L M N O Q S=>
 aD J fun T U=>
 fG T fun V X Y Z=>
 aD U fun aa ba=>
 (ba=[]∧
 nw aN (zc Pr aN) F fun ca da=>
 nw bF (zc Pr bF) da fun ea fa=>
 bM ca L M N O Q S fa fun ga=>
 bH ea V X Y Z ga fun ia=>
 bT d ia fun ja ka la ma na oa=>
 az Pr Nz [.agg ⟨[.int .i64 ja,.slice ka.a ka.n ka.c,.slice la.a la.n la.c,.slice ma.a ma.n ma.c,.slice na.a na.n na.c,.slice oa.a oa.n oa.c]⟩,.int .i64 9] ia fun pa qa=>
 bB.bC pa fun sa=>
 aD sa fun ta ua=>
 dK ta fun va xa ya za Aa Ba=>
 aD ua fun Ca Da=>
 bk .i64 Ca fun Ea=>
 aD Da fun Fa Ga=>
 (Ga=[]∧
 nw aN (zc Pr aN) qa fun Ia Ja=>
 bM Ia va xa ya za Aa Ba Ja fun La=>
 fB f fun Ma=>
 an .i64 (Addr.add e 1) La fun Na=>
 ax (Addr.add d 2) La fun Oa=>
 aA ((Ma && (decide (Na=2))) && (decide ((Oa.n:Int)=2)))
 (az Pr DL [aa] La fun Qa Sa=>
 bk .i64 Qa fun Ta=>
 an .i64 (Addr.add ea 0) Sa fun Ua=>
 aA ((decide (Ta=8)) && (decide (Ua=8)))
 (fB Fa fun Va=>
 an .i64 (Addr.add Ia 0) Sa fun Xa=>
 R (.bool ((Va && (decide (Ea=0))) && (decide (Xa=9)))) Sa)
 (an .i64 (Addr.add Ia 0) Sa fun Ya=>
 R (.bool false) Sa))
 (an .i64 (Addr.add ea 0) La fun Za=>
 an .i64 (Addr.add Ia 0) La fun ab=>
 R (.bool false) La))))
 (fun bb=>
 jz a (World.drew c) fun cb db eb fb gb ib jb kb lb mb nb ob pb qb=>
 ((az Pr uH [] (World.drew c) fun sb tb=>
 dK sb fun ub vb xb yb zb Ab=>
 (kept a 14 (World.drew c) tb∧
 ((az Pr gA [.agg ⟨[.int .i64 ub,.slice vb.a vb.n vb.c,.slice xb.a xb.n xb.c,.slice yb.a yb.n yb.c,.slice zb.a zb.n zb.c,.slice Ab.a Ab.n Ab.c]⟩,.agg ⟨[.int .i64 cb,.int .i64 db,.int .i64 eb,.int .i64 fb,.int .i64 gb,.int .i64 ib,.int .i64 jb,.int .i64 kb,.int .i64 lb,.int .i64 mb,.int .i64 nb,.string ob,.slice pb.a pb.n pb.c,.slice qb.a qb.n qb.c]⟩,.slice none 0 0] tb fun Bb Cb=>
 bB.bC Bb fun Db=>
 aD Db fun Eb Fb=>
 dK Eb fun Gb Ib Jb Lb Mb Nb=>
 aD Fb fun Ob Qb=>
 fG Ob fun Sb Tb Ub Vb=>
 aD Qb fun Xb Yb=>
 (Yb=[]∧
 ((nw aN (zc Pr aN) Cb fun Zb ac=>
 (kept a 14 Cb ac∧
 nw bF (zc Pr bF) ac fun bc cc=>
 (kept a 14 ac cc∧
 bM Zb Gb Ib Jb Lb Mb Nb cc fun dc=>
 bH bc Sb Tb Ub Vb dc fun ec=>
 bb Zb bc Xb ec)))∧
 (nw bF (zc Pr bF) Cb fun fc gc=>
 (kept a 14 Cb gc∧
 nw aN (zc Pr aN) gc fun ic jc=>
 (kept a 14 gc jc∧
 bM ic Gb Ib Jb Lb Mb Nb jc fun kc=>
 bH fc Sb Tb Ub Vb kc fun lc=>
 bb ic fc Xb lc))))))∧
 (((nw aN (zc Pr aN) tb fun mc nc=>
 (kept a 14 tb nc∧
 ((az Pr gA [.agg ⟨[.int .i64 ub,.slice vb.a vb.n vb.c,.slice xb.a xb.n xb.c,.slice yb.a yb.n yb.c,.slice zb.a zb.n zb.c,.slice Ab.a Ab.n Ab.c]⟩,.agg ⟨[.int .i64 cb,.int .i64 db,.int .i64 eb,.int .i64 fb,.int .i64 gb,.int .i64 ib,.int .i64 jb,.int .i64 kb,.int .i64 lb,.int .i64 mb,.int .i64 nb,.string ob,.slice pb.a pb.n pb.c,.slice qb.a qb.n qb.c]⟩,.slice none 0 0] nc fun oc pc=>
 bB.bC oc fun qc=>
 aD qc fun sc tc=>
 dK sc fun uc vc xc yc Ac Bc=>
 aD tc fun Cc Dc=>
 fG Cc fun Ec Fc Gc Ic=>
 aD Dc fun Jc Lc=>
 (Lc=[]∧
 nw bF (zc Pr bF) pc fun Mc Nc=>
 (kept a 14 pc Nc∧
 bM mc uc vc xc yc Ac Bc Nc fun Oc=>
 bH Mc Ec Fc Gc Ic Oc fun Qc=>
 bb mc Mc Jc Qc)))∧
 (nw bF (zc Pr bF) nc fun Sc Tc=>
 (kept a 14 nc Tc∧
 az Pr gA [.agg ⟨[.int .i64 ub,.slice vb.a vb.n vb.c,.slice xb.a xb.n xb.c,.slice yb.a yb.n yb.c,.slice zb.a zb.n zb.c,.slice Ab.a Ab.n Ab.c]⟩,.agg ⟨[.int .i64 cb,.int .i64 db,.int .i64 eb,.int .i64 fb,.int .i64 gb,.int .i64 ib,.int .i64 jb,.int .i64 kb,.int .i64 lb,.int .i64 mb,.int .i64 nb,.string ob,.slice pb.a pb.n pb.c,.slice qb.a qb.n qb.c]⟩,.slice none 0 0] Tc fun Uc Vc=>
 bB.bC Uc fun Xc=>
 aD Xc fun Yc Zc=>
 dK Yc fun bd cd dd ed fd gd=>
 aD Zc fun jd kd=>
 fG jd fun ld md nd od=>
 aD kd fun pd qd=>
 (qd=[]∧
 bM mc bd cd dd ed fd gd Vc fun sd=>
 bH Sc ld md nd od sd fun td=>
 bb mc Sc pd td))))))∧
 (nw bF (zc Pr bF) tb fun ud vd=>
 (kept a 14 tb vd∧
 ((az Pr gA [.agg ⟨[.int .i64 ub,.slice vb.a vb.n vb.c,.slice xb.a xb.n xb.c,.slice yb.a yb.n yb.c,.slice zb.a zb.n zb.c,.slice Ab.a Ab.n Ab.c]⟩,.agg ⟨[.int .i64 cb,.int .i64 db,.int .i64 eb,.int .i64 fb,.int .i64 gb,.int .i64 ib,.int .i64 jb,.int .i64 kb,.int .i64 lb,.int .i64 mb,.int .i64 nb,.string ob,.slice pb.a pb.n pb.c,.slice qb.a qb.n qb.c]⟩,.slice none 0 0] vd fun xd yd=>
 bB.bC xd fun zd=>
 aD zd fun Ad Bd=>
 dK Ad fun Cd Dd Ed Fd Gd Id=>
 aD Bd fun Jd Ld=>
 fG Jd fun Md Od Qd Sd=>
 aD Ld fun Td Ud=>
 (Ud=[]∧
 nw aN (zc Pr aN) yd fun Vd Xd=>
 (kept a 14 yd Xd∧
 bM Vd Cd Dd Ed Fd Gd Id Xd fun Yd=>
 bH ud Md Od Qd Sd Yd fun Zd=>
 bb Vd ud Td Zd)))∧
 (nw aN (zc Pr aN) vd fun ae be=>
 (kept a 14 vd be∧
 az Pr gA [.agg ⟨[.int .i64 ub,.slice vb.a vb.n vb.c,.slice xb.a xb.n xb.c,.slice yb.a yb.n yb.c,.slice zb.a zb.n zb.c,.slice Ab.a Ab.n Ab.c]⟩,.agg ⟨[.int .i64 cb,.int .i64 db,.int .i64 eb,.int .i64 fb,.int .i64 gb,.int .i64 ib,.int .i64 jb,.int .i64 kb,.int .i64 lb,.int .i64 mb,.int .i64 nb,.string ob,.slice pb.a pb.n pb.c,.slice qb.a qb.n qb.c]⟩,.slice none 0 0] be fun ce de=>
 bB.bC ce fun ee=>
 aD ee fun fe ge=>
 dK fe fun ie je ke le me ne=>
 aD ge fun oe pe=>
 fG oe fun qe se te ue=>
 aD pe fun ve xe=>
 (xe=[]∧
 bM ae ie je ke le me ne de fun ye=>
 bH ud qe se te ue ye fun ze=>
 bb ae ud ve ze)))))))))))∧
 (((nw aN (zc Pr aN) (World.drew c) fun Ae Be=>
 (kept a 14 (World.drew c) Be∧
 ((az Pr uH [] Be fun Ce De=>
 dK Ce fun Ee Fe Ge Ie Je Le=>
 (kept a 14 Be De∧
 ((az Pr gA [.agg ⟨[.int .i64 Ee,.slice Fe.a Fe.n Fe.c,.slice Ge.a Ge.n Ge.c,.slice Ie.a Ie.n Ie.c,.slice Je.a Je.n Je.c,.slice Le.a Le.n Le.c]⟩,.agg ⟨[.int .i64 cb,.int .i64 db,.int .i64 eb,.int .i64 fb,.int .i64 gb,.int .i64 ib,.int .i64 jb,.int .i64 kb,.int .i64 lb,.int .i64 mb,.int .i64 nb,.string ob,.slice pb.a pb.n pb.c,.slice qb.a qb.n qb.c]⟩,.slice none 0 0] De fun Me Oe=>
 bB.bC Me fun Qe=>
 aD Qe fun Se Te=>
 dK Se fun Ue Ve Xe Ye Ze af=>
 aD Te fun bf cf=>
 fG bf fun df ef ff gf=>
 aD cf fun jf kf=>
 (kf=[]∧
 nw bF (zc Pr bF) Oe fun lf mf=>
 (kept a 14 Oe mf∧
 bM Ae Ue Ve Xe Ye Ze af mf fun nf=>
 bH lf df ef ff gf nf fun pf=>
 bb Ae lf jf pf)))∧
 (nw bF (zc Pr bF) De fun qf sf=>
 (kept a 14 De sf∧
 az Pr gA [.agg ⟨[.int .i64 Ee,.slice Fe.a Fe.n Fe.c,.slice Ge.a Ge.n Ge.c,.slice Ie.a Ie.n Ie.c,.slice Je.a Je.n Je.c,.slice Le.a Le.n Le.c]⟩,.agg ⟨[.int .i64 cb,.int .i64 db,.int .i64 eb,.int .i64 fb,.int .i64 gb,.int .i64 ib,.int .i64 jb,.int .i64 kb,.int .i64 lb,.int .i64 mb,.int .i64 nb,.string ob,.slice pb.a pb.n pb.c,.slice qb.a qb.n qb.c]⟩,.slice none 0 0] sf fun tf uf=>
 bB.bC tf fun vf=>
 aD vf fun xf yf=>
 dK xf fun zf Af Bf Cf Df Ef=>
 aD yf fun Ff Gf=>
 fG Ff fun If Jf Lf Mf=>
 aD Gf fun Nf Of=>
 (Of=[]∧
 bM Ae zf Af Bf Cf Df Ef uf fun Qf=>
 bH qf If Jf Lf Mf Qf fun Sf=>
 bb Ae qf Nf Sf))))))∧
 (nw bF (zc Pr bF) Be fun Tf Uf=>
 (kept a 14 Be Uf∧
 az Pr uH [] Uf fun Vf Xf=>
 dK Vf fun Yf Zf ag bg cg dg=>
 (kept a 14 Uf Xf∧
 az Pr gA [.agg ⟨[.int .i64 Yf,.slice Zf.a Zf.n Zf.c,.slice ag.a ag.n ag.c,.slice bg.a bg.n bg.c,.slice cg.a cg.n cg.c,.slice dg.a dg.n dg.c]⟩,.agg ⟨[.int .i64 cb,.int .i64 db,.int .i64 eb,.int .i64 fb,.int .i64 gb,.int .i64 ib,.int .i64 jb,.int .i64 kb,.int .i64 lb,.int .i64 mb,.int .i64 nb,.string ob,.slice pb.a pb.n pb.c,.slice qb.a qb.n qb.c]⟩,.slice none 0 0] Xf fun eg fg=>
 bB.bC eg fun gg=>
 aD gg fun ig jg=>
 dK ig fun kg lg mg ng og pg=>
 aD jg fun qg sg=>
 fG qg fun tg ug vg xg=>
 aD sg fun yg zg=>
 (zg=[]∧
 bM Ae kg lg mg ng og pg fg fun Ag=>
 bH Tf tg ug vg xg Ag fun Bg=>
 bb Ae Tf yg Bg)))))))∧
 (nw bF (zc Pr bF) (World.drew c) fun Cg Dg=>
 (kept a 14 (World.drew c) Dg∧
 ((az Pr uH [] Dg fun Eg Fg=>
 dK Eg fun Gg Ig Jg Lg Mg Ng=>
 (kept a 14 Dg Fg∧
 ((az Pr gA [.agg ⟨[.int .i64 Gg,.slice Ig.a Ig.n Ig.c,.slice Jg.a Jg.n Jg.c,.slice Lg.a Lg.n Lg.c,.slice Mg.a Mg.n Mg.c,.slice Ng.a Ng.n Ng.c]⟩,.agg ⟨[.int .i64 cb,.int .i64 db,.int .i64 eb,.int .i64 fb,.int .i64 gb,.int .i64 ib,.int .i64 jb,.int .i64 kb,.int .i64 lb,.int .i64 mb,.int .i64 nb,.string ob,.slice pb.a pb.n pb.c,.slice qb.a qb.n qb.c]⟩,.slice none 0 0] Fg fun Og Qg=>
 bB.bC Og fun Sg=>
 aD Sg fun Tg Ug=>
 dK Tg fun Vg Xg Yg Zg ai bi=>
 aD Ug fun ci di=>
 fG ci fun ei fi gi ii=>
 aD di fun ji ki=>
 (ki=[]∧
 nw aN (zc Pr aN) Qg fun li mi=>
 (kept a 14 Qg mi∧
 bM li Vg Xg Yg Zg ai bi mi fun ni=>
 bH Cg ei fi gi ii ni fun oi=>
 bb li Cg ji oi)))∧
 (nw aN (zc Pr aN) Fg fun pi qi=>
 (kept a 14 Fg qi∧
 az Pr gA [.agg ⟨[.int .i64 Gg,.slice Ig.a Ig.n Ig.c,.slice Jg.a Jg.n Jg.c,.slice Lg.a Lg.n Lg.c,.slice Mg.a Mg.n Mg.c,.slice Ng.a Ng.n Ng.c]⟩,.agg ⟨[.int .i64 cb,.int .i64 db,.int .i64 eb,.int .i64 fb,.int .i64 gb,.int .i64 ib,.int .i64 jb,.int .i64 kb,.int .i64 lb,.int .i64 mb,.int .i64 nb,.string ob,.slice pb.a pb.n pb.c,.slice qb.a qb.n qb.c]⟩,.slice none 0 0] qi fun si ti=>
 bB.bC si fun ui=>
 aD ui fun vi xi=>
 dK vi fun yi zi Ai Bi Ci Di=>
 aD xi fun Ei Fi=>
 fG Ei fun Gi Ii Ji Li=>
 aD Fi fun Mi Ni=>
 (Ni=[]∧
 bM pi yi zi Ai Bi Ci Di ti fun Oi=>
 bH Cg Gi Ii Ji Li Oi fun Qi=>
 bb pi Cg Mi Qi))))))∧
 (nw aN (zc Pr aN) Dg fun Si Ti=>
 (kept a 14 Dg Ti∧
 az Pr uH [] Ti fun Ui Vi=>
 dK Ui fun Xi Yi Zi aj bj cj=>
 (kept a 14 Ti Vi∧
 az Pr gA [.agg ⟨[.int .i64 Xi,.slice Yi.a Yi.n Yi.c,.slice Zi.a Zi.n Zi.c,.slice aj.a aj.n aj.c,.slice bj.a bj.n bj.c,.slice cj.a cj.n cj.c]⟩,.agg ⟨[.int .i64 cb,.int .i64 db,.int .i64 eb,.int .i64 fb,.int .i64 gb,.int .i64 ib,.int .i64 jb,.int .i64 kb,.int .i64 lb,.int .i64 mb,.int .i64 nb,.string ob,.slice pb.a pb.n pb.c,.slice qb.a qb.n qb.c]⟩,.slice none 0 0] Vi fun dj ej=>
 bB.bC dj fun fj=>
 aD fj fun gj ij=>
 dK gj fun jj kj lj mj nj oj=>
 aD ij fun pj qj=>
 fG pj fun sj tj uj vj=>
 aD qj fun xj yj=>
 (yj=[]∧
 bM Si jj kj lj mj nj oj ej fun zj=>
 bH Cg sj tj uj vj zj fun Aj=>
 bb Si Cg xj Aj)))))))))))
theorem aem {w:World} {R:Value→World→Prop} (h:Nw w R):Ok Pr AQ [] w R:=
 aL (m:=⟨true,true⟩) (J:=[(3,[(2,.xR),(3,.xR),(4,.val)])]) (L:=[]) aJ Tryz.func9 (by kernel_rfl) ((by kernel_rfl:aK Pr _ _ _ Tryz.f9 _ w R=Nw w R).mpr h)
def Nx (w:World) (R:Value→World→Prop):Prop:=
 nw aN (zc Pr aN) w fun a b=>
 ((j3 Pr bh 1312 1312 (World.drew b) fun c d=>
 ((j3 Pr bh 32 32 d fun e f=>
 ((az Pr oU [.string oM,.slice c.a c.n c.c,.slice e.a e.n e.c] f fun g i=>
 bB.bC g fun j=>
 aD j fun k l=>
 dK k fun m n o p q s=>
 aD l fun t u=>
 bk .i64 t fun v=>
 (u=[]∧
 nw aN (zc Pr aN) i fun x y=>
 bM x m n o p q s y fun z=>
 bT x z fun A B C D E F=>
 bM a A B C D E F z fun G=>
 bT a G fun I J L M N O=>
 R (.agg ⟨[.int .i64 I,.slice J.a J.n J.c,.slice L.a L.n L.c,.slice M.a M.n M.c,.slice N.a N.n N.c,.slice O.a O.n O.c]⟩) G))∧
 (nw aN (zc Pr aN) f fun Q S=>
 az Pr oU [.string oM,.slice c.a c.n c.c,.slice e.a e.n e.c] S fun T U=>
 bB.bC T fun V=>
 aD V fun X Y=>
 dK X fun Z aa ba ca da ea=>
 aD Y fun fa ga=>
 bk .i64 fa fun ia=>
 (ga=[]∧
 bM Q Z aa ba ca da ea U fun ja=>
 bT Q ja fun ka la ma na oa pa=>
 bM a ka la ma na oa pa ja fun qa=>
 bT a qa fun sa ta ua va xa ya=>
 R (.agg ⟨[.int .i64 sa,.slice ta.a ta.n ta.c,.slice ua.a ua.n ua.c,.slice va.a va.n va.c,.slice xa.a xa.n xa.c,.slice ya.a ya.n ya.c]⟩) qa))))∧
 (nw aN (zc Pr aN) d fun za Aa=>
 j3 Pr bh 32 32 Aa fun Ba Ca=>
 az Pr oU [.string oM,.slice c.a c.n c.c,.slice Ba.a Ba.n Ba.c] Ca fun Da Ea=>
 bB.bC Da fun Fa=>
 aD Fa fun Ga Ia=>
 dK Ga fun Ja La Ma Na Oa Qa=>
 aD Ia fun Sa Ta=>
 bk .i64 Sa fun Ua=>
 (Ta=[]∧
 bM za Ja La Ma Na Oa Qa Ea fun Va=>
 bT za Va fun Xa Ya Za ab bb cb=>
 bM a Xa Ya Za ab bb cb Va fun db=>
 bT a db fun eb fb gb ib jb kb=>
 R (.agg ⟨[.int .i64 eb,.slice fb.a fb.n fb.c,.slice gb.a gb.n gb.c,.slice ib.a ib.n ib.c,.slice jb.a jb.n jb.c,.slice kb.a kb.n kb.c]⟩) db))))∧
 (((j3 Pr bh 32 32 (World.drew b) fun lb mb=>
 ((j3 Pr bh 1312 1312 mb fun nb ob=>
 ((az Pr oU [.string oM,.slice nb.a nb.n nb.c,.slice lb.a lb.n lb.c] ob fun pb qb=>
 bB.bC pb fun sb=>
 aD sb fun tb ub=>
 dK tb fun vb xb yb zb Ab Bb=>
 aD ub fun Cb Db=>
 bk .i64 Cb fun Eb=>
 (Db=[]∧
 nw aN (zc Pr aN) qb fun Fb Gb=>
 bM Fb vb xb yb zb Ab Bb Gb fun Ib=>
 bT Fb Ib fun Jb Lb Mb Nb Ob Qb=>
 bM a Jb Lb Mb Nb Ob Qb Ib fun Sb=>
 bT a Sb fun Tb Ub Vb Xb Yb Zb=>
 R (.agg ⟨[.int .i64 Tb,.slice Ub.a Ub.n Ub.c,.slice Vb.a Vb.n Vb.c,.slice Xb.a Xb.n Xb.c,.slice Yb.a Yb.n Yb.c,.slice Zb.a Zb.n Zb.c]⟩) Sb))∧
 (nw aN (zc Pr aN) ob fun ac bc=>
 az Pr oU [.string oM,.slice nb.a nb.n nb.c,.slice lb.a lb.n lb.c] bc fun cc dc=>
 bB.bC cc fun ec=>
 aD ec fun fc gc=>
 dK fc fun ic jc kc lc mc nc=>
 aD gc fun oc pc=>
 bk .i64 oc fun qc=>
 (pc=[]∧
 bM ac ic jc kc lc mc nc dc fun sc=>
 bT ac sc fun tc uc vc xc yc Ac=>
 bM a tc uc vc xc yc Ac sc fun Bc=>
 bT a Bc fun Cc Dc Ec Fc Gc Ic=>
 R (.agg ⟨[.int .i64 Cc,.slice Dc.a Dc.n Dc.c,.slice Ec.a Ec.n Ec.c,.slice Fc.a Fc.n Fc.c,.slice Gc.a Gc.n Gc.c,.slice Ic.a Ic.n Ic.c]⟩) Bc))))∧
 (nw aN (zc Pr aN) mb fun Jc Lc=>
 j3 Pr bh 1312 1312 Lc fun Mc Nc=>
 az Pr oU [.string oM,.slice Mc.a Mc.n Mc.c,.slice lb.a lb.n lb.c] Nc fun Oc Qc=>
 bB.bC Oc fun Sc=>
 aD Sc fun Tc Uc=>
 dK Tc fun Vc Xc Yc Zc bd cd=>
 aD Uc fun dd ed=>
 bk .i64 dd fun fd=>
 (ed=[]∧
 bM Jc Vc Xc Yc Zc bd cd Qc fun gd=>
 bT Jc gd fun jd kd ld md nd od=>
 bM a jd kd ld md nd od gd fun pd=>
 bT a pd fun qd sd td ud vd xd=>
 R (.agg ⟨[.int .i64 qd,.slice sd.a sd.n sd.c,.slice td.a td.n td.c,.slice ud.a ud.n ud.c,.slice vd.a vd.n vd.c,.slice xd.a xd.n xd.c]⟩) pd))))∧
 (nw aN (zc Pr aN) (World.drew b) fun yd zd=>
 ((j3 Pr bh 1312 1312 zd fun Ad Bd=>
 j3 Pr bh 32 32 Bd fun Cd Dd=>
 az Pr oU [.string oM,.slice Ad.a Ad.n Ad.c,.slice Cd.a Cd.n Cd.c] Dd fun Ed Fd=>
 bB.bC Ed fun Gd=>
 aD Gd fun Id Jd=>
 dK Id fun Ld Md Od Qd Sd Td=>
 aD Jd fun Ud Vd=>
 bk .i64 Ud fun Xd=>
 (Vd=[]∧
 bM yd Ld Md Od Qd Sd Td Fd fun Yd=>
 bT yd Yd fun Zd ae be ce de ee=>
 bM a Zd ae be ce de ee Yd fun fe=>
 bT a fe fun ge ie je ke le me=>
 R (.agg ⟨[.int .i64 ge,.slice ie.a ie.n ie.c,.slice je.a je.n je.c,.slice ke.a ke.n ke.c,.slice le.a le.n le.c,.slice me.a me.n me.c]⟩) fe))∧
 (j3 Pr bh 32 32 zd fun ne oe=>
 j3 Pr bh 1312 1312 oe fun pe qe=>
 az Pr oU [.string oM,.slice pe.a pe.n pe.c,.slice ne.a ne.n ne.c] qe fun se te=>
 bB.bC se fun ue=>
 aD ue fun ve xe=>
 dK ve fun ye ze Ae Be Ce De=>
 aD xe fun Ee Fe=>
 bk .i64 Ee fun Ge=>
 (Fe=[]∧
 bM yd ye ze Ae Be Ce De te fun Ie=>
 bT yd Ie fun Je Le Me Oe Qe Se=>
 bM a Je Le Me Oe Qe Se Ie fun Te=>
 bT a Te fun Ue Ve Xe Ye Ze af=>
 R (.agg ⟨[.int .i64 Ue,.slice Ve.a Ve.n Ve.c,.slice Xe.a Xe.n Xe.c,.slice Ye.a Ye.n Ye.c,.slice Ze.a Ze.n Ze.c,.slice af.a af.n af.c]⟩) Te)))))))
theorem aen {w:World} {R:Value→World→Prop} (h:Nx w R):Ok Pr uH [] w R:=
 aL (m:=⟨true,true⟩) (J:=[]) (L:=[]) aJ Tryz.func10 (by kernel_rfl) ((by kernel_rfl:aK Pr _ _ _ Tryz.f10 _ w R=Nx w R).mpr h)
end Go.Proofs.YtgjoehgomjgckaaGreatDoor
end
section
set_option linter.unusedVariables false
set_option linter.unusedSimpArgs false
namespace Go.Proofs.YtgjoehgomjgckaaGreatDoor
open Go Go.Ev
set_option maxRecDepth 20000
set_option linter.unusedVariables false
theorem W0 {q:bG} (h:ou q=true):1≤q.n2∧q.n2≤13:=by
 unfold ou aP at h
 simp only [Bool.and_eq_true,decide_eq_true_eq] at h
 exact h.2.2.1
def isKey (op:Int):Bool:=decide (4≤op) && decide (op≤12)
theorem ops {q:bG} (hq:ou q=true):(iK q.n2=true→isKey q.n2=false∧rF q.n2=false∧q.n2≠13∧q.n2≠12)∧(iK q.n2=false→q.n2≠13→isKey q.n2=true)∧(q.n2=13→isKey q.n2=false∧iK q.n2=false∧rF q.n2=false)∧(rF q.n2=true→q.n2≠13∧q.n2≠12)∧(isKey q.n2=true→iK q.n2=false∧q.n2≠13):=by
 have:=W0 hq
 unfold iK isKey rF
 refine ⟨fun h=>?_,fun h h2=>?_,fun h=>?_,fun h=>?_,fun h=>?_⟩ <;> simp only [Bool.or_eq_true,Bool.or_eq_false_iff,Bool.and_eq_true,Bool.and_eq_false_iff,decide_eq_true_eq,decide_eq_false_iff_not] at * <;> omega
end Go.Proofs.YtgjoehgomjgckaaGreatDoor
end
section
set_option linter.unusedVariables false
set_option linter.unusedSimpArgs false
namespace Go.Proofs.YtgjoehgomjgckaaGreatDoor
open Go Go.Ev
set_option maxRecDepth 20000
set_option linter.unusedVariables false
theorem RY {vs:List bp}:∀ (n:Nat),(∀ i,i<n→gw (vs.getD i vz) ((i:Int)+1)=true)→l7 vs n=true
 | 0,_=>rfl
 | n+1,h=>by
  show (l7 vs n && gw (vs.getD n vz) ((n:Int)+1))=true
  rw [RY n fun i hi=>h i (by omega),h n (by omega)]; rfl
theorem akj (n:Int) (aq:List B8) (h:aq.length=64):gw ⟨n,1,0,aq⟩ n=true:=by
 unfold gw
 rw [decide_eq_true (show (bp.mk n 1 0 aq).n=n from rfl),if_neg (show ¬ (1:Int)=3 by decide),if_neg (show ¬ (1:Int)=4 by decide),if_pos (.inl rfl)]
 simp [h]
theorem XO {k:aR} {aq:List B8} (h:oE k aq.length=0):cR (iV k aq)=true∧(iV k aq).aH=k.aH ++ [⟨(k.aH.length:Int)+1,1,0,aq⟩]:=by
 have e:iV k aq=⟨k.id,k.ten,k.set,k.aH ++ [⟨(k.aH.length:Int)+1,1,0,aq⟩]⟩:=by unfold iV; rw [if_pos h]
 rw [e]
 refine ⟨?_,rfl⟩
 unfold oE at h
 split at h
 ·rename_i hk
  split at h
  ·rename_i gX
   split at h
   ·omega
   ·rename_i h5
    obtain ⟨a1,a2,a3,a4,a5⟩:=xh hk
    unfold cR
    have hl:(k.aH ++ [bp.mk ((k.aH.length:Int)+1) 1 0 aq]).length=k.aH.length+1:=by simp
    have dV:l7 (k.aH ++ [bp.mk ((k.aH.length:Int)+1) 1 0 aq]) (k.aH ++ [bp.mk ((k.aH.length:Int)+1) 1 0 aq]).length=true:=?_
    rw [dV]
    ·unfold cR at hk
     unfold aP at *
     rw [hl]
     simp only [Bool.and_eq_true,decide_eq_true_eq,and_true] at *
     omega
    ·refine RY _ fun i hi=>?_
     rw [hl] at hi
     rw [List.getD_eq_getElem?_getD]
     rcases Nat.lt_or_ge i k.aH.length with h | h
     ·rw [List.getElem?_append_left h,← List.getD_eq_getElem?_getD]; exact a5 i h
     ·have:i=k.aH.length:=by omega
      subst this
      rw [List.getElem?_append_right (Nat.le_refl _),Nat.sub_self]
      exact akj _ _ gX
  ·omega
 ·omega
end Go.Proofs.YtgjoehgomjgckaaGreatDoor
end
section
set_option linter.unusedVariables false
set_option linter.unusedSimpArgs false
namespace Go.Proofs.YtgjoehgomjgckaaGreatDoor
open Go Go.Ev Go.RowKit
set_option maxRecDepth 20000
set_option linter.unusedVariables false
theorem ajf:((Pr.fieldsOf dF).toList.map fun f=>(f.type,f.offset,decide (f.name= "_")))=[(bD,0,false),(bD,1,false),(yZ,2,false)]:=by kernel_rfl
theorem amh:Pr.underlying dF=some (.struct (Pr.fieldsOf dF)):=by kernel_rfl
theorem aln:Pr.stoodInHeld dF=false:=by kernel_rfl
theorem akk:Pr.eqGuardType Pr.depth dF=false:=by kernel_rfl
theorem akl (a b:Int) (n:ByteArray) (w:World):(Op.equalIn 10000 dF (.agg ⟨ku a b n⟩) (.agg ⟨ku a b n⟩)).run Pr w=.ok true w:=by
 rw [show 10000=9999+1 from rfl,run_equalIn_struct w 9999 dF _ _ amh aln]
 refine Nq _ _ _ _ _ fun f hf=>?_
 have hm:(f.type,f.offset,decide (f.name= "_"))∈((Pr.fieldsOf dF).toList.map fun f=>(f.type,f.offset,decide (f.name= "_"))):=List.mem_map_of_mem hf
 rw [ajf] at hm
 have hI:∀ z:Int,(Op.equalIn 9999 bD (.int .i64 z) (.int .i64 z)).run Pr w=.ok true w:=fun z=>by
  rw [show 9999=9998+1 from rfl,run_equalIn_int w 9998 bD .i64 .i64 z z Ry]
  simp
 have hB:∀ z:ByteArray,(Op.equalIn 9999 yZ (.string z) (.string z)).run Pr w=.ok true w:=fun z=>by
  rw [show 9999=9998+1 from rfl,run_equalIn_string w 9998 yZ z z aih]
  simp
 have q0:(Go.part bD ⟨ku a b n⟩ 0).run Pr w=.ok (.int .i64 a) w:=by kernel_rfl
 have q1:(Go.part bD ⟨ku a b n⟩ 1).run Pr w=.ok (.int .i64 b) w:=by kernel_rfl
 have q2:(Go.part yZ ⟨ku a b n⟩ 2).run Pr w=.ok (.string n) w:=by kernel_rfl
 simp only [List.mem_cons,List.not_mem_nil,or_false,Prod.mk.injEq,decide_eq_false_iff_not] at hm
 rcases hm with ⟨h1,h2,h3⟩ | ⟨h1,h2,h3⟩ | ⟨h1,h2,h3⟩
 ·rw [h1,h2]; exact ⟨_,h3,q0,q0,hI _⟩
 ·rw [h1,h2]; exact ⟨_,h3,q1,q1,hI _⟩
 ·rw [h1,h2]; exact ⟨_,h3,q2,q2,hB _⟩
theorem ami {a b:Int} {n:ByteArray} {w:World} {K:Bool→World→Prop} (h:K false w):FA Pr .neq dF (ku a b n) (ku a b n) w K:=by
 refine ⟨.bool false,w,?_,false,rfl,h⟩
 simp only [Sem.run_bind,run_eqGuard_agg w _ _ _ _ _ _ akk,Result.andThen,run_neq_struct,akl]
 rfl
theorem acE (x y:ah) (l:List ck) (w:World) (hx:fo w x l) (hy:fo w y l) (hl:l.length≤1000000):Ok Pr K9 [.slice x.a x.n x.c,.slice y.a y.n y.c] w fun v w'=>v=.bool true∧Mod [] w w':=by
 refine acw ?_
 unfold Lp
 have bV:=hx.len
 have kS:=hy.len
 refine ite_false (by rw [← bV,← kS]; simp) ?_
 refine cZ 0 l.length (fun i w'=>Mod [] w w') rfl (by omega) (Mod.refl _ _) ?_ ?_
 ·intro again i w1 _ hi m aM
  have m':=m.trans (Mod.drew [] w1)
  obtain ⟨h1,c1⟩:=(hx.aG m').at hi
  obtain ⟨h2,c2⟩:=(hy.aG m').at hi
  exact ite_true (decide_eq_true (by omega)) ⟨h1,C9 c1 ⟨h2,C9 c2 (ami (ite_false rfl ⟨⟨by omega,by omega⟩,aM _ m'⟩))⟩⟩
 ·intro again w1 m
  exact ite_false (decide_eq_false (by omega)) ⟨rfl,m⟩
theorem acF (v:bp) (x y:ah) (hl:v.aq.length≤1000000) (w:World) (hx:jM w x v) (hy:jM w y v):Ok Pr GU [.agg ⟨v.cs x⟩,.agg ⟨v.cs y⟩] w fun r w'=>r=.bool true∧Mod [] w w':=by
 refine Ux ?_
 unfold GV
 refine (ak.start w).nw fun p w1 H _=>H.nw fun p1 w2 H _=>?_
 have H:ak w [] w2 [.av p (v.cs x) cI,.av p1 (v.cs y) cI]:=H
 refine H.an 0 rfl (au p 0) rfl (H.an 1 rfl (au p1 0) rfl (H.an 0 rfl (au p 1) rfl (H.an 1 rfl (au p1 1) rfl (H.an 0 rfl (au p 2) rfl (H.an 1 rfl (au p1 2) rfl (H.ax 0 rfl (au p 3) rfl (H.ax 1 rfl (au p1 3) rfl (ite_true (by simp) ?_))))))))
 refine aB (GY x y v.aq v.aq _ (Bytes.aG hx H.mod) (Bytes.aG hy H.mod) (by omega)) ?_
 rintro _ w3 ⟨rfl,m⟩
 exact bu ⟨by rw [decide_eq_true rfl],H.mod.trans m⟩
theorem adK (k:aR) (x y:ah) (hl:k.aH.length≤1000000) (gl:∀ v∈k.aH,v.aq.length≤1000000) (w:World) (hx:fO w x k.aH) (hy:fO w y k.aH):Ok Pr Dm [.agg ⟨k.cs x⟩,.agg ⟨k.cs y⟩] w fun r w'=>r=.bool true∧Mod [] w w':=by
 refine UF ?_
 unfold He
 have bV:=hx.len
 have kS:=hy.len
 refine (ak.start w).nw fun p w1 H _=>H.nw fun p1 w2 H _=>?_
 have H:ak w [] w2 [.av p (k.cs x) aV,.av p1 (k.cs y) aV]:=H
 refine H.an 0 rfl (au p 0) rfl (H.an 1 rfl (au p1 0) rfl (H.an 0 rfl (au p 1) rfl (H.an 1 rfl (au p1 1) rfl (H.an 0 rfl (au p 2) rfl (H.an 1 rfl (au p1 2) rfl (H.ax 0 rfl (au p 3) rfl (H.ax 1 rfl (au p1 3) rfl (ite_false (by rw [← bV,← kS]; simp) ?_))))))))
 refine cZ 0 k.aH.length (fun i w'=>ak w [] w' [.av p (k.cs x) aV,.av p1 (k.cs y) aV]) rfl (by omega) H ?_ ?_
 ·intro again i w3 _ hi H aM
  have D:=H.drew
  have hv:k.aH[i]? = some (k.aH.getD i vz):=by rw [List.getD_eq_getElem?_getD,List.getElem?_eq_getElem hi]; rfl
  obtain ⟨h1,u1,e1,c1⟩:=Dv.at bp.ct (by omega) (hx.aG D.mod) hv
  obtain ⟨h2,u2,e2,c2⟩:=Dv.at bp.ct (by omega) (hy.aG D.mod) hv
  refine H.ax 0 rfl (au p 3) rfl (ite_true (decide_eq_true (by omega)) (D.ax 0 rfl (au p 3) rfl ⟨h1,uD c1 (D.ax 1 rfl (au p1 3) rfl ⟨h2,uD c2 ?_⟩)⟩))
  refine aB (acF (k.aH.getD i vz) u1 u2 (gl _ (by rw [List.getD_eq_getElem?_getD,List.getElem?_eq_getElem hi]; exact List.getElem_mem hi)) _ e1 e2) ?_
  rintro _ w4 ⟨rfl,m⟩
  exact bu (ite_false rfl ⟨⟨by omega,by omega⟩,aM _ (D.frame m)⟩)
 ·intro again w3 H
  exact H.ax 0 rfl (au p 3) rfl (ite_false (decide_eq_false (by omega)) ⟨rfl,H.mod⟩)
end Go.Proofs.YtgjoehgomjgckaaGreatDoor
end
section
set_option linter.unusedVariables false
set_option linter.unusedSimpArgs false
namespace Go.Proofs.YtgjoehgomjgckaaGreatDoor
open Go Go.Ev
set_option maxRecDepth 20000
set_option linter.unusedVariables false
theorem alo {A:Type} {l:List A} {d:A} {P:A→Prop} (h:∀ j,j<l.length→P (l.getD j d)):∀ a∈l,P a:=fun a ha=>by
 obtain ⟨j,hj,e⟩:=List.getElem_of_mem ha
 have:=h j hj
 rw [List.getD_eq_getElem?_getD,List.getElem?_eq_getElem hj] at this
 simpa [e] using this
end Go.Proofs.YtgjoehgomjgckaaGreatDoor
end
section
set_option linter.unusedVariables false
set_option linter.unusedSimpArgs false
namespace Go.Proofs.YtgjoehgomjgckaaGreatDoor
open Go Go.Ev
set_option maxRecDepth 20000
set_option linter.unusedVariables false
def fT:aS:=Gn oM (List.replicate 1312 0) (List.replicate 32 0)
def AT (w w':World) (v:Value) (T:aS):Prop:=∃ s ys zs fp fq,v=.agg ⟨T.cs s⟩∧ak w [] w' (iW s T ys zs fp fq)
theorem U8 (w:World):Ok Pr uH [] w fun v w'=>AT w w' v fT:=by
 refine aen ?_
 unfold Nx
 rw [th]
 have first:∀ (x y:ah) (w3:World),Bytes w3 x (List.replicate 1312 0)→Bytes w3 y (List.replicate 32 0)→Ok Pr oU [.string oM,.slice x.a x.n x.c,.slice y.a y.n y.c] w3 fun v w'=>∃ c,aaG w3 w' v fT [.int .i64 c] []:=fun x y w3 h1 h2=>by
  refine (afI oM x y _ _ (by simp) (by simp) w3 h1 h2).mono ?_
  intro v w' h
  exact ⟨_,h⟩
 generalize fT=T at *
 refine (ak.start w).nw fun p w1 H _=>?_
 have H:ak w [] w1.drew [.av p (gH.cs sZ) aN]:=H.drew
 have post:∀ {w5:World} {p2:Nat} {s:eu} {ys zs:List ah} {fp fq:List Nat},ak w [] w5 ([.av p (gH.cs sZ) aN,.av p2 (gH.cs sZ) aN] ++ iW s T ys zs fp fq)→
   bM ⟨p2,0,none⟩ T.clock s.sec s.ten s.aC s.key s.gr w5 fun w6=>bT ⟨p2,0,none⟩ w6 fun f0 f1 f2 f3 f4 f5=>bM ⟨p,0,none⟩ f0 f1 f2 f3 f4 f5 w6 fun w7=>bT ⟨p,0,none⟩ w7 fun g0 g1 g2 g3 g4 g5=>
    AT w w7 (.agg ⟨[.int .i64 g0,.slice g1.a g1.n g1.c,.slice g2.a g2.n g2.c,.slice g3.a g3.n g3.c,.slice g4.a g4.n g4.c,.slice g5.a g5.n g5.c]⟩) T:=by
  intro w5 p2 s ys zs fp fq K
  exact K.bM 1 rfl rfl fun w6 K=>K.bT 1 rfl (K.bM 0 rfl rfl fun w7 K=>K.bT 0 rfl ⟨s,ys,zs,fp,fq,rfl,K.drop 2⟩)
 have Ch:∀ {w8:World} {p2:Nat} {x y:ah},ak w [] w8 [.av p (gH.cs sZ) aN,.av p2 (gH.cs sZ) aN,.row bh 1 x (bn (List.replicate 1312 0)),.row bh 1 y (bn (List.replicate 32 0))]→
   az Pr oU [.string oM,.slice x.a x.n x.c,.slice y.a y.n y.c] w8 fun v w9=>bB.bC v fun vs=>aD vs fun v1 r=>dK v1 fun t0 t1 t2 t3 t4 t5=>aD r fun v2 r2=>bk .i64 v2 fun n=>(r2=[]∧
   bM ⟨p2,0,none⟩ t0 t1 t2 t3 t4 t5 w9 fun w6=>bT ⟨p2,0,none⟩ w6 fun f0 f1 f2 f3 f4 f5=>bM ⟨p,0,none⟩ f0 f1 f2 f3 f4 f5 w6 fun w7=>bT ⟨p,0,none⟩ w7 fun g0 g1 g2 g3 g4 g5=>
    AT w w7 (.agg ⟨[.int .i64 g0,.slice g1.a g1.n g1.c,.slice g2.a g2.n g2.c,.slice g3.a g3.n g3.c,.slice g4.a g4.n g4.c,.slice g5.a g5.n g5.c]⟩) T):=by
  intro w8 p2 x y K
  refine aB (first x y w8 (Own.bytes (K.qE 2 rfl)) (Own.bytes (K.qE 3 rfl))) ?_
  rintro _ w9 ⟨c,s,ys,zs,fp,fq,rfl,G⟩
  have K:=K.join G
  refine ⟨_,rfl,iZ ⟨_,rfl,rfl,post (ys:=ys) (zs:=zs) (fp:=fp) (fq:=fq) ?_⟩⟩
  exact K.cS [0,1,4,5,6,7,8,9,10] (by decide) rfl
 have aac:∀ {w8:World} {x y:ah},ak w [] w8 [.av p (gH.cs sZ) aN,.row bh 1 x (bn (List.replicate 1312 0)),.row bh 1 y (bn (List.replicate 32 0))]→
   az Pr oU [.string oM,.slice x.a x.n x.c,.slice y.a y.n y.c] w8 fun v w4=>bB.bC v fun vs=>aD vs fun v1 r=>dK v1 fun t0 t1 t2 t3 t4 t5=>aD r fun v2 r2=>bk .i64 v2 fun n=>(r2=[]∧
   nw aN (gH.cs sZ) w4 fun a w9=>bM a t0 t1 t2 t3 t4 t5 w9 fun w6=>bT a w6 fun f0 f1 f2 f3 f4 f5=>bM ⟨p,0,none⟩ f0 f1 f2 f3 f4 f5 w6 fun w7=>bT ⟨p,0,none⟩ w7 fun g0 g1 g2 g3 g4 g5=>
    AT w w7 (.agg ⟨[.int .i64 g0,.slice g1.a g1.n g1.c,.slice g2.a g2.n g2.c,.slice g3.a g3.n g3.c,.slice g4.a g4.n g4.c,.slice g5.a g5.n g5.c]⟩) T):=by
  intro w8 x y K
  refine aB (first x y w8 (Own.bytes (K.qE 1 rfl)) (Own.bytes (K.qE 2 rfl))) ?_
  rintro _ w9 ⟨c,s,ys,zs,fp,fq,rfl,G⟩
  have K:=K.join G
  refine ⟨_,rfl,iZ ⟨_,rfl,rfl,K.nw fun p2 cL K _=>post (ys:=ys) (zs:=zs) (fp:=fp) (fq:=fq) ?_⟩⟩
  exact K.cS [0,10,3,4,5,6,7,8,9] (by decide) rfl
 have z8:zc Pr bh=[.int .u8 0]:=by kernel_rfl
 refine ⟨?_,?_,?_⟩
 ·refine H.tZ iJ z8 rfl rfl (by decide) fun x w2 H _=>⟨H.tZ iJ z8 rfl rfl (by decide) fun y w3 H _=>⟨aac H,H.nw fun p2 w8 H _=>Ch (H.cS [0,3,1,2] (by decide) rfl)⟩,H.nw fun p2 w8 H _=>H.tZ iJ z8 rfl rfl (by decide) fun y w3 H _=>Ch (H.cS [0,2,1,3] (by decide) rfl)⟩
 ·refine H.tZ iJ z8 rfl rfl (by decide) fun y w2 H _=>⟨H.tZ iJ z8 rfl rfl (by decide) fun x w3 H _=>⟨aac (H.cS [0,2,1] (by decide) rfl),H.nw fun p2 w8 H _=>Ch (H.cS [0,3,2,1] (by decide) rfl)⟩,H.nw fun p2 w8 H _=>H.tZ iJ z8 rfl rfl (by decide) fun x w3 H _=>Ch (H.cS [0,2,3,1] (by decide) rfl)⟩
 ·refine H.nw fun p2 w8 H _=>⟨H.tZ iJ z8 rfl rfl (by decide) fun x w2 H _=>H.tZ iJ z8 rfl rfl (by decide) fun y w3 H _=>Ch H,H.tZ iJ z8 rfl rfl (by decide) fun y w2 H _=>H.tZ iJ z8 rfl rfl (by decide) fun x w3 H _=>Ch (H.cS [0,1,3,2] (by decide) rfl)⟩
end Go.Proofs.YtgjoehgomjgckaaGreatDoor
end
section
set_option linter.unusedVariables false
set_option linter.unusedSimpArgs false
namespace Go.Proofs.YtgjoehgomjgckaaGreatDoor
open Go Go.Ev
set_option maxRecDepth 20000
set_option linter.unusedVariables false
def a0:bG:=⟨1,1,1,1,0,0,0,0,0,0,0,S_a,⟨none,0,0⟩,⟨none,0,0⟩⟩
theorem aw1:dC a0 [] [] [] fT=0:=by kernel_rfl
theorem aw2:(dR a0 [] [] [] fT).id=2:=by kernel_rfl
theorem aw3:(dT a0 [] [] [] fT).bI.length=2:=by kernel_rfl
theorem aw4:dC a0 [] [] [] (dT a0 [] [] [] fT)=8:=by kernel_rfl
theorem aw5:xE (dT a0 [] [] [] fT) 9=0:=by kernel_rfl
theorem aw6:Jy (dT a0 [] [] [] fT) 9=0:=by kernel_rfl
theorem aw7:(Jw (dT a0 [] [] [] fT) 9).clock=9:=by kernel_rfl
end Go.Proofs.YtgjoehgomjgckaaGreatDoor
end
section
set_option linter.unusedVariables false
set_option linter.unusedSimpArgs false
namespace Go.Proofs.YtgjoehgomjgckaaGreatDoor
open Go Go.Ev
set_option maxRecDepth 20000
set_option linter.unusedVariables false
def wv (k:aR):Prop:=k.aH.length≤1000∧∀ v∈k.aH,v.aq.length≤1000000
theorem Jo:wv kz:=⟨by show 0≤1000; omega,fun v hv=>by cases hv⟩
theorem alp {id ten set:Int} {aq:List B8} (h:aq.length≤1000000):wv (qH id ten set aq):=by
 unfold qH
 split
 ·exact ⟨by show 1≤1000; omega,fun v hv=>by rw [List.mem_singleton.1 hv]; exact h⟩
 ·exact Jo
theorem alq {k:aR} {aq:List B8} (hk:wv k) (h:aq.length≤1000000):wv (iV k aq):=by
 by_cases h0:oE k aq.length=0
 ·obtain ⟨h1,h2⟩:=XO h0
  obtain ⟨_,_,_,h5,_⟩:=xh h1
  refine ⟨by omega,fun v hv=>?_⟩
  rw [h2] at hv
  rcases List.mem_append.1 hv with h3 | h3
  ·exact hk.2 v h3
  ·rw [List.mem_singleton.1 h3]; exact h
 ·unfold iV; rw [if_neg h0]; exact Jo
theorem Rh {A:Type} {l:List A} {i:Nat} {d:A}:l.getD i d∈l∨l.getD i d=d:=by
 rw [List.getD_eq_getElem?_getD]
 rcases Nat.lt_or_ge i l.length with h | h
 ·rw [List.getElem?_eq_getElem h]; exact .inl (List.getElem_mem h)
 ·rw [List.getElem?_eq_none h]; exact .inr rfl
theorem QM {t:aS} (hs:t.small):∀ k∈t.keys,wv k:=fun k hk=>⟨hs.br k hk,hs.aq k hk⟩
theorem alr {k:aR} {op br dX clock:Int} (hk:wv k):wv (pN k op br dX clock):=by
 unfold pN
 split
 ·refine ⟨by show (k.aH.set _ _).length≤1000; rw [List.length_set]; exact hk.1,fun v hv=>?_⟩
  rcases List.mem_or_eq_of_mem_set hv with h | h
  ·exact hk.2 v h
  ·rw [h]
   show (k.aH.getD (br - 1).toNat vz).aq.length≤1000000
   rcases Rh (l:=k.aH) (i:=(br - 1).toNat) (d:=vz) with h2 | h2
   ·exact hk.2 _ h2
   ·rw [h2]; exact Nat.zero_le _
 ·exact Jo
theorem als (ts:List ck) (par:Int) (name:ByteArray):(rQ ts par name).length≤1000:=by
 unfold rQ
 split
 ·rename_i h
  have hm:gG ts=true:=by
   unfold oF at h
   split at h
   ·assumption
   ·omega
  unfold gG at hm
  rw [Bool.and_eq_true,decide_eq_true_eq] at hm
  rw [List.length_append,List.length_singleton]
  omega
 ·exact Nat.zero_le _
theorem akm {l:List bP} {g:bP} (h:oG l g=0):gh l=true:=by
 unfold oG at h
 split at h
 ·rename_i h2; exact h2.1
 ·omega
theorem air {q:bG} {t:aS} (hs:t.small) (hf:(hO q).fit):(vB q t).aX.length≤1000∧∀ g∈(vB q t).aX,g.fit:=by
 show (if q.n2=13 then kF t.aX q.n7 else j5 t.aX (hO q)).length≤1000∧∀ g∈(if q.n2=13 then kF t.aX q.n7 else j5 t.aX (hO q)),g.fit
 split
 ·unfold kF
  split
  ·rw [List.length_set]
   refine ⟨hs.gr,fun g hg=>?_⟩
   rcases List.mem_or_eq_of_mem_set hg with h | h
   ·exact hs.gf g h
   ·rw [h]
    show -9223372036854775808≤(t.aX.getD (q.n7 - 1).toNat gz).n3
    rcases Rh (l:=t.aX) (i:=(q.n7 - 1).toNat) (d:=gz) with h2 | h2
    ·exact hs.gf _ h2
    ·rw [h2]; decide
  ·exact ⟨Nat.zero_le _,fun g hg=>by cases hg⟩
 ·unfold j5
  split
  ·rename_i h
   have:=YM (akm h)
   rw [List.length_append,List.length_singleton]
   refine ⟨by omega,fun g hg=>?_⟩
   rcases List.mem_append.1 hg with h2 | h2
   ·exact hs.gf g h2
   ·rw [List.mem_singleton.1 h2]; exact hf
  ·exact ⟨Nat.zero_le _,fun g hg=>by cases hg⟩
theorem Wp {t:aS} (hs:t.small) {ks:List aR} (hl:ks.length≤1000) (h:∀ k∈ks,wv k):({ t with keys:=ks }:aS).small:=
 { hs with key:=hl,br:=fun k hk=>(h k hk).1,aq:=fun k hk=>(h k hk).2 }
theorem ajg {q:bG} {lb aq:List B8} {t:aS} (hf:Fit q t) (hg:(hO q).fit) (Un:lb.length≤1000000) (dP:aq.length≤1000000):(nV q lb aq t).small:=by
 have hs:=hf.small
 have hp6:=hf.aC
 have hk6:=hf.key
 unfold nV
 split
 ·exact { hs with ten:=als _ _ _ }
 split
 ·refine { hs with aC:=?_,pk:=fun p hp=>?_ }
  ·show (t.aC ++ [vA q lb t]).length≤1000
   rw [List.length_append,List.length_singleton]; omega
  ·rcases List.mem_append.1 (show p∈t.aC ++ [vA q lb t] from hp) with h | h
   ·exact hs.pk p h
   ·rw [List.mem_singleton.1 h]; exact Un
 split
 ·refine Wp hs (by rw [List.length_append,List.length_singleton]; omega) fun k hk=>?_
  rcases List.mem_append.1 hk with h | h
  ·exact QM hs k h
  ·rw [List.mem_singleton.1 h]; exact alp dP
 split
 ·exact hs
 split
 ·obtain ⟨h1,h2⟩:=air hs hg
  exact { hs with gr:=h1,gf:=h2 }
 ·refine Wp hs (by rw [List.length_set]; exact hs.key) fun k hk=>?_
  rcases List.mem_or_eq_of_mem_set hk with h | h
  ·exact QM hs k h
  ·have yy:wv (cv q t):=by
    unfold cv
    rcases Rh (l:=t.keys) (i:=(q.n4 - 1).toNat) (d:=kz) with h2 | h2
    ·exact QM hs _ h2
    ·rw [h2]; exact Jo
   rw [h]
   unfold Cx
   split
   ·exact alq yy dP
   ·exact alr yy
theorem ais:gH.small:=⟨Nat.zero_le _,Nat.zero_le _,Nat.zero_le _,Nat.zero_le _,Nat.zero_le _,fun p h=>(by cases h),fun p h=>(by cases h),fun p h=>(by cases h),fun p h=>(by cases h)⟩
theorem Ri {q:bG} {lb lt aq:List B8} {t:aS} (hs:t.small) (Un:lb.length≤1000000) (dP:aq.length≤1000000):(dT q lb lt aq t).small:=by
 unfold dT
 split
 ·rename_i h
  have h0:oH q lt t=0:=by
   unfold dC at h
   split at h
   ·assumption
   ·rename_i h2; exact absurd h h2
  have hq:=(IB h0).2.1
  have hg:(hO q).fit:=by
   have:=VX hq q.n9 (by simp [bG.rest])
   show -9223372036854775808≤q.n9
   omega
  exact ajg (XM hs h0) hg Un dP
 ·exact ais
end Go.Proofs.YtgjoehgomjgckaaGreatDoor
end
section
set_option linter.unusedVariables false
set_option linter.unusedSimpArgs false
namespace Go.Proofs.YtgjoehgomjgckaaGreatDoor
open Go Go.Ev
set_option maxRecDepth 20000
set_option linter.unusedVariables false
theorem XP:fT.small:=by
 have e:fT=kQ oM (List.replicate 1312 0) (List.replicate 32 0):=by
  unfold fT Gn
  rw [if_pos (by kernel_rfl)]
 rw [e]
 exact Qs (by simp) (by simp)
theorem afK (w:World) (hg:Laid w):Ok Pr AQ [] w fun v w'=>v=.bool true∧Mod [] w w':=by
 refine aem ?_
 unfold Nw
 rw [th,ru]
 have hf:=XP
 have h1:=aw1
 have h2:=aw2
 have h3:=aw3
 have h4:=aw4
 have h5:=aw5
 have h6:=aw6
 have h7:=aw7
 have hT:=Ri (q:=a0) (lb:=[]) (lt:=[]) (aq:=[]) hf (by simp) (by simp)
 generalize eT0:fT=T0 at *
 refine (ak.start w).nw fun p w1 H _=>H.HZ 0 rfl (by kernel_rfl) fun w2 H=>?_
 have H:ak w [] w2 [.av p a0.cells kZ]:=H
 refine ajI fun go bY=>?_
 have main:∀ {pt pr:Nat} {er:Value} {w8:World} {s:eu} {ys zs:List ah} {fp fq:List Nat} {y z:ah},ak w [] w8 ([.av p a0.cells kZ,.av pt ((dT a0 [] [] [] T0).cs s) aN,.av pr (dZ 0 2 y z) bF,aE.err er 0] ++ iW s (dT a0 [] [] [] T0) ys zs fp fq)→go ⟨pt,0,none⟩ ⟨pr,0,none⟩ er w8:=by
  intro pt pr er w8 s ys zs fp fq y z K
  have hx:iN w8 s (dT a0 [] [] [] T0):=o8 (L:=[_,_,_,_]) K
  have htn:=hx.ten.len
  have CH:∀ w',Bytes w' ⟨none,0,0⟩ []:=fun w'=>Sl.nil w' 1
  refine bY _ _ _ _ (K.bT 1 rfl (K.jz 0 rfl (aB (wL s (dT a0 [] [] [] T0) a0 [] [] ⟨none,0,0⟩ [] hT (by simp) w8 (hg.oD K (by simp)) hx (CH _) (CH _) (CH _)) ?_)))
  rintro _ w4 ⟨s2,iR,zs2,dU,jw,y2,z2,TU,rfl,G⟩
  rw [h4] at G ⊢
  have K:=K.join G
  generalize dT a0 [] [] [] (dT a0 [] [] [] T0)=T2 at *
  generalize (dR a0 [] [] [] (dT a0 [] [] [] T0))=R2 at *
  refine ⟨_,rfl,iZ (oS ⟨rfl,K.nw fun p1 w5 K _=>K.nw fun p2 w6 K _=>K.bM 21 rfl rfl fun w7 K=>K.bH 22 rfl rfl fun w8 K=>K.bT 1 rfl ?_⟩)⟩
  refine aB (agH s (dT a0 [] [] [] T0) 9 hT w8 (o8 (L:=[_,_,_,_]) (K.take 11))) ?_
  rintro _ w9 ⟨s3,ys3,zs3,fp3,fq3,er3,rfl,G3⟩
  rw [h5] at G3
  rw [h6]
  have K:=K.join G3
  refine ⟨_,rfl,iZ ⟨_,rfl,rfl,K.nw fun p3 cL K _=>K.bM 31 rfl rfl fun cX K=>?_⟩⟩
  have e0:fZ cX er 0:=K.ok 3 _ rfl
  have e2:fZ cX TU 8:=K.ok 20 _ rfl
  have e3:fZ cX er3 0:=K.ok 30 _ rfl
  refine e0.isNil (K.an 2 rfl (au pr 1) rfl (K.ax 1 rfl (au pt 2) rfl (ite_true ?_ (aB (agT TU 8 cX (hg.oD K (by simp)) e2) ?_))))
  ·rw [show ((s.ten.n:Nat):Int)=2 by omega]; rfl
  rintro _ fR ⟨rfl,kI⟩
  have K:=K.frame kI
  refine fm (K.an 22 rfl (au p2 0) rfl (ite_true (by decide) ((e3.mod kI).isNil (K.an 31 rfl (au p3 0) rfl ⟨?_,K.mod⟩))))
  rw [h7]; rfl
 have fin:∀ {pt pr:Nat} {er:Value} {w5:World} {s:eu} {ys zs:List ah} {fp fq:List Nat} {y z:ah},ak w [] w5 [.av p a0.cells kZ,.av pt (gH.cs sZ) aN,.av pr (dZ 0 0 ⟨none,0,0⟩ ⟨none,0,0⟩) bF,aE.err er 0,.row bh 1 s.sec (bn (dT a0 [] [] [] T0).bN),.row dF 3 s.ten (gR (dT a0 [] [] [] T0).bI),.row cJ 6 s.gr (dY (dT a0 [] [] [] T0).aX),.row dJ 5 s.aC (bq cw.cs (dT a0 [] [] [] T0).aC ys),.box fp fun w=>bw iY w ys (dT a0 [] [] [] T0).aC,.row aV 4 s.key (bq aR.cs (dT a0 [] [] [] T0).keys zs),.box fq fun w=>bw gq w zs (dT a0 [] [] [] T0).keys]→
   bM ⟨pt,0,none⟩ (dT a0 [] [] [] T0).clock s.sec s.ten s.aC s.key s.gr w5 fun w6=>bH ⟨pr,0,none⟩ 0 2 y z w6 fun w7=>go ⟨pt,0,none⟩ ⟨pr,0,none⟩ er w7:=fun {pt pr er w5 s ys zs fp fq y z} K=>
  K.bM 1 rfl rfl fun w6 K=>K.bH 2 rfl rfl fun w7 K=>main (ys:=ys) (zs:=zs) (fp:=fp) (fq:=fq) K
 have oQ:∀ {w8:World} {M:List aE} {s:eu} {ys zs:List ah} {fp fq:List Nat},ak w [] w8 (M ++ iW s T0 ys zs fp fq)→Ok Pr gA [.agg ⟨T0.cs s⟩,.agg ⟨a0.cells⟩,.slice none 0 0] w8 fun v w'=>∃ s1 qW qX qY qZ y z er,v=.tuple ⟨[.agg ⟨(dT a0 [] [] [] T0).cs s1⟩,.agg ⟨dZ 0 2 y z⟩,er]⟩∧ak w [] w' (M ++ (iW s1 (dT a0 [] [] [] T0) qW qX qY qZ ++ [.cut y (dR a0 [] [] [] T0).gp,.cut z (dR a0 [] [] [] T0).ex,aE.err er 0]))∧Mod [] w8 w':=by
  intro w8 M s ys zs fp fq K
  refine (wL s T0 a0 [] [] ⟨none,0,0⟩ [] hf (by simp) w8 (hg.oD K (by simp)) (o8 K) (Sl.nil _ 1) (Sl.nil _ 1) (Sl.nil _ 1)).mono ?_
  rintro v w' ⟨s1,qW,qX,qY,qZ,y,z,er,rfl,G⟩
  rw [h1] at G ⊢
  rw [h2]
  refine ⟨s1,qW,qX,qY,qZ,y,z,er,rfl,?_,G.mod⟩
  have K2:=(K.take M.length)
  rw [List.take_left] at K2
  exact K2.join G
 have D2:∀ {pt pr:Nat} {w8:World} {s:eu} {ys zs:List ah} {fp fq:List Nat},ak w [] w8 ([.av p a0.cells kZ,.av pt (gH.cs sZ) aN,.av pr (dZ 0 0 ⟨none,0,0⟩ ⟨none,0,0⟩) bF] ++ iW s T0 ys zs fp fq)→
   az Pr gA [.agg ⟨T0.cs s⟩,.agg ⟨a0.cells⟩,.slice none 0 0] w8 fun v w9=>bB.bC v fun vs=>aD vs fun v1 r=>dK v1 fun t0 t1 t2 t3 t4 t5=>aD r fun v2 r2=>fG v2 fun c0 c1 c2 c3=>aD r2 fun v3 r3=>(r3=[]∧bM ⟨pt,0,none⟩ t0 t1 t2 t3 t4 t5 w9 fun w6=>bH ⟨pr,0,none⟩ c0 c1 c2 c3 w6 fun w7=>go ⟨pt,0,none⟩ ⟨pr,0,none⟩ v3 w7):=by
  intro pt pr w8 s ys zs fp fq K
  refine aB (oQ K) ?_
  rintro _ w9 ⟨s1,qW,qX,qY,qZ,y,z,er,rfl,G,m⟩
  refine ⟨_,rfl,iZ (oS ⟨rfl,fin (ys:=qW) (zs:=qX) (fp:=qY) (fq:=qZ) ?_⟩)⟩
  exact G.cS [0,1,2,12,3,4,5,6,7,8,9] (by decide) rfl
 have D1t:∀ {pt:Nat} {w8:World} {s:eu} {ys zs:List ah} {fp fq:List Nat},ak w [] w8 ([.av p a0.cells kZ,.av pt (gH.cs sZ) aN] ++ iW s T0 ys zs fp fq)→
   az Pr gA [.agg ⟨T0.cs s⟩,.agg ⟨a0.cells⟩,.slice none 0 0] w8 fun v w9=>bB.bC v fun vs=>aD vs fun v1 r=>dK v1 fun t0 t1 t2 t3 t4 t5=>aD r fun v2 r2=>fG v2 fun c0 c1 c2 c3=>aD r2 fun v3 r3=>(r3=[]∧nw bF (dZ 0 0 ⟨none,0,0⟩ ⟨none,0,0⟩) w9 fun pr cL=>(kept ⟨p,0,none⟩ 14 w9 cL∧bM ⟨pt,0,none⟩ t0 t1 t2 t3 t4 t5 cL fun w6=>bH pr c0 c1 c2 c3 w6 fun w7=>go ⟨pt,0,none⟩ pr v3 w7)):=by
  intro pt w8 s ys zs fp fq K
  refine aB (oQ K) ?_
  rintro _ w9 ⟨s1,qW,qX,qY,qZ,y,z,er,rfl,G,m⟩
  refine ⟨_,rfl,iZ (oS ⟨rfl,G.g9 fun pr cL G2 _=>⟨fV (G.av 0 rfl) (G2.av 0 rfl) 14,fin (ys:=qW) (zs:=qX) (fp:=qY) (fq:=qZ) ?_⟩⟩)⟩
  exact G2.cS [0,1,12,11,2,3,4,5,6,7,8] (by decide) rfl
 have D1r:∀ {pr:Nat} {w8:World} {s:eu} {ys zs:List ah} {fp fq:List Nat},ak w [] w8 ([.av p a0.cells kZ,.av pr (dZ 0 0 ⟨none,0,0⟩ ⟨none,0,0⟩) bF] ++ iW s T0 ys zs fp fq)→
   az Pr gA [.agg ⟨T0.cs s⟩,.agg ⟨a0.cells⟩,.slice none 0 0] w8 fun v w9=>bB.bC v fun vs=>aD vs fun v1 r=>dK v1 fun t0 t1 t2 t3 t4 t5=>aD r fun v2 r2=>fG v2 fun c0 c1 c2 c3=>aD r2 fun v3 r3=>(r3=[]∧nw aN (kY 0 ⟨none,0,0⟩ ⟨none,0,0⟩ ⟨none,0,0⟩ ⟨none,0,0⟩ ⟨none,0,0⟩) w9 fun pt cL=>(kept ⟨p,0,none⟩ 14 w9 cL∧bM pt t0 t1 t2 t3 t4 t5 cL fun w6=>bH ⟨pr,0,none⟩ c0 c1 c2 c3 w6 fun w7=>go pt ⟨pr,0,none⟩ v3 w7)):=by
  intro pr w8 s ys zs fp fq K
  refine aB (oQ K) ?_
  rintro _ w9 ⟨s1,qW,qX,qY,qZ,y,z,er,rfl,G,m⟩
  refine ⟨_,rfl,iZ (oS ⟨rfl,G.g9 fun pt cL G2 _=>⟨fV (G.av 0 rfl) (G2.av 0 rfl) 14,fin (ys:=qW) (zs:=qX) (fp:=qY) (fq:=qZ) ?_⟩⟩)⟩
  exact G2.cS [0,12,1,11,2,3,4,5,6,7,8] (by decide) rfl
 have first:∀ w8,Ok Pr uH [] w8 fun v w'=>AT w8 w' v T0:=fun w8=>eT0 ▸ U8 w8
 have D:=H.drew
 refine D.jz 0 rfl ⟨?_,?_,?_⟩
 ·refine aB (first _) ?_
  rintro _ fF ⟨s,ys,zs,fp,fq,rfl,G⟩
  have K:=D.join G
  refine iZ ⟨fV (D.av 0 rfl) (K.av 0 rfl) 14,?_,?_,?_⟩
  ·refine aB (oQ K) ?_
   rintro _ w9 ⟨s1,qW,qX,qY,qZ,y,z,er,rfl,G,m⟩
   refine ⟨_,rfl,iZ (oS ⟨rfl,G.g9 fun pt cL G2 _=>⟨fV (G.av 0 rfl) (G2.av 0 rfl) 14,G2.g9 fun pr cX G3 _=>⟨fV (G2.av 0 rfl) (G3.av 0 rfl) 14,fin (ys:=qW) (zs:=qX) (fp:=qY) (fq:=qZ) ?_⟩⟩,G.g9 fun pr cL G2 _=>⟨fV (G.av 0 rfl) (G2.av 0 rfl) 14,G2.g9 fun pt cX G3 _=>⟨fV (G2.av 0 rfl) (G3.av 0 rfl) 14,fin (ys:=qW) (zs:=qX) (fp:=qY) (fq:=qZ) ?_⟩⟩⟩)⟩
   ·exact G3.cS [0,11,12,10,1,2,3,4,5,6,7] (by decide) rfl
   ·exact G3.cS [0,12,11,10,1,2,3,4,5,6,7] (by decide) rfl
  ·refine K.g9 fun pt cL K2 _=>⟨fV (K.av 0 rfl) (K2.av 0 rfl) 14,D1t (ys:=ys) (zs:=zs) (fp:=fp) (fq:=fq) (K2.cS [0,8,1,2,3,4,5,6,7] (by decide) rfl),K2.g9 fun pr cX K3 _=>⟨fV (K2.av 0 rfl) (K3.av 0 rfl) 14,D2 (ys:=ys) (zs:=zs) (fp:=fp) (fq:=fq) (K3.cS [0,8,9,1,2,3,4,5,6,7] (by decide) rfl)⟩⟩
  ·refine K.g9 fun pr cL K2 _=>⟨fV (K.av 0 rfl) (K2.av 0 rfl) 14,D1r (ys:=ys) (zs:=zs) (fp:=fp) (fq:=fq) (K2.cS [0,8,1,2,3,4,5,6,7] (by decide) rfl),K2.g9 fun pt cX K3 _=>⟨fV (K2.av 0 rfl) (K3.av 0 rfl) 14,D2 (ys:=ys) (zs:=zs) (fp:=fp) (fq:=fq) (K3.cS [0,9,8,1,2,3,4,5,6,7] (by decide) rfl)⟩⟩
 ·refine D.g9 fun pt cL sP _=>⟨fV (D.av 0 rfl) (sP.av 0 rfl) 14,?_,?_⟩
  ·refine aB (first _) ?_
   rintro _ fF ⟨s,ys,zs,fp,fq,rfl,G⟩
   have K:=sP.join G
   exact iZ ⟨fV (sP.av 0 rfl) (K.av 0 rfl) 14,D1t (ys:=ys) (zs:=zs) (fp:=fp) (fq:=fq) K,K.g9 fun pr cX K3 _=>⟨fV (K.av 0 rfl) (K3.av 0 rfl) 14,D2 (ys:=ys) (zs:=zs) (fp:=fp) (fq:=fq) (K3.cS [0,1,9,2,3,4,5,6,7,8] (by decide) rfl)⟩⟩
  ·refine sP.g9 fun pr cX AM _=>⟨fV (sP.av 0 rfl) (AM.av 0 rfl) 14,aB (first _) ?_⟩
   rintro _ fF ⟨s,ys,zs,fp,fq,rfl,G⟩
   have K:=AM.join G
   exact iZ ⟨fV (AM.av 0 rfl) (K.av 0 rfl) 14,D2 (ys:=ys) (zs:=zs) (fp:=fp) (fq:=fq) K⟩
 ·refine D.g9 fun pr cL sP _=>⟨fV (D.av 0 rfl) (sP.av 0 rfl) 14,?_,?_⟩
  ·refine aB (first _) ?_
   rintro _ fF ⟨s,ys,zs,fp,fq,rfl,G⟩
   have K:=sP.join G
   exact iZ ⟨fV (sP.av 0 rfl) (K.av 0 rfl) 14,D1r (ys:=ys) (zs:=zs) (fp:=fp) (fq:=fq) K,K.g9 fun pt cX K3 _=>⟨fV (K.av 0 rfl) (K3.av 0 rfl) 14,D2 (ys:=ys) (zs:=zs) (fp:=fp) (fq:=fq) (K3.cS [0,9,1,2,3,4,5,6,7,8] (by decide) rfl)⟩⟩
  ·refine sP.g9 fun pt cX AM _=>⟨fV (sP.av 0 rfl) (AM.av 0 rfl) 14,aB (first _) ?_⟩
   rintro _ fF ⟨s,ys,zs,fp,fq,rfl,G⟩
   have K:=AM.join G
   exact iZ ⟨fV (AM.av 0 rfl) (K.av 0 rfl) 14,D2 (ys:=ys) (zs:=zs) (fp:=fp) (fq:=fq) (K.cS [0,2,1,3,4,5,6,7,8,9] (by decide) rfl)⟩
end Go.Proofs.YtgjoehgomjgckaaGreatDoor
end
section
set_option linter.unusedVariables false
set_option linter.unusedSimpArgs false
namespace Go.Proofs.YtgjoehgomjgckaaGreatDoor
open Go Go.Ev
set_option maxRecDepth 20000
set_option linter.unusedVariables false
structure fD where
 q:bG
 sd:ah
 tick:Bool
def qm:fD:=⟨a0,⟨none,0,0⟩,false⟩
def fD.cs (a:fD) (_:ah):List Value:=a.q.cells ++ [.slice a.sd.a a.sd.n a.sd.c,.bool a.tick]
theorem fD.ct (a:fD) (x:ah):(a.cs x).length=16:=rfl
def Uo (_:World) (_:ah) (_:fD):Prop:=True
def nH (w:World) (s:ah) (l:List fD):Prop:=Dv fD.cs 16 Uo w s l
theorem nH.aG {w w':World} {s:ah} {l:List fD} (h:nH w s l) (m:Mod [] w w'):nH w' s l:=Dv.aG (E:=Uo) (fun _ _=>trivial) h m
theorem nH.len {w:World} {s:ah} {l:List fD} (h:nH w s l):l.length=s.n:=Dv.len fD.ct (by omega) h
theorem nH.at {w:World} {s:ah} {l:List fD} (h:nH w s l) {i:Nat} (hi:i<l.length) :
  (s.a.isSome=true∧(0:Int)≤(i:Int)∧(i:Int)<(s.n:Int))∧∀ (j:Nat) (v:Value),((l.getD i qm).cs ⟨none,0,0⟩)[j]? = some v→w.cell? (Addr.add (Addr.add (base s.a) (Int.toNat (i:Int) * 16)) j)=some v:=by
 obtain ⟨h1,x,_,h2⟩:=Dv.at fD.ct (by omega) h (show l[i]? = some (l.getD i qm) by rw [List.getD_eq_getElem?_getD,List.getElem?_eq_getElem hi]; rfl)
 exact ⟨h1,h2⟩
def EA (a:fD):Prop:=(a.q.name.size≤400∧a.q.gp.n≤3000∧a.q.tok.n≤200)∧a.sd.n≤100
theorem U9 (x:ah) (l:List fD) (oI:Int) (hm:oI≤1000000) (w:World) (hx:nH w x l):Ok Pr Hf [.slice x.a x.n x.c,.int .i64 oI] w fun v w'=>∃ b,v=.bool b∧Mod [] w w'∧(b=false→(l.length:Int)≤oI∧∀ a∈l,EA a):=by
 refine ael ?_
 unfold Nv
 have bV:=hx.len
 by_cases h8:(l.length:Int)≤oI
 case neg=>
  refine y6 (fun i w'=>Mod [] w w') (fun _ _=>0) (Mod.refl _ _) ?_
  intro again i w1 m aM
  refine ite_false ?_ ⟨_,rfl,m,fun h=>?_⟩
  ·rw [show decide ((x.n:Int)≤oI)=false from decide_eq_false (by omega),Bool.and_false]
  ·rw [decide_eq_true (show oI<(x.n:Int) by omega)] at h; cases h
 refine cZ 0 l.length (fun i w'=>Mod [] w w'∧∀ j,j<i→EA (l.getD j qm)) rfl (by omega) ⟨Mod.refl _ _,fun j h=>by omega⟩ ?_ ?_
 ·rintro again i w1 _ hi ⟨m,hl⟩ aM
  obtain ⟨k1,c1⟩:=(hx.aG m).at hi
  refine ite_true (by rw [decide_eq_true (show (i:Int)<(x.n:Int) by omega),decide_eq_true (show (x.n:Int)≤oI by omega)]; rfl) ⟨k1,?_⟩
  refine Hp (fun j v hv=>?_) (aB (ad3 (l.getD i qm).q w1) ?_)
  ·rw [add_add,Nat.zero_add]
   refine c1 j v ?_
   have hj:j<(l.getD i qm).q.cells.length:=(List.getElem?_eq_some_iff.1 hv).1
   show ((l.getD i qm).q.cells ++ _)[j]? = some v
   rw [List.getElem?_append_left hj]
   exact hv
  rintro _ w2 ⟨b,rfl,m2,hb⟩
  refine bu ?_
  cases b with
  | true=>exact ite_true rfl ⟨true,rfl,m.trans m2,fun h=>by cases h⟩
  | false=>
   refine ite_false rfl ⟨k1,(l.getD i qm).sd,m2.o9 (c1 14 _ rfl),bU (fun h=>⟨true,rfl,m.trans m2,fun h=>by cases h⟩) fun h=>⟨⟨by omega,by omega⟩,aM _ ⟨m.trans m2,fun j hj=>?_⟩⟩⟩
   rcases Nat.lt_or_ge j i with h2 | h2
   ·exact hl j h2
   ·have:=of_decide_eq_false h
    rw [show j=i by omega]
    exact ⟨hb rfl,by omega⟩
 ·rintro again w1 ⟨m,hl⟩
  refine ite_false (by rw [decide_eq_false (show ¬ ((l.length:Nat):Int)<(x.n:Int) by omega),Bool.false_and]) ⟨_,rfl,m,fun _=>⟨h8,alo hl⟩⟩
end Go.Proofs.YtgjoehgomjgckaaGreatDoor
end
section
set_option linter.unusedVariables false
set_option linter.unusedSimpArgs false
namespace Go.Proofs.YtgjoehgomjgckaaGreatDoor
open Go Go.Ev
set_option maxRecDepth 100000
set_option linter.unusedVariables false
def g1:bP:=⟨1,1,2,1024,9,false⟩
end Go.Proofs.YtgjoehgomjgckaaGreatDoor
end
section
set_option linter.unusedVariables false
set_option linter.unusedSimpArgs false
namespace Go.Proofs.YtgjoehgomjgckaaGreatDoor
open Go Go.Ev
set_option maxRecDepth 20000
set_option linter.unusedVariables false
def tR (w:World) (a:fD) (lb lt aq:List B8):Prop:=Bytes w a.q.gp lb∧Bytes w a.q.tok lt∧Bytes w a.sd aq
theorem tR.aG {w w':World} {a:fD} {lb lt aq:List B8} (h:tR w a lb lt aq) (m:Mod [] w w'):tR w' a lb lt aq:=⟨h.1.aG m,h.2.1.aG m,h.2.2.aG m⟩
theorem alu {b:Nat} {a:fD} {z:ah} {w:World} (hb:bX w b (a.cs z) mN):∀ (j:Nat) (v:Value),a.q.cells[j]? = some v→w.cell? (Addr.add (Addr.add ⟨b,0,none⟩ 0) j)=some v:=fun j v hj=>by
 rw [add_add,au,Nat.zero_add,hb.cell]
 have hl:j<a.q.cells.length:=(List.getElem?_eq_some_iff.1 hj).1
 unfold fD.cs
 rw [List.getElem?_append_left hl]
 exact hj
end Go.Proofs.YtgjoehgomjgckaaGreatDoor
end
section
set_option linter.unusedVariables false
set_option linter.unusedSimpArgs false
namespace Go.Proofs.YtgjoehgomjgckaaGreatDoor
open Go Go.Ev
set_option maxRecDepth 20000
set_option linter.unusedVariables false
theorem XQ {t:aS}:∀ n,lX t n=true↔∀ i,i<n→pP t i (t.aC.getD i cH)=true
 | 0=>⟨fun _ i h=>by omega,fun _=>rfl⟩
 | n+1=>by
  show (lX t n && pP t n (t.aC.getD n cH))=true↔_
  rw [Bool.and_eq_true,XQ n]
  refine ⟨fun h i hi=>?_,fun h=>⟨fun i hi=>h i (by omega),h n (by omega)⟩⟩
  rcases Nat.lt_or_ge i n with e | e
  ·exact h.1 i e
  ·rw [show i=n by omega]; exact h.2
theorem XR {t:aS}:∀ n,lY t n=true↔∀ i,i<n→kB t i (t.keys.getD i kz)=true
 | 0=>⟨fun _ i h=>by omega,fun _=>rfl⟩
 | n+1=>by
  show (lY t n && kB t n (t.keys.getD n kz))=true↔_
  rw [Bool.and_eq_true,XR n]
  refine ⟨fun h i hi=>?_,fun h=>⟨fun i hi=>h i (by omega),h n (by omega)⟩⟩
  rcases Nat.lt_or_ge i n with e | e
  ·exact h.1 i e
  ·rw [show i=n by omega]; exact h.2
theorem YV {ts:List ck}:∀ n,mH ts n=true↔∀ i,i<n→nD ts i=true
 | 0=>⟨fun _ i h=>by omega,fun _=>rfl⟩
 | n+1=>by
  show (mH ts n && nD ts n)=true↔_
  rw [Bool.and_eq_true,YV n]
  refine ⟨fun h i hi=>?_,fun h=>⟨fun i hi=>h i (by omega),h n (by omega)⟩⟩
  rcases Nat.lt_or_ge i n with e | e
  ·exact h.1 i e
  ·rw [show i=n by omega]; exact h.2
structure rR (t:aS):Prop where
 clock:0≤t.clock∧t.clock≤1099511627776
 sec:t.bN.length=32
 aaI:1≤t.bI.length
 ten:gG t.bI=true
 Ah:1≤t.aC.length∧t.aC.length≤6
 Cy:t.keys.length≤6
 gr:gh t.aX=true
 aC:∀ (i:Nat) (p:cw),t.aC[i]? = some p→p.id=(i:Int)+1∧aP 1 (t.bI.length:Int) p.ten=true∧p.key.length=jH 1∧fP p.high p.used=true
 key:∀ (i:Nat) (k:aR),t.keys[i]? = some k→k.id=(i:Int)+1∧aP 1 (t.bI.length:Int) k.ten=true∧cR k=true
 bad:∀ g∈t.aX,g.n1≤(t.keys.length:Int)∧g.n2≤(t.aC.length:Int)
theorem Wq {t:aS}:fC t=true↔rR t:=by
 have w1:∀ {a b c:Int},aP a b c=true↔a≤c∧c≤b:=fun {a b c}=>by unfold aP; simp only [Bool.and_eq_true,decide_eq_true_eq]
 unfold fC zV
 simp only [Bool.and_eq_true,decide_eq_true_eq,Bool.not_eq_true',w1]
 rw [XQ,XR]
 have e1:(t.aX.any (pQ t)=false)↔∀ g∈t.aX,g.n1≤(t.keys.length:Int)∧g.n2≤(t.aC.length:Int):=by
  rw [List.any_eq_false]
  refine forall_congr' fun g=>forall_congr' fun _=>?_
  unfold pQ
  simp only [Bool.or_eq_true,decide_eq_true_eq]
  omega
 rw [e1]
 have e2:(∀ i,i<t.aC.length→pP t i (t.aC.getD i cH)=true)↔∀ (i:Nat) (p:cw),t.aC[i]? = some p→p.id=(i:Int)+1∧aP 1 (t.bI.length:Int) p.ten=true∧p.key.length=jH 1∧fP p.high p.used=true:=by
  refine ⟨fun h i p hp=>?_,fun h i hi=>?_⟩
  ·have:=h i (List.getElem?_eq_some_iff.1 hp).1
   rw [List.getD_eq_getElem?_getD,hp] at this
   unfold pP at this
   simpa only [Bool.and_eq_true,decide_eq_true_eq,Option.getD_some] using this
  ·have:=h i _ (List.getElem?_eq_getElem hi)
   rw [List.getD_eq_getElem?_getD,List.getElem?_eq_getElem hi]
   unfold pP
   simpa only [Bool.and_eq_true,decide_eq_true_eq,Option.getD_some] using this
 have e3:(∀ i,i<t.keys.length→kB t i (t.keys.getD i kz)=true)↔∀ (i:Nat) (k:aR),t.keys[i]? = some k→k.id=(i:Int)+1∧aP 1 (t.bI.length:Int) k.ten=true∧cR k=true:=by
  refine ⟨fun h i p hp=>?_,fun h i hi=>?_⟩
  ·have:=h i (List.getElem?_eq_some_iff.1 hp).1
   rw [List.getD_eq_getElem?_getD,hp] at this
   unfold kB at this
   simpa only [Bool.and_eq_true,decide_eq_true_eq,Option.getD_some] using this
  ·have:=h i _ (List.getElem?_eq_getElem hi)
   rw [List.getD_eq_getElem?_getD,List.getElem?_eq_getElem hi]
   unfold kB
   simpa only [Bool.and_eq_true,decide_eq_true_eq,Option.getD_some] using this
 rw [e2,e3]
 refine ⟨fun ⟨⟨⟨a1,a2⟩,a3,a4,a5,⟨a6,a7⟩,a8,a9⟩,b1,b2,b3⟩=>⟨⟨a1,a2⟩,a3,a4,a5,⟨by omega,by omega⟩,a8,a9,b1,b2,b3⟩,fun h=>⟨⟨h.clock,h.sec,h.aaI,h.ten,⟨by have:=h.Ah; omega,by have:=h.Ah; omega⟩,h.Cy,h.gr⟩,h.aC,h.key,h.bad⟩⟩
theorem Rj {A:Type} {l:List A} {a b:A} {i:Nat} (h:(l ++ [a])[i]? = some b):(l[i]? = some b∧i<l.length)∨(i=l.length∧b=a):=by
 rcases Nat.lt_or_ge i l.length with e | e
 ·rw [List.getElem?_append_left e] at h; exact .inl ⟨h,e⟩
 ·rw [List.getElem?_append_right e] at h
  rcases Nat.eq_zero_or_pos (i - l.length) with e2 | e2
  ·rw [e2] at h; exact .inr ⟨by omega,(Option.some.inj h).symm⟩
  ·rw [List.getElem?_eq_none (by simp; omega)] at h; cases h
theorem RE {A:Type} {l:List A} {a b:A} {i j:Nat} (h:(l.set j a)[i]? = some b):(l[i]? = some b∧i≠j)∨(i=j∧b=a∧j<l.length):=by
 rw [List.getElem?_set] at h
 split at h
 ·rename_i e
  split at h
  ·rename_i e2; exact .inr ⟨e.symm,(Option.some.inj h).symm,by omega⟩
  ·cases h
 ·rename_i e; exact .inl ⟨h,fun e2=>e e2.symm⟩
theorem w2 {a b c:Int}:aP a b c=true↔a≤c∧c≤b:=by unfold aP; simp only [Bool.and_eq_true,decide_eq_true_eq]
theorem XS {ts:List ck} {par:Int} {name:ByteArray} (h:oF ts par name=0):gG (rQ ts par name)=true∧rQ ts par name=ts ++ [⟨(ts.length:Int)+1,par,name⟩]:=by
 have e:rQ ts par name=ts ++ [⟨(ts.length:Int)+1,par,name⟩]:=by unfold rQ; rw [if_pos h]
 refine ⟨?_,e⟩
 rw [e]
 unfold oF at h
 split at h
 ·rename_i h1
  split at h
  ·rename_i h2
   split at h
   ·rename_i h3
    split at h
    ·omega
    ·rename_i h4
     split at h
     ·omega
     ·rename_i h5
      unfold gG at h1 ⊢
      rw [Bool.and_eq_true,decide_eq_true_eq,YV] at h1 ⊢
      rw [w2] at h2
      refine ⟨by simp; omega,fun i hi=>?_⟩
      rw [List.length_append,List.length_singleton] at hi
      rcases Nat.lt_or_ge i ts.length with k | k
      ·have:=h1.2 i k
       unfold nD at this ⊢
       rw [List.getD_eq_getElem?_getD,List.getElem?_append_left k,← List.getD_eq_getElem?_getD,List.take_append_of_le_length (by omega)]
       exact this
      ·have:i=ts.length:=by omega
       subst this
       unfold nD
       rw [List.getD_eq_getElem?_getD,List.getElem?_append_right (Nat.le_refl _),Nat.sub_self,List.take_append_of_le_length (Nat.le_refl _),List.take_length]
       simp only [List.getElem?_cons_zero,Option.getD_some,decide_true,Bool.true_and,Bool.and_eq_true,decide_eq_true_eq,Bool.not_eq_true']
       exact ⟨by omega,by omega,h3,by simpa using h4⟩
   ·omega
  ·omega
 ·omega
theorem akn {high:Int} {u:aI} {n:Int} (h:mu high u n=0):fP (tQ high u n) (xM high u n)=true∧mu (tQ high u n) (xM high u n) n=8:=by
 have hH:tQ high u n=if high<n then n else high:=by unfold tQ; rw [if_pos h]
 have hU:xM high u n=if high<n then (u <<< (min (n - high) 64).toNat) ||| 1 else u ||| ((1:aI) <<< (high - n).toNat):=by unfold xM; rw [if_pos h]
 rw [hH,hU]
 unfold mu at h
 split at h
 case isFalse=>omega
 rename_i hm
 split at h
 case isFalse=>omega
 rename_i hf
 unfold mW at hf
 split at hf
 case isFalse=>cases hf
 rename_i hc
 obtain ⟨_,c1,c2,c3⟩:=hc
 have hr:=Rf hm
 have key:fP (if high<n then n else high) (if high<n then (u <<< (min (n - high) 64).toNat) ||| 1 else u ||| ((1:aI) <<< (high - n).toNat))=true∧mW (if high<n then n else high) (if high<n then (u <<< (min (n - high) 64).toNat) ||| 1 else u ||| ((1:aI) <<< (high - n).toNat)) n=false:=by
  by_cases bZ:high<n
  ·rw [if_pos bZ,if_pos bZ]
   have m1:fP n ((u <<< (min (n - high) 64).toNat) ||| 1)=true:=by
    unfold fP
    rw [if_neg (by omega),if_neg (by omega),Bool.and_eq_true,decide_eq_true_eq,decide_eq_true_eq]
    refine ⟨fun gX=>?_,?_⟩
    ·unfold fP at hm
     rw [if_neg (by omega)] at hm
     have hu:u >>> high.toNat=0:=by
      split at hm
      ·have:=of_decide_eq_true hm; rw [this]; simp
      ·rw [Bool.and_eq_true,decide_eq_true_eq] at hm; exact hm.1 (by omega)
     have e:(min (n - high) 64).toNat=n.toNat - high.toNat:=by omega
     rw [e]
     refine BitVec.eq_of_getLsbD_eq fun i hi=>?_
     have hg:=congrArg (fun v:aI=>v.getLsbD i) hu
     simp only [BitVec.getLsbD_ushiftRight,BitVec.getLsbD_zero] at hg
     simp only [BitVec.getLsbD_ushiftRight,BitVec.getLsbD_or,BitVec.getLsbD_shiftLeft,BitVec.getLsbD_zero,BitVec.getLsbD_one]
     have e2:n.toNat+i - (n.toNat - high.toNat)=high.toNat+i:=by omega
     rw [e2,hg]
     have:¬ (n.toNat+i=0):=by omega
     simp [this]
     omega
    ·refine BitVec.eq_of_getLsbD_eq fun i hi=>?_
     simp only [BitVec.getLsbD_and,BitVec.getLsbD_or,BitVec.getLsbD_one]
     by_cases e:i=0 <;> simp [e]
   refine ⟨m1,?_⟩
   unfold mW
   rw [if_pos ⟨m1,c1,c2,by omega⟩,decide_eq_false (by omega),Bool.false_or,decide_eq_false]
   intro hb
   have hg:=congrArg (fun v:aI=>v.getLsbD 0) hb
   unfold bt at hg
   simp at hg
  ·rw [if_neg bZ,if_neg bZ]
   rw [decide_eq_false bZ,Bool.false_or,decide_eq_true_eq] at hf
   have m1:fP high (u ||| ((1:aI) <<< (high - n).toNat))=true:=by
    unfold fP at hm ⊢
    rw [if_neg (by omega)] at hm ⊢
    rw [if_neg (by omega)] at hm ⊢
    rw [Bool.and_eq_true,decide_eq_true_eq,decide_eq_true_eq] at hm ⊢
    refine ⟨fun gX=>?_,?_⟩
    ·refine BitVec.eq_of_getLsbD_eq fun i hi=>?_
     have hg:=congrArg (fun v:aI=>v.getLsbD i) (hm.1 gX)
     simp only [BitVec.getLsbD_ushiftRight,BitVec.getLsbD_zero] at hg
     simp only [BitVec.getLsbD_ushiftRight,BitVec.getLsbD_or,BitVec.getLsbD_shiftLeft,BitVec.getLsbD_zero,BitVec.getLsbD_one,hg]
     have:¬ (high.toNat+i - (high - n).toNat=0):=by omega
     simp [this]
    ·refine BitVec.eq_of_getLsbD_eq fun i hi=>?_
     have hg:=congrArg (fun v:aI=>v.getLsbD i) hm.2
     simp only [BitVec.getLsbD_and,BitVec.getLsbD_one] at hg
     simp only [BitVec.getLsbD_and,BitVec.getLsbD_or,BitVec.getLsbD_one]
     by_cases e:i=0
     ·subst e
      simp at hg
      simp [hg]
     ·simp [e]
   refine ⟨m1,?_⟩
   unfold mW
   rw [if_pos ⟨m1,c1,c2,c3⟩,decide_eq_false bZ,Bool.false_or,decide_eq_false]
   intro hb
   have hg:=congrArg (fun v:aI=>v.getLsbD 0) hb
   unfold bt at hg
   have gX:(high - n).toNat<64:=by omega
   simp [gX] at hg
 refine ⟨key.1,?_⟩
 unfold mu
 rw [if_pos key.1,if_neg (by rw [key.2]; decide)]
theorem ako {q:bG} {t:aS} (h:rR t) (hw:aP 1 (t.aC.length:Int) q.n0=true) (hu:mu (dM q t).high (dM q t).used q.n1=0):rR (dO q t):=by
 have hl:(dO q t).aC.length=t.aC.length:=by show (t.aC.set _ _).length=_; rw [List.length_set]
 rw [w2] at hw
 refine { h with Ah:=by rw [hl]; exact h.Ah,aC:=fun i p hp=>?_,bad:=fun g hg=>by rw [hl]; exact h.bad g hg }
 rcases RE (show (t.aC.set _ _)[i]? = some p from hp) with ⟨h1,_⟩ | ⟨e,h1,h2⟩
 ·exact h.aC i p h1
 ·have hi:t.aC[i]? = some (dM q t):=by
   unfold dM
   rw [e,List.getD_eq_getElem?_getD,List.getElem?_eq_getElem h2]; rfl
  obtain ⟨a1,a2,a3,a4⟩:=h.aC i _ hi
  rw [h1]
  exact ⟨a1,a2,a3,(akn hu).1⟩
end Go.Proofs.YtgjoehgomjgckaaGreatDoor
end
section
set_option linter.unusedVariables false
set_option linter.unusedSimpArgs false
namespace Go.Proofs.YtgjoehgomjgckaaGreatDoor
open Go Go.Ev
set_option maxRecDepth 20000
set_option linter.unusedVariables false
theorem alv {k:aR} (h:(1≤k.id∧k.id≤6)∧(1≤k.ten∧k.ten≤8)∧(1≤k.set∧k.set≤3)∧(1≤k.aH.length∧k.aH.length≤5)∧∀ i,i<k.aH.length→gw (k.aH.getD i vz) ((i:Int)+1)=true):cR k=true:=by
 obtain ⟨a1,a2,a3,a4,a5⟩:=h
 unfold cR
 rw [Bool.and_eq_true,Bool.and_eq_true,Bool.and_eq_true,Bool.and_eq_true,w2,w2,w2,w2]
 exact ⟨a1,a2,a3,by omega,RY _ a5⟩
theorem akp {k:aR} {op br dX clock:Int} (h:vu k op br dX clock=0):cR (pN k op br dX clock)=true∧(pN k op br dX clock).id=k.id∧(pN k op br dX clock).ten=k.ten∧(pN k op br dX clock).set=k.set:=by
 have e:pN k op br dX clock=⟨k.id,k.ten,k.set,k.aH.set (br - 1).toNat (BQ k op br dX)⟩:=by unfold pN; rw [if_pos h]
 rw [e]
 refine ⟨?_,rfl,rfl,rfl⟩
 unfold vu at h
 split at h
 case isFalse=>omega
 rename_i hm
 obtain ⟨hm,AA⟩:=hm
 split at h
 case h_1=>omega
 rename_i v hf
 obtain ⟨_,f1,f2,f3,f4⟩:=Qr hf
 split at h
 case h_1=>omega
 rename_i s hn
 split at h
 case isTrue=>omega
 rename_i hd
 obtain ⟨a1,a2,a3,a4,a5⟩:=xh hm
 refine alv ⟨a1,a2,a3,by show 1≤(k.aH.set _ _).length∧(k.aH.set _ _).length≤5; rw [List.length_set]; exact a4,fun i hi=>?_⟩
 have hi:i<k.aH.length:=by have:i<(k.aH.set _ _).length:=hi; rwa [List.length_set] at this
 show gw ((k.aH.set (br - 1).toNat (BQ k op br dX)).getD i vz) _=true
 rw [List.getD_eq_getElem?_getD,List.getElem?_set]
 by_cases e2:(br - 1).toNat=i
 ·rw [if_pos e2,if_pos (by omega),Option.getD_some]
  have hv:=Ru f4
  obtain ⟨g1,g2,g3,g4,g5,g6,g7⟩:=hv
  unfold BQ gw
  rw [← f3,hn,Option.getD_some]
  have nL:s=1∨s=2∨s=3:=by
   unfold kN at hn
   split at hn
   ·split at hn
    ·injection hn with hn; omega
    ·cases hn
   split at hn
   ·split at hn
    ·injection hn with hn; omega
    ·cases hn
   split at hn
   ·split at hn
    ·injection hn with hn; omega
    ·cases hn
   split at hn
   ·split at hn
    ·injection hn with hn; omega
    ·cases hn
   ·cases hn
  have h3:s=3↔op=7:=by
   unfold kN at hn
   split at hn
   ·split at hn
    ·injection hn with hn; omega
    ·cases hn
   split at hn
   ·split at hn
    ·injection hn with hn; omega
    ·cases hn
   split at hn
   ·split at hn
    ·injection hn with hn; omega
    ·cases hn
   split at hn
   ·split at hn
    ·injection hn with hn; omega
    ·cases hn
   ·cases hn
  have h4:v.st≠4:=by
   intro e4
   unfold kN at hn
   rw [e4] at hn
   split at hn
   ·cases hn
   split at hn
   ·cases hn
   split at hn
   ·cases hn
   split at hn <;> cases hn
  have gX:=g5 h4
  have arz:br=(i:Int)+1:=by omega
  rw [Bool.and_eq_true]
  refine ⟨by simp only [decide_eq_true_eq]; omega,?_⟩
  by_cases h7:op=7
  ·rw [if_pos (h3.2 h7)]
   simp only [Bool.and_eq_true,decide_eq_true_eq]
   rw [if_pos h7]
   refine ⟨?_,gX⟩
   have:¬ (dX≤clock∨aP 1 1099511627776 dX=false):=fun hx=>hd ⟨h7,hx⟩
   cases hb:aP 1 1099511627776 dX with
   | true=>rfl
   | false=>exact absurd (.inr hb) this
  ·have n3:¬ s=3:=fun hx=>h7 (h3.1 hx)
   rw [if_neg n3,if_neg (show ¬ s=4 by omega),if_pos (show s=1∨s=2 by omega)]
   simp only [Bool.and_eq_true,decide_eq_true_eq]
   rw [if_neg h7]
   exact ⟨rfl,gX⟩
 ·rw [if_neg e2,← List.getD_eq_getElem?_getD]
  exact a5 i hi
theorem W1 (l:List bP):∀ k,pM l k=true↔∀ i,i<k→(l.getD i gz).n0=(i:Int)+1∧k6 (l.getD i gz)=true
 | 0=>⟨fun _ i h=>by omega,fun _=>rfl⟩
 | n+1=>by
  show (pM l n && _)=true↔_
  rw [Bool.and_eq_true,W1 l n,Bool.and_eq_true,decide_eq_true_eq]
  refine ⟨fun h i hi=>?_,fun h=>⟨fun i hi=>h i (by omega),h n (by omega)⟩⟩
  rcases Nat.lt_or_ge i n with e | e
  ·exact h.1 i e
  ·rw [show i=n by omega]; exact h.2
theorem IK {l:List bP}:gh l=true↔l.length≤8∧∀ (i:Nat) (g:bP),l[i]? = some g→g.n0=(i:Int)+1∧k6 g=true:=by
 unfold gh
 rw [Bool.and_eq_true,decide_eq_true_eq,W1,and_comm]
 refine and_congr_right fun _=>⟨fun h i g hg=>?_,fun h i hi=>?_⟩
 ·have:=h i (List.getElem?_eq_some_iff.1 hg).1
  rw [List.getD_eq_getElem?_getD,hg] at this
  exact this
 ·rw [List.getD_eq_getElem?_getD,List.getElem?_eq_getElem hi]
  exact h i _ (List.getElem?_eq_getElem hi)
theorem XT {l:List bP} {g:bP} (h:oG l g=0):gh (j5 l g)=true∧j5 l g=l ++ [mw l g]:=by
 have e:j5 l g=l ++ [mw l g]:=by unfold j5; rw [if_pos h]
 rw [e]
 refine ⟨?_,rfl⟩
 unfold oG at h
 split at h
 case isFalse=>omega
 rename_i hm
 split at h
 case isTrue=>omega
 rename_i h8
 obtain ⟨h1,h2⟩:=IK.1 hm.1
 refine IK.2 ⟨by simp; omega,fun i x hx=>?_⟩
 rcases Rj hx with ⟨k,_⟩ | ⟨k,rfl⟩
 ·exact h2 i x k
 ·exact ⟨by rw [k]; rfl,hm.2⟩
theorem XU {l:List bP} {id:Int} (h:nF l id=0):gh (kF l id)=true∧kF l id=l.set (id - 1).toNat (vw (l.getD (id - 1).toNat gz))∧(id - 1).toNat<l.length:=by
 have e:kF l id=l.set (id - 1).toNat (vw (l.getD (id - 1).toNat gz)):=by unfold kF; rw [if_pos h]
 rw [e]
 unfold nF at h
 split at h
 case isFalse=>omega
 rename_i hm
 split at h
 case isFalse=>omega
 rename_i wm
 obtain ⟨h1,h2⟩:=IK.1 hm
 have bZ:(id - 1).toNat<l.length:=by omega
 refine ⟨IK.2 ⟨by rw [List.length_set]; exact h1,fun i x hx=>?_⟩,rfl,bZ⟩
 rcases RE hx with ⟨k,_⟩ | ⟨k,rfl,_⟩
 ·exact h2 i x k
 ·have:=h2 _ _ (List.getElem?_eq_getElem bZ)
  rw [List.getD_eq_getElem?_getD,List.getElem?_eq_getElem bZ,k]
  exact this
theorem rR.ZN {t:aS} (h:rR t) {i:Nat} {k:aR} (hi:i<t.keys.length) (hm:cR k=true) (h1:k.id=(t.keys.getD i kz).id) (h2:k.ten=(t.keys.getD i kz).ten):rR { t with keys:=t.keys.set i k }:=by
 refine { h with Cy:=by show (t.keys.set i k).length≤6; rw [List.length_set]; exact h.Cy,key:=fun j x hx=>?_,bad:=fun g hg=>by show _≤((t.keys.set i k).length:Int)∧_; rw [List.length_set]; exact h.bad g hg }
 rcases RE hx with ⟨e,_⟩ | ⟨e,rfl,_⟩
 ·exact h.key j x e
 ·obtain ⟨b1,b2,_⟩:=h.key i _ (List.getElem?_eq_getElem hi)
  rw [List.getD_eq_getElem?_getD,List.getElem?_eq_getElem hi,Option.getD_some] at h1 h2
  subst e
  exact ⟨h1.trans b1,by rw [h2]; exact b2,hm⟩
theorem ait {q:bG} {t:aS} (h:gT q t=true) (hm:iK q.n2=true):aP 1 (t.bI.length:Int) q.n3=true:=by
 unfold gT at h; rwa [if_pos hm] at h
theorem QN {q:bG} {t:aS} (h:gT q t=true) (hm:iK q.n2=false):aP 1 (t.keys.length:Int) (fQ q t)=true∧(q.n2=12→aP 1 (t.aC.length:Int) q.n8=true):=by
 unfold gT at h
 rw [if_neg (by rw [hm]; decide),Bool.and_eq_true,Bool.and_eq_true] at h
 refine ⟨h.2.1,fun iC=>?_⟩
 have:=h.2.2
 rw [if_neg (by rw [iC]; decide),Bool.or_eq_true,decide_eq_true_eq] at this
 rcases this with h | h
 ·exact absurd iC h
 ·exact h
theorem alw {q:bG} {lb aq:List B8} {t:aS} (h:rR t) (oP:iK q.n2=true→aP 1 (t.bI.length:Int) q.n3=true)
  (hky:iK q.n2=false→aP 1 (t.keys.length:Int) q.n4=true∧(q.n2=12→aP 1 (t.aC.length:Int) q.n8=true)) (h0:oQ q lb aq t=0):rR (nV q lb aq t):=by
 unfold oQ at h0
 unfold nV
 split at h0
 ·rename_i e
  rw [if_pos e]
  obtain ⟨a1,a2⟩:=XS h0
  have hl:(zY q t).bI.length=t.bI.length+1:=by show (rQ _ _ _).length=_; rw [a2]; simp
  have hw:∀ {x:Int},aP 1 (t.bI.length:Int) x=true→aP 1 ((zY q t).bI.length:Int) x=true:=fun {x} hx=>by rw [w2] at *; omega
  exact { h with aaI:=by rw [hl]; omega,ten:=a1,aC:=fun i p hp=>(h.aC i p hp).imp_right fun k=>k.imp_left hw,key:=fun i p hp=>(h.key i p hp).imp_right fun k=>k.imp_left hw }
 rename_i e1
 rw [if_neg e1]
 split at h0
 ·rename_i e
  rw [if_pos e]
  unfold Ct at h0
  split at h0
  case isFalse=>omega
  rename_i hk
  split at h0
  case isTrue=>omega
  rename_i h6
  have hp6:=h.Ah
  have hl:(pU q lb t).aC.length=t.aC.length+1:=by show (t.aC ++ [_]).length=_; simp
  refine { h with Ah:=by rw [hl]; omega,aC:=fun i p hp=>?_,bad:=fun g hg=>by rw [hl]; have:=h.bad g hg; exact ⟨this.1,by omega⟩ }
  rcases Rj (show (t.aC ++ [vA q lb t])[i]? = some p from hp) with ⟨k,_⟩ | ⟨k,rfl⟩
  ·exact h.aC i p k
  ·exact ⟨by rw [k]; rfl,oP (by rw [e]; rfl),hk,by rfl⟩
 rename_i e2
 rw [if_neg e2]
 split at h0
 ·rename_i e
  rw [if_pos e]
  unfold Cu at h0
  split at h0
  case isFalse=>omega
  split at h0
  case isFalse=>omega
  split at h0
  case isTrue=>omega
  rename_i h6
  split at h0
  case isFalse=>rename_i hn; exact absurd h0 hn
  rename_i hn
  have hm:cK q aq t=zU ((t.keys.length:Int)+1) q.n3 q.n6 aq:=by unfold cK qH; rw [if_pos hn]
  have aoy:cR (cK q aq t)=true:=by
   rw [hm]
   unfold mq at hn
   split at hn
   ·assumption
   ·omega
  have hk6:=h.Cy
  have hl:(qI q aq t).keys.length=t.keys.length+1:=by show (t.keys ++ [_]).length=_; simp
  refine { h with Cy:=by rw [hl]; omega,key:=fun i p hp=>?_,bad:=fun g hg=>by rw [hl]; have:=h.bad g hg; exact ⟨by omega,this.2⟩ }
  rcases Rj (show (t.keys ++ [cK q aq t])[i]? = some p from hp) with ⟨k,_⟩ | ⟨k,rfl⟩
  ·exact h.key i p k
  ·exact ⟨by rw [k,hm]; rfl,by rw [hm]; exact oP (by rw [e]; rfl),aoy⟩
 rename_i e3
 rw [if_neg e3]
 have hnm:iK q.n2=false:=by unfold iK; rw [decide_eq_false e1,decide_eq_false e2,decide_eq_false e3]; rfl
 obtain ⟨hk,hp8⟩:=hky hnm
 split at h0
 ·rename_i e; rw [if_pos e]; exact h
 rename_i e4
 rw [if_neg e4]
 split at h0
 ·rename_i e
  rw [if_pos e]
  unfold zZ at h0
  unfold vB
  split at h0
  ·rename_i CX
   rw [if_pos CX]
   obtain ⟨r1,r2,r3⟩:=XU h0
   refine { h with gr:=r1,bad:=fun g hg=>?_ }
   have hg:g∈kF t.aX q.n7:=hg
   rw [r2] at hg
   rcases List.mem_or_eq_of_mem_set hg with k | k
   ·exact h.bad g k
   ·rw [k,List.getD_eq_getElem?_getD,List.getElem?_eq_getElem r3]
    have:=h.bad _ (List.getElem_mem r3)
    exact this
  ·rename_i CX
   rw [if_neg CX]
   split at h0
   case isTrue=>omega
   obtain ⟨r1,r2⟩:=XT h0
   refine { h with gr:=r1,bad:=fun g hg=>?_ }
   have hg:g∈j5 t.aX (hO q):=hg
   rw [r2] at hg
   rcases List.mem_append.1 hg with k | k
   ·exact h.bad g k
   ·rw [List.mem_singleton.1 k]
    rw [w2] at hk
    have h8:=hp8 (by rcases e with e | e; exact e; exact absurd e CX)
    rw [w2] at h8
    exact ⟨hk.2,h8.2⟩
 ·rename_i e
  rw [if_neg e]
  rw [w2] at hk
  have hi:(q.n4 - 1).toNat<t.keys.length:=by omega
  unfold Cw at h0
  unfold xP Cx
  split at h0
  ·rename_i e4
   rw [if_pos e4]
   split at h0
   case isFalse=>rename_i hn; exact absurd h0 hn
   rename_i hr
   obtain ⟨m1,_⟩:=XO hr
   have er:iV (cv q t) aq=⟨(cv q t).id,(cv q t).ten,(cv q t).set,(cv q t).aH ++ [⟨((cv q t).aH.length:Int)+1,1,0,aq⟩]⟩:=by unfold iV; rw [if_pos hr]
   exact h.ZN hi m1 (by rw [er]; rfl) (by rw [er]; rfl)
  ·rename_i e4
   rw [if_neg e4]
   obtain ⟨m1,m2,m3,_⟩:=akp h0
   exact h.ZN hi m1 m2 m3
theorem ZO {q:bG} {lb lt aq:List B8} {t:aS} (h0:dC q lb lt aq t=0):rR (dT q lb lt aq t)∧rR t:=by
 have hC:=h0
 unfold dC at h0
 split at h0
 case isFalse=>rename_i hn; exact absurd h0 hn
 rename_i hb
 obtain ⟨b1,b2,b3,b4,b5,b6⟩:=IB hb
 have hm:=Wq.1 b1
 refine ⟨?_,hm⟩
 unfold dT
 rw [if_pos hC]
 refine alw (ako hm b3 b4) (fun oP=>(ait b5 oP:aP 1 (t.bI.length:Int) q.n3=true)) (fun oP=>?_) h0
 obtain ⟨c1,c2⟩:=QN b5 oP
 refine ⟨c1,fun iC=>?_⟩
 show aP 1 (((dO q t).aC.length:Nat):Int) q.n8=true
 rw [show (dO q t).aC.length=t.aC.length from List.length_set]
 exact c2 iC
end Go.Proofs.YtgjoehgomjgckaaGreatDoor
end
section
set_option linter.unusedVariables false
set_option linter.unusedSimpArgs false
namespace Go.Proofs.YtgjoehgomjgckaaGreatDoor
open Go Go.Ev
set_option maxRecDepth 20000
set_option linter.unusedVariables false
theorem QO {w0 w w':World} (m:Mod [] w0 w) (m':Mod [] w0 w') {a:Addr} {n:Nat} (ha:a.block<w0.heap.size):kept a n w w':=fun j hj=>((D6 m' ha (by simp):kept a n w0 w') j hj).trans ((D6 m ha (by simp):kept a n w0 w) j hj).symm
theorem nH.kept {w0 w w':World} {s:ah} {l:List fD} (h:nH w0 s l) (m:Mod [] w0 w) (m':Mod [] w0 w') {i:Nat} (hi:i<l.length) (k n:Nat):kept (Addr.add (Addr.add (base s.a) (Int.toNat (i:Int) * 16)) k) n w w':=
 QO m m' (World.block_lt_of_cell? _ _ ((h.at hi).2 14 _ rfl) |> fun h=>by
  have e:∀ (a:Addr) (j:Nat),(a.add j).block=a.block:=fun a j=>by unfold Addr.add; split <;> rfl
  rw [e] at h ⊢
  exact h)
theorem amj {ad:Addr} {w:World} {a:fD} (h:∀ (j:Nat) (v:Value),(a.cs ⟨none,0,0⟩)[j]? = some v→w.cell? (Addr.add ad j)=some v) {K:Int→Int→Int→Int→Int→Int→Int→Int→Int→Int→Int→ByteArray→ah→ah→ah→Bool→Prop}
  (hK:K a.q.n0 a.q.n1 a.q.n2 a.q.n3 a.q.n4 a.q.n5 a.q.n6 a.q.n7 a.q.n8 a.q.n9 a.q.nT a.q.name a.q.gp a.q.tok a.sd a.tick):NL ad w K:=aew h hK
theorem akq {w:World} {b:Nat} {a:fD} (h:bX w b (a.cs ⟨none,0,0⟩) mN):nH w ⟨some ⟨b,0,none⟩,1,1⟩ [a]:=by
 refine ⟨[⟨none,0,0⟩],?_,rfl,fun _ _ _ _ _=>trivial⟩
 have:=h.sl 16 1 1 (by rw [fD.ct]; omega) (Nat.le_refl _)
 rw [List.take_of_length_le (by rw [fD.ct]; omega)] at this
 rw [wW]
 exact this
theorem EA.bounds {a:fD} {w:World} {lb lt aq:List B8} (h:EA a) (r:tR w a lb lt aq):lb.length≤1000000∧aq.length≤1000000:=by
 have h1:=r.1.len
 have h2:=r.2.2.len
 obtain ⟨⟨_,h3,_⟩,h4⟩:=h
 omega
theorem amk:fC fT=true:=by kernel_rfl
def SA (w:World) (l:List fD):Prop:=∀ a∈l,∃ lb lt aq,tR w a lb lt aq
theorem El {A:Type} {l:List A} {i:Nat} {d:A} (h:i<l.length):l.getD i d∈l:=by
 rw [List.getD_eq_getElem?_getD,List.getElem?_eq_getElem h]
 exact List.getElem_mem h
end Go.Proofs.YtgjoehgomjgckaaGreatDoor
end
section
set_option linter.unusedVariables false
set_option linter.unusedSimpArgs false
namespace Go.Proofs.YtgjoehgomjgckaaGreatDoor
open Go Go.Ev
set_option maxRecDepth 20000
set_option linter.unusedVariables false
def SB (x:ah) (p:Addr) (i:Int) (w:World) (go:Addr→Value→World→Prop):Prop:=
 bT p (World.drew w) fun EM nt nu nv nx ny=>
 aU x.a i x.n
 (jz (Addr.add (Addr.add (base x.a) (Int.toNat i * 16)) 0) (World.drew w) fun EN EO EP ER ES ET EU EV EW EX EB EC mX mY=>
 aU x.a i x.n
 (ax (Addr.add (Addr.add (base x.a) (Int.toNat i * 16)) 14) (World.drew w) fun t42=>
 ((az Pr gA [.agg ⟨[.int .i64 EM,.slice nt.a nt.n nt.c,.slice nu.a nu.n nu.c,.slice nv.a nv.n nv.c,.slice nx.a nx.n nx.c,.slice ny.a ny.n ny.c]⟩,.agg ⟨[.int .i64 EN,.int .i64 EO,.int .i64 EP,.int .i64 ER,.int .i64 ES,.int .i64 ET,.int .i64 EU,.int .i64 EV,.int .i64 EW,.int .i64 EX,.int .i64 EB,.string EC,.slice mX.a mX.n mX.c,.slice mY.a mY.n mY.c]⟩,.slice t42.a t42.n t42.c] (World.drew w) fun Uh w9=>
 bB.bC Uh fun vs=>
 aD vs fun Uj r=>
 dK Uj fun t43 aad aae aaf aag aah=>
 aD r fun F6 Uk=>
 fG F6 fun aai aaj aak aal=>
 aD Uk fun v_4 r_2=>
 (r_2=[]∧
 ((nw aN (zc Pr aN) w9 fun p_2 cL=>
 (kept (Addr.add (Addr.add (base x.a) (Int.toNat i * 16)) 14) 1 w9 cL∧
 (kept (Addr.add (Addr.add (base x.a) (Int.toNat i * 16)) 0) 14 w9 cL∧
 (kept p 6 w9 cL∧
 nw bF (zc Pr bF) cL fun p_3 cX=>
 (kept (Addr.add (Addr.add (base x.a) (Int.toNat i * 16)) 14) 1 cL cX∧
 (kept (Addr.add (Addr.add (base x.a) (Int.toNat i * 16)) 0) 14 cL cX∧
 (kept p 6 cL cX∧
 bM p_2 t43 aad aae aaf aag aah cX fun fR=>
 bH p_3 aai aaj aak aal fR fun fF=>
 go p_2 v_4 fF)))))))∧
 (nw bF (zc Pr bF) w9 fun TI fX=>
 (kept (Addr.add (Addr.add (base x.a) (Int.toNat i * 16)) 14) 1 w9 fX∧
 (kept (Addr.add (Addr.add (base x.a) (Int.toNat i * 16)) 0) 14 w9 fX∧
 (kept p 6 w9 fX∧
 nw aN (zc Pr aN) fX fun p_5 kH=>
 (kept (Addr.add (Addr.add (base x.a) (Int.toNat i * 16)) 14) 1 fX kH∧
 (kept (Addr.add (Addr.add (base x.a) (Int.toNat i * 16)) 0) 14 fX kH∧
 (kept p 6 fX kH∧
 bM p_5 t43 aad aae aaf aag aah kH fun kJ=>
 bH TI aai aaj aak aal kJ fun sB=>
 go p_5 v_4 sB))))))))))∧
 (((nw aN (zc Pr aN) (World.drew w) fun Kw j8=>
 (kept (Addr.add (Addr.add (base x.a) (Int.toNat i * 16)) 14) 1 (World.drew w) j8∧
 (kept (Addr.add (Addr.add (base x.a) (Int.toNat i * 16)) 0) 14 (World.drew w) j8∧
 (kept p 6 (World.drew w) j8∧
 ((az Pr gA [.agg ⟨[.int .i64 EM,.slice nt.a nt.n nt.c,.slice nu.a nu.n nu.c,.slice nv.a nv.n nv.c,.slice nx.a nx.n nx.c,.slice ny.a ny.n ny.c]⟩,.agg ⟨[.int .i64 EN,.int .i64 EO,.int .i64 EP,.int .i64 ER,.int .i64 ES,.int .i64 ET,.int .i64 EU,.int .i64 EV,.int .i64 EW,.int .i64 EX,.int .i64 EB,.string EC,.slice mX.a mX.n mX.c,.slice mY.a mY.n mY.c]⟩,.slice t42.a t42.n t42.c] j8 fun v_5 qS=>
 bB.bC v_5 fun aoz=>
 aD aoz fun v_6 r_3=>
 dK v_6 fun aml amm amn amo amq amr=>
 aD r_3 fun v_7 r_4=>
 fG v_7 fun ams amt amu amv=>
 aD r_4 fun v_8 r_5=>
 (r_5=[]∧
 nw bF (zc Pr bF) qS fun p_7 AB=>
 (kept (Addr.add (Addr.add (base x.a) (Int.toNat i * 16)) 14) 1 qS AB∧
 (kept (Addr.add (Addr.add (base x.a) (Int.toNat i * 16)) 0) 14 qS AB∧
 (kept p 6 qS AB∧
 bM Kw aml amm amn amo amq amr AB fun Gm=>
 bH p_7 ams amt amu amv Gm fun GC=>
 go Kw v_8 GC)))))∧
 (nw bF (zc Pr bF) j8 fun p_8 yA=>
 (kept (Addr.add (Addr.add (base x.a) (Int.toNat i * 16)) 14) 1 j8 yA∧
 (kept (Addr.add (Addr.add (base x.a) (Int.toNat i * 16)) 0) 14 j8 yA∧
 (kept p 6 j8 yA∧
 az Pr gA [.agg ⟨[.int .i64 EM,.slice nt.a nt.n nt.c,.slice nu.a nu.n nu.c,.slice nv.a nv.n nv.c,.slice nx.a nx.n nx.c,.slice ny.a ny.n ny.c]⟩,.agg ⟨[.int .i64 EN,.int .i64 EO,.int .i64 EP,.int .i64 ER,.int .i64 ES,.int .i64 ET,.int .i64 EU,.int .i64 EV,.int .i64 EW,.int .i64 EX,.int .i64 EB,.string EC,.slice mX.a mX.n mX.c,.slice mY.a mY.n mY.c]⟩,.slice t42.a t42.n t42.c] yA fun v_9 w24=>
 bB.bC v_9 fun aoA=>
 aD aoA fun aoB r_6=>
 dK aoB fun amw amx amy amz amA amB=>
 aD r_6 fun aoC r_7=>
 fG aoC fun amC amD amE amF=>
 aD r_7 fun aoD r_8=>
 (r_8=[]∧
 bM Kw amw amx amy amz amA amB w24 fun w25=>
 bH p_8 amC amD amE amF w25 fun Up=>
 go Kw aoD Up))))))))))∧
 (nw bF (zc Pr bF) (World.drew w) fun p_9 uz=>
 (kept (Addr.add (Addr.add (base x.a) (Int.toNat i * 16)) 14) 1 (World.drew w) uz∧
 (kept (Addr.add (Addr.add (base x.a) (Int.toNat i * 16)) 0) 14 (World.drew w) uz∧
 (kept p 6 (World.drew w) uz∧
 ((az Pr gA [.agg ⟨[.int .i64 EM,.slice nt.a nt.n nt.c,.slice nu.a nu.n nu.c,.slice nv.a nv.n nv.c,.slice nx.a nx.n nx.c,.slice ny.a ny.n ny.c]⟩,.agg ⟨[.int .i64 EN,.int .i64 EO,.int .i64 EP,.int .i64 ER,.int .i64 ES,.int .i64 ET,.int .i64 EU,.int .i64 EV,.int .i64 EW,.int .i64 EX,.int .i64 EB,.string EC,.slice mX.a mX.n mX.c,.slice mY.a mY.n mY.c]⟩,.slice t42.a t42.n t42.c] uz fun aoE CZ=>
 bB.bC aoE fun aoF=>
 aD aoF fun aoG r_9=>
 dK aoG fun amG amH amI amJ amK amL=>
 aD r_9 fun aoH aoI=>
 fG aoH fun amM amN amO amP=>
 aD aoI fun aoJ aoK=>
 (aoK=[]∧
 nw aN (zc Pr aN) CZ fun aaJ C0=>
 (kept (Addr.add (Addr.add (base x.a) (Int.toNat i * 16)) 14) 1 CZ C0∧
 (kept (Addr.add (Addr.add (base x.a) (Int.toNat i * 16)) 0) 14 CZ C0∧
 (kept p 6 CZ C0∧
 bM aaJ amG amH amI amJ amK amL C0 fun AN=>
 bH p_9 amM amN amO amP AN fun yB=>
 go aaJ aoJ yB)))))∧
 (nw aN (zc Pr aN) uz fun aaK uA=>
 (kept (Addr.add (Addr.add (base x.a) (Int.toNat i * 16)) 14) 1 uz uA∧
 (kept (Addr.add (Addr.add (base x.a) (Int.toNat i * 16)) 0) 14 uz uA∧
 (kept p 6 uz uA∧
 az Pr gA [.agg ⟨[.int .i64 EM,.slice nt.a nt.n nt.c,.slice nu.a nu.n nu.c,.slice nv.a nv.n nv.c,.slice nx.a nx.n nx.c,.slice ny.a ny.n ny.c]⟩,.agg ⟨[.int .i64 EN,.int .i64 EO,.int .i64 EP,.int .i64 ER,.int .i64 ES,.int .i64 ET,.int .i64 EU,.int .i64 EV,.int .i64 EW,.int .i64 EX,.int .i64 EB,.string EC,.slice mX.a mX.n mX.c,.slice mY.a mY.n mY.c]⟩,.slice t42.a t42.n t42.c] uA fun aoL w33=>
 bB.bC aoL fun aoM=>
 aD aoM fun aoN aoO=>
 dK aoN fun amQ amR amS amT amU amV=>
 aD aoO fun aoP aoQ=>
 fG aoP fun amW amX amY amZ=>
 aD aoQ fun aoR aoS=>
 (aoS=[]∧
 bM aaK amQ amR amS amT amU amV w33 fun w34=>
 bH p_9 amW amX amY amZ w34 fun w35=>
 go aaK aoR w35)))))))))))))))
theorem aiu {ad:Addr} {w:World} {a:fD} (h:∀ (j:Nat) (v:Value),(a.cs ⟨none,0,0⟩)[j]? = some v→w.cell? (Addr.add ad j)=some v):∀ (j:Nat) (v:Value),a.q.cells[j]? = some v→w.cell? (Addr.add (Addr.add ad 0) j)=some v:=fun j v hj=>by
 rw [add_add,Nat.zero_add]
 have hl:j<a.q.cells.length:=(List.getElem?_eq_some_iff.1 hj).1
 refine h j v ?_
 unfold fD.cs
 rw [List.getElem?_append_left hl]
 exact hj
theorem akr {w w6:World} {p:Nat} {x:ah} {l:List fD} {i:Nat} {a:fD} {lb lt aq:List B8} {s:eu} {t:aS} {ys zs:List ah} {fp fq:List Nat} (hg:Laid w) (hx:nH w x l) (hi:i<l.length) (ha:l.getD i qm=a) (r:tR w a lb lt aq) (dP:aq.length≤1000000) (hs:t.small)
  {m:aE} (K:ak w [] w6 ([.av p (t.cs s) aN] ++ iW s t ys zs fp fq ++ [m])) {go:Addr→Value→World→Prop}
  (fin:∀ {w7:World} {p1:Nat} {er:Value} {s2:eu} {iR zs2:List ah} {dU jw:List Nat},ak w [] w7 ([.av p (t.cs s) aN,.row bh 1 s.sec (bn t.bN),.row dF 3 s.ten (gR t.bI),.row cJ 6 s.gr (dY t.aX),.row dJ 5 s.aC (bq cw.cs t.aC ys),.box fp fun w=>bw iY w ys t.aC,.row aV 4 s.key (bq aR.cs t.keys zs),.box fq fun w=>bw gq w zs t.keys,m,.av p1 ((dT a.q lb lt aq t).cs s2) aN,aE.err er (dC a.q lb lt aq t)] ++ iW s2 (dT a.q lb lt aq t) iR zs2 dU jw)→go ⟨p1,0,none⟩ er w7):SB x ⟨p,0,none⟩ i w6 go:=by
 unfold SB
 rw [th,ru]
 have D:=K.drew
 obtain ⟨k1,c1⟩:=(hx.aG D.mod).at hi
 rw [ha] at c1
 have kp:∀ {u u':World},Mod [] w u→Mod [] w u'→Ev.kept (Addr.add (Addr.add (base x.a) (Int.toNat (i:Int) * 16)) 14) 1 u u':=fun m m'=>hx.kept m m' hi 14 1
 have kq:∀ {u u':World},Mod [] w u→Mod [] w u'→Ev.kept (Addr.add (Addr.add (base x.a) (Int.toNat (i:Int) * 16)) 0) 14 u u':=fun m m'=>hx.kept m m' hi 0 14
 refine D.bT 0 rfl ⟨k1,Hp (aiu c1) ⟨k1,a.sd,c1 14 _ rfl,⟨?_,⟨?_,?_⟩⟩⟩⟩
 ·refine aB (wL s t a.q lb lt a.sd aq hs dP _ (hg.oD D (by simp)) (o8 (L:=[_]) (D.take 8)) (r.aG D.mod).1 (r.aG D.mod).2.1 (r.aG D.mod).2.2) ?_
  rintro _ cX ⟨s2,iR,zs2,dU,jw,y2,z2,er,rfl,G⟩
  have E:=D.join G
  exact ⟨_,rfl,iZ (oS ⟨rfl,⟨E.nw fun p1 GC E2 _=>⟨kp E.mod E2.mod,kq E.mod E2.mod,fV (E.av 0 rfl) (E2.av 0 rfl) 6,E2.nw fun p2 yA E3 _=>⟨kp E2.mod E3.mod,kq E2.mod E3.mod,fV (E2.av 0 rfl) (E3.av 0 rfl) 6,E3.bM 19 rfl rfl fun yB F=>F.bH 20 rfl rfl fun uA F=>fin (iR:=iR) (zs2:=zs2) (dU:=dU) (jw:=jw) (F.cS [0,1,2,3,4,5,6,7,8,19,18,9,10,11,12,13,14,15] (by decide) rfl)⟩⟩,E.nw fun p2 GC E2 _=>⟨kp E.mod E2.mod,kq E.mod E2.mod,fV (E.av 0 rfl) (E2.av 0 rfl) 6,E2.nw fun p1 yA E3 _=>⟨kp E2.mod E3.mod,kq E2.mod E3.mod,fV (E2.av 0 rfl) (E3.av 0 rfl) 6,E3.bM 20 rfl rfl fun yB F=>F.bH 19 rfl rfl fun uA F=>fin (iR:=iR) (zs2:=zs2) (dU:=dU) (jw:=jw) (F.cS [0,1,2,3,4,5,6,7,8,20,18,9,10,11,12,13,14,15] (by decide) rfl)⟩⟩⟩⟩)⟩
 ·refine D.nw fun p1 Gm E1 _=>⟨kp D.mod E1.mod,kq D.mod E1.mod,fV (D.av 0 rfl) (E1.av 0 rfl) 6,⟨?_,?_⟩⟩
  ·refine aB (wL s t a.q lb lt a.sd aq hs dP _ (hg.oD E1 (by simp)) (o8 (L:=[_]) (E1.take 8)) (r.aG E1.mod).1 (r.aG E1.mod).2.1 (r.aG E1.mod).2.2) ?_
   rintro _ cX ⟨s2,iR,zs2,dU,jw,y2,z2,er,rfl,G⟩
   have E2:=E1.join G
   exact ⟨_,rfl,iZ (oS ⟨rfl,E2.nw fun p2 yA E3 _=>⟨kp E2.mod E3.mod,kq E2.mod E3.mod,fV (E2.av 0 rfl) (E3.av 0 rfl) 6,E3.bM 9 rfl rfl fun yB F=>F.bH 20 rfl rfl fun uA F=>fin (iR:=iR) (zs2:=zs2) (dU:=dU) (jw:=jw) (F.cS [0,1,2,3,4,5,6,7,8,9,19,10,11,12,13,14,15,16] (by decide) rfl)⟩⟩)⟩
  ·refine E1.nw fun p2 GC E2 _=>⟨kp E1.mod E2.mod,kq E1.mod E2.mod,fV (E1.av 0 rfl) (E2.av 0 rfl) 6,aB (wL s t a.q lb lt a.sd aq hs dP _ (hg.oD E2 (by simp)) (o8 (L:=[_]) (E2.take 8)) (r.aG E2.mod).1 (r.aG E2.mod).2.1 (r.aG E2.mod).2.2) ?_⟩
   rintro _ cX ⟨s2,iR,zs2,dU,jw,y2,z2,er,rfl,G⟩
   have E3:=E2.join G
   exact ⟨_,rfl,iZ (oS ⟨rfl,E3.bM 9 rfl rfl fun yB F=>F.bH 10 rfl rfl fun uA F=>fin (iR:=iR) (zs2:=zs2) (dU:=dU) (jw:=jw) (F.cS [0,1,2,3,4,5,6,7,8,9,20,11,12,13,14,15,16,17] (by decide) rfl)⟩)⟩
 ·refine D.nw fun p2 Gm E1 _=>⟨kp D.mod E1.mod,kq D.mod E1.mod,fV (D.av 0 rfl) (E1.av 0 rfl) 6,⟨?_,?_⟩⟩
  ·refine aB (wL s t a.q lb lt a.sd aq hs dP _ (hg.oD E1 (by simp)) (o8 (L:=[_]) (E1.take 8)) (r.aG E1.mod).1 (r.aG E1.mod).2.1 (r.aG E1.mod).2.2) ?_
   rintro _ cX ⟨s2,iR,zs2,dU,jw,y2,z2,er,rfl,G⟩
   have E2:=E1.join G
   exact ⟨_,rfl,iZ (oS ⟨rfl,E2.nw fun p1 yA E3 _=>⟨kp E2.mod E3.mod,kq E2.mod E3.mod,fV (E2.av 0 rfl) (E3.av 0 rfl) 6,E3.bM 20 rfl rfl fun yB F=>F.bH 9 rfl rfl fun uA F=>fin (iR:=iR) (zs2:=zs2) (dU:=dU) (jw:=jw) (F.cS [0,1,2,3,4,5,6,7,8,20,19,10,11,12,13,14,15,16] (by decide) rfl)⟩⟩)⟩
  ·refine E1.nw fun p1 GC E2 _=>⟨kp E1.mod E2.mod,kq E1.mod E2.mod,fV (E1.av 0 rfl) (E2.av 0 rfl) 6,aB (wL s t a.q lb lt a.sd aq hs dP _ (hg.oD E2 (by simp)) (o8 (L:=[_]) (E2.take 8)) (r.aG E2.mod).1 (r.aG E2.mod).2.1 (r.aG E2.mod).2.2) ?_⟩
   rintro _ cX ⟨s2,iR,zs2,dU,jw,y2,z2,er,rfl,G⟩
   have E3:=E2.join G
   exact ⟨_,rfl,iZ (oS ⟨rfl,E3.bM 10 rfl rfl fun yB F=>F.bH 9 rfl rfl fun uA F=>fin (iR:=iR) (zs2:=zs2) (dU:=dU) (jw:=jw) (F.cS [0,1,2,3,4,5,6,7,8,10,20,11,12,13,14,15,16,17] (by decide) rfl)⟩)⟩
end Go.Proofs.YtgjoehgomjgckaaGreatDoor
end
section
set_option linter.unusedVariables false
set_option linter.unusedSimpArgs false
namespace Go.Proofs.YtgjoehgomjgckaaGreatDoor
open Go Go.Ev
set_option maxRecDepth 20000
set_option linter.unusedVariables false
theorem alx (q:bG) (lb aq:List B8) (t:aS):(nV q lb aq t).clock=t.clock∧(nV q lb aq t).bN=t.bN∧∀ i,i<t.aC.length→(nV q lb aq t).aC[i]? = t.aC[i]?:=by
 unfold nV
 split
 ·exact ⟨rfl,rfl,fun _ _=>rfl⟩
 split
 ·exact ⟨rfl,rfl,fun i hi=>List.getElem?_append_left hi⟩
 split
 ·exact ⟨rfl,rfl,fun _ _=>rfl⟩
 split
 ·exact ⟨rfl,rfl,fun _ _=>rfl⟩
 split
 ·exact ⟨rfl,rfl,fun _ _=>rfl⟩
 ·exact ⟨rfl,rfl,fun _ _=>rfl⟩
theorem aam {q:bG} {lb lt aq:List B8} {t:aS} (h0:dC q lb lt aq t=0):dT q lb lt aq t=nV (qK q t) lb aq (dO q t)∧oH q lt t=0∧oQ (qK q t) lb aq (dO q t)=0:=by
 refine ⟨by unfold dT; rw [if_pos h0],?_⟩
 unfold dC at h0
 split at h0
 ·rename_i hb; exact ⟨hb,h0⟩
 ·rename_i hb; exact absurd h0 hb
theorem aks {q:bG} {lb lt aq:List B8} {t:aS} (h0:dC q lb lt aq t=0):(dT q lb lt aq t).clock=t.clock:=by
 rw [(aam h0).1]; exact (alx _ _ _ _).1
def Jz (w w':World) (p:Nat) (m:aE):Prop:=∃ (t:aS) (s:eu) (ys zs:List ah) (fp fq:List Nat),rR t∧t.small∧t.clock=0∧ak w [] w' ([.av p (t.cs s) aN] ++ iW s t ys zs fp fq ++ [m])
def anP (p:Nat) (again:World→Prop):Addr→Value→World→Prop:=fun u e w7=>fB e fun nil=>aA nil (bT u w7 fun f0 f1 f2 f3 f4 f5=>bM ⟨p,0,none⟩ f0 f1 f2 f3 f4 f5 w7 fun w8=>again w8) (again w7)
theorem ajh {w w6:World} {p i:Nat} {x:ah} {l:List fD} {m:aE} (hg:Laid w) (hx:nH w x l) (hi:i<l.length) (hr:SA w l) (Cq:∀ a∈l,EA a) (H:Jz w w6 p m) {again:World→Prop} (aM:∀ w8,Jz w w8 p m→again w8)
  {go:Addr→Value→World→Prop} (bY:∀ u e w7,anP p again u e w7→go u e w7):SB x ⟨p,0,none⟩ i w6 go:=by
 obtain ⟨t,s,ys,zs,fp,fq,hm,hs,hc,K⟩:=H
 obtain ⟨lb,lt,aq,r⟩:=hr _ (El (d:=qm) hi)
 obtain ⟨hl,dP⟩:=(Cq _ (El (d:=qm) hi)).bounds r
 refine akr hg hx hi rfl r dP hs K fun {w7 p1 er s2 iR zs2 dU jw} K=>bY _ _ _ ?_
 have hTs:=Ri (q:=(l.getD i qm).q) (lt:=lt) hs hl dP
 have he:fZ w7 er (dC (l.getD i qm).q lb lt aq t):=K.ok 10 _ rfl
 refine he.isNil ?_
 by_cases hC:dC (l.getD i qm).q lb lt aq t=0
 ·refine ite_true (decide_eq_true hC) (K.bT 9 rfl (K.bM 0 rfl rfl fun w8 K=>aM w8 ⟨_,s2,iR,zs2,dU,jw,(ZO hC).1,hTs,(aks hC).trans hc,K.cS [0,11,12,13,14,15,16,17,8] (by decide) rfl⟩))
 ·exact ite_false (decide_eq_false hC) (aM w7 ⟨t,s,ys,zs,fp,fq,hm,hs,hc,K.take 9⟩)
end Go.Proofs.YtgjoehgomjgckaaGreatDoor
end
section
set_option linter.unusedVariables false
set_option linter.unusedSimpArgs false
namespace Go.Proofs.YtgjoehgomjgckaaGreatDoor
open Go Go.Ev
set_option maxRecDepth 20000
set_option linter.unusedVariables false
theorem getD_some {A:Type} {l:List A} {i:Nat} {d:A} (h:i<l.length):l[i]? = some (l.getD i d):=by rw [List.getD_eq_getElem?_getD,List.getElem?_eq_getElem h]; rfl
theorem am0 {w:World} {a:Addr} {j:Nat} {v:Value} (h:w.cell? (Addr.add a j)=some v):a.block<w.heap.size:=by
 have:=World.block_lt_of_cell? _ _ h
 have e:(a.add j).block=a.block:=by unfold Addr.add; split <;> rfl
 rwa [e] at this
end Go.Proofs.YtgjoehgomjgckaaGreatDoor
end
section
set_option linter.unusedVariables false
set_option linter.unusedSimpArgs false
namespace Go.Proofs.YtgjoehgomjgckaaGreatDoor
open Go Go.Ev Go.RowKit
set_option maxRecDepth 20000
set_option linter.unusedVariables false
theorem Vv {P:Program} (d:Nat) (xs ys:Array Value) (w:World):∀ (fs:List Field),(∀ f∈fs,∃ v u b,f.name≠ "_"∧(Go.part f.type xs f.offset).run P w=.ok v w∧(Go.part f.type ys f.offset).run P w=.ok u w∧(Op.equalIn d f.type v u).run P w=.ok b w)→∃ b,(Op.eqFields d xs ys fs).run P w=.ok b w
 | [],_=>⟨true,rfl⟩
 | f :: fs,h=>by
  obtain ⟨b2,ih⟩:=Vv d xs ys w fs fun f hf=>h f (List.mem_cons_of_mem _ hf)
  obtain ⟨v,u,b,hn,h1,h2,h3⟩:=h f (List.mem_cons_self ..)
  unfold Op.eqFields
  rw [if_pos hn]
  simp only [Sem.run_bind,h1,h2,h3,Result.andThen]
  cases b with
  | true=>exact ⟨b2,ih⟩
  | false=>exact ⟨false,rfl⟩
theorem aly (g h:bP) (w:World):∃ b,(Op.equalIn 10000 cJ (.agg ⟨g.cells⟩) (.agg ⟨h.cells⟩)).run Pr w=.ok b w:=by
 rw [show 10000=9999+1 from rfl,run_equalIn_struct w 9999 cJ _ _ ZF YO]
 refine Vv _ _ _ _ _ fun f hf=>?_
 have hm:(f.type,f.offset,decide (f.name= "_"))∈((Pr.fieldsOf cJ).toList.map fun f=>(f.type,f.offset,decide (f.name= "_"))):=List.mem_map_of_mem hf
 rw [WX] at hm
 have hI:∀ z y:Int,∃ b,(Op.equalIn 9999 bD (.int .i64 z) (.int .i64 y)).run Pr w=.ok b w:=fun z y=>by
  rw [show 9999=9998+1 from rfl,run_equalIn_int w 9998 bD .i64 .i64 z y Ry]
  exact ⟨_,rfl⟩
 have hB:∀ z y:Bool,∃ b,(Op.equalIn 9999 lJ (.bool z) (.bool y)).run Pr w=.ok b w:=fun z y=>by
  rw [show 9999=9998+1 from rfl,run_equalIn_bool' w 9998 lJ z y XI]
  exact ⟨_,rfl⟩
 have pt:∀ g:bP,(Go.part bD ⟨g.cells⟩ 0).run Pr w=.ok (.int .i64 g.n0) w∧(Go.part bD ⟨g.cells⟩ 1).run Pr w=.ok (.int .i64 g.n1) w∧(Go.part bD ⟨g.cells⟩ 2).run Pr w=.ok (.int .i64 g.n2) w∧(Go.part bD ⟨g.cells⟩ 3).run Pr w=.ok (.int .i64 g.n3) w∧(Go.part bD ⟨g.cells⟩ 4).run Pr w=.ok (.int .i64 g.n4) w∧(Go.part lJ ⟨g.cells⟩ 5).run Pr w=.ok (.bool g.rev) w:=fun g=>by
  obtain ⟨n0,n1,n2,n3,n4,rv⟩:=g
  refine ⟨?_,?_,?_,?_,?_,?_⟩ <;> kernel_rfl
 obtain ⟨q0,q1,q2,q3,q4,q5⟩:=pt g
 obtain ⟨r0,r1,r2,r3,r4,r5⟩:=pt h
 simp only [List.mem_cons,List.not_mem_nil,or_false,Prod.mk.injEq,decide_eq_false_iff_not] at hm
 rcases hm with ⟨h1,h2,h3⟩ | ⟨h1,h2,h3⟩ | ⟨h1,h2,h3⟩ | ⟨h1,h2,h3⟩ | ⟨h1,h2,h3⟩ | ⟨h1,h2,h3⟩
 ·rw [h1,h2]; obtain ⟨b,hb⟩:=hI g.n0 h.n0; exact ⟨_,_,b,h3,q0,r0,hb⟩
 ·rw [h1,h2]; obtain ⟨b,hb⟩:=hI g.n1 h.n1; exact ⟨_,_,b,h3,q1,r1,hb⟩
 ·rw [h1,h2]; obtain ⟨b,hb⟩:=hI g.n2 h.n2; exact ⟨_,_,b,h3,q2,r2,hb⟩
 ·rw [h1,h2]; obtain ⟨b,hb⟩:=hI g.n3 h.n3; exact ⟨_,_,b,h3,q3,r3,hb⟩
 ·rw [h1,h2]; obtain ⟨b,hb⟩:=hI g.n4 h.n4; exact ⟨_,_,b,h3,q4,r4,hb⟩
 ·rw [h1,h2]; obtain ⟨b,hb⟩:=hB g.rev h.rev; exact ⟨_,_,b,h3,q5,r5,hb⟩
theorem alz (g h:bP) {w:World} {K:Bool→World→Prop} (hK:∀ b,(g=h→b=false)→K b w):FA Pr .neq cJ g.cells h.cells w K:=by
 obtain ⟨b,hb⟩:=aly g h w
 refine ⟨.bool !b,w,?_,!b,rfl,hK _ fun e=>?_⟩
 ·simp only [Sem.run_bind,run_eqGuard_agg w _ _ _ _ _ _ akb,Result.andThen,run_neq_struct,hb]
 ·subst e
  rw [akc] at hb
  injection hb with hb
  rw [← hb]; rfl
theorem acL (v u:bp) (x y:ah) (hl:v.aq.length≤1000000) (w:World) (hx:jM w x v) (hy:jM w y u):Ok Pr GU [.agg ⟨v.cs x⟩,.agg ⟨u.cs y⟩] w fun r w'=>∃ b,r=.bool b∧Mod [] w w':=by
 refine Ux ?_
 unfold GV
 refine (ak.start w).nw fun p w1 H _=>H.nw fun p1 w2 H _=>?_
 have H:ak w [] w2 [.av p (v.cs x) cI,.av p1 (u.cs y) cI]:=H
 refine H.an 0 rfl (au p 0) rfl (H.an 1 rfl (au p1 0) rfl (H.an 0 rfl (au p 1) rfl (H.an 1 rfl (au p1 1) rfl (H.an 0 rfl (au p 2) rfl (H.an 1 rfl (au p1 2) rfl (H.ax 0 rfl (au p 3) rfl (H.ax 1 rfl (au p1 3) rfl (bU (fun _=>?_) fun _=>?_))))))))
 ·refine aB (GY x y v.aq u.aq _ (Bytes.aG hx H.mod) (Bytes.aG hy H.mod) (by omega)) ?_
  rintro _ w3 ⟨rfl,m⟩
  exact bu ⟨_,rfl,H.mod.trans m⟩
 ·exact ⟨false,rfl,H.mod⟩
theorem aeo (k q:aR) (x y:ah) (hl:k.aH.length≤1000000) (gl:∀ v∈k.aH,v.aq.length≤1000000) (w:World) (hx:fO w x k.aH) (hy:fO w y q.aH):Ok Pr Dm [.agg ⟨k.cs x⟩,.agg ⟨q.cs y⟩] w fun r w'=>∃ b,r=.bool b∧Mod [] w w':=by
 refine UF ?_
 unfold He
 have bV:=hx.len
 have kS:=hy.len
 refine (ak.start w).nw fun p w1 H _=>H.nw fun p1 w2 H _=>?_
 have H:ak w [] w2 [.av p (k.cs x) aV,.av p1 (q.cs y) aV]:=H
 refine H.an 0 rfl (au p 0) rfl (H.an 1 rfl (au p1 0) rfl (H.an 0 rfl (au p 1) rfl (H.an 1 rfl (au p1 1) rfl (H.an 0 rfl (au p 2) rfl (H.an 1 rfl (au p1 2) rfl (H.ax 0 rfl (au p 3) rfl (H.ax 1 rfl (au p1 3) rfl (bU (fun _=>⟨false,rfl,H.mod⟩) fun gV=>?_))))))))
 have hlen:q.aH.length=k.aH.length:=by
  simp only [Bool.or_eq_false_iff,Bool.not_eq_false',decide_eq_true_eq] at gV
  omega
 refine cZ 0 k.aH.length (fun i w'=>ak w [] w' [.av p (k.cs x) aV,.av p1 (q.cs y) aV]) rfl (by omega) H ?_ ?_
 ·intro again i w3 _ hi H aM
  have D:=H.drew
  obtain ⟨h1,u1,e1,c1⟩:=Dv.at bp.ct (by omega) (hx.aG D.mod) (getD_some (d:=vz) hi)
  obtain ⟨h2,u2,e2,c2⟩:=Dv.at bp.ct (by omega) (hy.aG D.mod) (getD_some (d:=vz) (show i<q.aH.length by omega))
  refine H.ax 0 rfl (au p 3) rfl (ite_true (decide_eq_true (by omega)) (D.ax 0 rfl (au p 3) rfl ⟨h1,uD c1 (D.ax 1 rfl (au p1 3) rfl ⟨h2,uD c2 ?_⟩)⟩))
  refine aB (acL _ _ u1 u2 (gl _ (El hi)) _ e1 e2) ?_
  rintro _ w4 ⟨b,rfl,m⟩
  refine bu (bU (fun _=>⟨false,rfl,(D.frame m).mod⟩) fun _=>⟨⟨by omega,by omega⟩,aM _ (D.frame m)⟩)
 ·intro again w3 H
  exact H.ax 0 rfl (au p 3) rfl (ite_false (decide_eq_false (by omega)) ⟨true,rfl,H.mod⟩)
structure aan (q:bG) (t u:aS):Prop where
 clock:u.clock=t.clock
 sec:u.bN=t.bN
 ten:∃ r,u.bI=t.bI ++ r
 arA:u.bI.length=t.bI.length+if q.n2=1 then 1 else 0
 arB:u.aC.length=t.aC.length+if q.n2=2 then 1 else 0
 arC:u.keys.length=t.keys.length+if q.n2=3 then 1 else 0
 grL:u.aX.length=t.aX.length+if q.n2=12 then 1 else 0
 aC:∀ i,i<t.aC.length→(u.aC.getD i cH).ten=(t.aC.getD i cH).ten∧(u.aC.getD i cH).key=(t.aC.getD i cH).key∧((i:Int)+1≠q.n0→(u.aC.getD i cH).high=(t.aC.getD i cH).high∧(u.aC.getD i cH).used=(t.aC.getD i cH).used)
 key:∀ i,i<t.keys.length→u.keys.getD i kz=t.keys.getD i kz∨(4≤q.n2∧q.n2≤8∧(i:Int)+1=q.n4)
 gr:∀ i,i<t.aX.length→u.aX.getD i gz=t.aX.getD i gz∨(q.n2=13∧(i:Int)+1=q.n7)
theorem Rk {A:Type} {l r:List A} {i:Nat} {d:A} (h:i<l.length):(l ++ r).getD i d=l.getD i d:=by
 rw [List.getD_eq_getElem?_getD,List.getElem?_append_left h,← List.getD_eq_getElem?_getD]
theorem Rl {A:Type} {l:List A} {i j:Nat} {a d:A} (h:j≠i):(l.set j a).getD i d=l.getD i d:=by
 rw [List.getD_eq_getElem?_getD,List.getElem?_set_ne h,← List.getD_eq_getElem?_getD]
theorem akt {q:bG} {lb lt aq:List B8} {t:aS} (h0:dC q lb lt aq t=0):aan q t (dT q lb lt aq t):=by
 obtain ⟨e,hb,hd⟩:=aam h0
 obtain ⟨b1,b2,b3,b4,b5,b6⟩:=IB hb
 have AA:=W0 b2
 rw [w2] at b3
 have pe:∀ i,i<t.aC.length→((dO q t).aC.getD i cH).ten=(t.aC.getD i cH).ten∧((dO q t).aC.getD i cH).key=(t.aC.getD i cH).key∧((i:Int)+1≠q.n0→((dO q t).aC.getD i cH).high=(t.aC.getD i cH).high∧((dO q t).aC.getD i cH).used=(t.aC.getD i cH).used):=fun i hi=>by
  show ((t.aC.set (q.n0 - 1).toNat (xO q (dM q t))).getD i cH).ten=_∧((t.aC.set (q.n0 - 1).toNat (xO q (dM q t))).getD i cH).key=_∧(_→((t.aC.set (q.n0 - 1).toNat (xO q (dM q t))).getD i cH).high=_∧((t.aC.set (q.n0 - 1).toNat (xO q (dM q t))).getD i cH).used=_)
  by_cases hx:(q.n0 - 1).toNat=i
  ·subst hx
   rw [List.getD_eq_getElem?_getD,List.getElem?_set_self hi,Option.getD_some]
   exact ⟨rfl,rfl,fun h=>absurd (by omega) h⟩
  ·rw [Rl hx]
   exact ⟨rfl,rfl,fun _=>⟨rfl,rfl⟩⟩
 have jE:(dO q t).aC.length=t.aC.length:=List.length_set
 have same:∀ {T:aS},T=dO q t→q.n2≠1→q.n2≠2→q.n2≠3→q.n2≠12→aan q t T:=fun {T} hT h1 h2 h3 iC=>by
  subst hT
  exact ⟨rfl,rfl,⟨[],by simp [dO]⟩,by rw [if_neg h1]; rfl,by rw [if_neg h2,jE]; rfl,by rw [if_neg h3]; rfl,by rw [if_neg iC]; rfl,pe,fun i _=>.inl rfl,fun i _=>.inl rfl⟩
 rw [e]
 have Ty:(qK q t).n2=q.n2:=rfl
 unfold oQ at hd
 unfold nV
 rw [Ty] at hd ⊢
 split at hd
 ·rename_i h1
  rw [if_pos h1]
  have ea:=(XS (ts:=t.bI) (par:=q.n3) (name:=q.name) hd).2
  have ea:(zY (qK q t) (dO q t)).bI=t.bI ++ [⟨(t.bI.length:Int)+1,q.n3,q.name⟩]:=ea
  exact ⟨rfl,rfl,⟨_,ea⟩,by rw [ea,if_pos h1]; simp,by rw [if_neg (by omega)]; exact jE,by rw [if_neg (by omega)]; rfl,by rw [if_neg (by omega)]; rfl,pe,fun i _=>.inl rfl,fun i _=>.inl rfl⟩
 rename_i h1
 rw [if_neg h1]
 split at hd
 ·rename_i h2
  rw [if_pos h2]
  refine ⟨rfl,rfl,⟨[],by simp [pU,dO]⟩,by rw [if_neg h1]; rfl,?_,by rw [if_neg (by omega)]; rfl,by rw [if_neg (by omega)]; rfl,fun i hi=>?_,fun i _=>.inl rfl,fun i _=>.inl rfl⟩
  ·rw [if_pos h2]; show ((dO q t).aC ++ [_]).length=_; rw [List.length_append,jE]; rfl
  ·show (((dO q t).aC ++ [_]).getD i cH).ten=_∧(((dO q t).aC ++ [_]).getD i cH).key=_∧(_→(((dO q t).aC ++ [_]).getD i cH).high=_∧(((dO q t).aC ++ [_]).getD i cH).used=_)
   rw [Rk (by omega)]
   exact pe i hi
 rename_i h2
 rw [if_neg h2]
 split at hd
 ·rename_i h3
  rw [if_pos h3]
  refine ⟨rfl,rfl,⟨[],by simp [qI,dO]⟩,by rw [if_neg h1]; rfl,by rw [if_neg h2]; exact jE,?_,by rw [if_neg (by omega)]; rfl,pe,fun i hi=>.inl ?_,fun i _=>.inl rfl⟩
  ·rw [if_pos h3]; show (t.keys ++ [_]).length=_; rw [List.length_append]; rfl
  ·show (t.keys ++ [_]).getD i kz=_
   rw [Rk hi]
 rename_i h3
 rw [if_neg h3]
 split at hd
 ·rename_i hu
  rw [if_pos hu]
  have iC:q.n2≠12:=by
   unfold jm at hu
   simp only [Bool.or_eq_true,decide_eq_true_eq] at hu
   omega
  exact same rfl h1 h2 h3 iC
 rename_i hu
 rw [if_neg hu]
 split at hd
 ·rename_i hg
  rw [if_pos hg]
  unfold zZ at hd
  unfold vB
  rw [Ty] at hd ⊢
  split at hd
  ·rename_i j9
   rw [if_pos j9]
   have er:=(XU (l:=t.aX) (id:=q.n7) hd).2
   have e2:kF (dO q t).aX (qK q t).n7=t.aX.set (q.n7 - 1).toNat (vw (t.aX.getD (q.n7 - 1).toNat gz)):=er.1
   refine ⟨rfl,rfl,⟨[],by simp [dO]⟩,by rw [if_neg h1]; rfl,by rw [if_neg h2]; exact jE,by rw [if_neg h3]; rfl,?_,pe,fun i _=>.inl rfl,fun i hi=>?_⟩
   ·rw [if_neg (by omega)]; show (kF _ _).length=_; rw [e2,List.length_set]; rfl
   ·show (kF _ _).getD i gz=_∨_
    rw [e2]
    by_cases hx:(q.n7 - 1).toNat=i
    ·refine .inr ⟨j9,?_⟩
     have:=QN b5 (by unfold iK; rw [decide_eq_false h1,decide_eq_false h2,decide_eq_false h3]; rfl)
     unfold nF at hd
     split at hd
     ·split at hd
      ·rename_i wm
       have wm:1≤q.n7∧q.n7≤_:=wm
       omega
      ·omega
     ·omega
    ·exact .inl (Rl hx)
  ·rename_i j9
   rw [if_neg j9]
   split at hd
   case isTrue=>omega
   have ea:=(XT (l:=t.aX) (g:=hO (qK q t)) hd).2
   have ea:j5 (dO q t).aX (hO (qK q t))=t.aX ++ [mw t.aX (hO (qK q t))]:=ea
   refine ⟨rfl,rfl,⟨[],by simp [dO]⟩,by rw [if_neg h1]; rfl,by rw [if_neg h2]; exact jE,by rw [if_neg h3]; rfl,?_,pe,fun i _=>.inl rfl,fun i hi=>.inl ?_⟩
   ·rw [if_pos (by omega)]; show (j5 _ _).length=_; rw [ea,List.length_append]; rfl
   ·show (j5 _ _).getD i gz=_
    rw [ea,Rk hi]
 ·rename_i hg
  rw [if_neg hg]
  have oP:iK q.n2=false:=by unfold iK; rw [decide_eq_false h1,decide_eq_false h2,decide_eq_false h3]; rfl
  have hk:=(QN b5 oP).1
  have ej:fQ q t=q.n4:=by unfold fQ; rw [if_neg (by omega)]
  rw [ej,w2] at hk
  have aaL:4≤q.n2∧q.n2≤8:=by
   unfold jm at hu
   simp only [Bool.or_eq_true,decide_eq_true_eq,not_or] at hu
   omega
  have e4:(qK q t).n4=q.n4:=ej
  refine ⟨rfl,rfl,⟨[],by simp [xP,dO]⟩,by rw [if_neg h1]; rfl,by rw [if_neg h2]; exact jE,?_,by rw [if_neg (by omega)]; rfl,pe,fun i hi=>?_,fun i _=>.inl rfl⟩
  ·rw [if_neg h3]; show (t.keys.set _ _).length=_; rw [List.length_set]; rfl
  ·show (t.keys.set ((qK q t).n4 - 1).toNat _).getD i kz=_∨_
   rw [e4]
   by_cases hx:(q.n4 - 1).toNat=i
   ·exact .inr ⟨aaL.1,aaL.2,by omega⟩
   ·exact .inl (Rl hx)
end Go.Proofs.YtgjoehgomjgckaaGreatDoor
end
section
set_option linter.unusedVariables false
set_option linter.unusedSimpArgs false
namespace Go.Proofs.YtgjoehgomjgckaaGreatDoor
open Go Go.Ev
set_option maxRecDepth 20000
set_option linter.unusedVariables false
theorem fo.pre {w:World} {s:ah} {ts rs:List ck} (h:fo w s (ts ++ rs)):fo w ⟨s.a,ts.length,s.c⟩ ts:=by
 obtain ⟨xs,h1,h2⟩:=h
 have hx:=h2.1
 have hl:=h1.len
 rw [ir ck.ct _ _ hx,List.length_append] at hl
 have hn:ts.length≤s.n:=by
  have:=hl
  omega
 have hc:=h1.cap
 have jr:xs=xs.take ts.length ++ xs.drop ts.length:=(List.take_append_drop _ _).symm
 rw [List.length_append] at hx
 have vG:(xs.take ts.length).length=ts.length:=by rw [List.length_take]; omega
 rw [jr,yQ ts _ vG] at h1
 have hd:(bq ck.cs ts (xs.take ts.length)).length=ts.length * 3:=ir ck.ct _ _ vG
 refine ⟨xs.take ts.length,⟨hd,by show ts.length≤s.c; omega,fun h0=>h1.pre (by have h0:0<ts.length:=h0; omega),fun i v hv=>h1.cell i v ?_⟩,vG,fun _ _ _ _ _=>trivial⟩
 rw [List.getElem?_append_left (List.getElem?_eq_some_iff.1 hv).1]
 exact hv
theorem YW:zc Pr dJ=cH.cs ⟨none,0,0⟩:=by kernel_rfl
theorem agI (x:ah) (l:List fD) (a:fD) (lb lt aq:List B8) (w:World) (hg:Laid w) (hx:nH w x l) (hr:SA w l) (ra:tR w a lb lt aq) :
  Ok Pr UD [.slice x.a x.n x.c,.agg ⟨a.cs ⟨none,0,0⟩⟩] w fun v w'=>v=.bool true∧Mod [] w w':=by
 refine acD ?_
 unfold Lv
 have bV:=hx.len
 have SC:∀ {w3:World},Mod [] w w3→Ok Pr AQ [] w3 fun v w4=>v=.bool true∧Mod [] w w4:=fun {w3} m=>
  (afK w3 (hg.oD ((ak.start w).frame m) (by simp))).mono fun v w4 h=>⟨h.1,m.trans h.2⟩
 refine (ak.start w).nw fun p w1 H _=>?_
 have H:ak w [] w1 [.av p (a.cs ⟨none,0,0⟩) mN]:=H
 refine jV fun go bY=>jA fun jG iB=>?_
 have stop:∀ {w3:World},Mod [] w w3→jG true w3:=fun {w3} m=>iB _ _ (ite_true rfl (aB (SC m) fun v w4 h=>by obtain ⟨rfl,m⟩:=h; exact bu ⟨rfl,m⟩))
 refine aB (U9 x l 6 (by omega) w1 (hx.aG H.mod)) ?_
 rintro _ w2 ⟨b,rfl,m2,hb⟩
 have H:=H.frame m2
 refine bu (amj (fun j v hj=>by rw [au,(H.av 0 rfl).cell]; exact hj) ?_)
 cases b with
 | true=>exact ite_true rfl (stop H.mod)
 | false=>
 obtain ⟨hlen,Cq⟩:=hb rfl
 refine ite_false rfl (H.nw fun p4 w3 H _=>?_)
 refine aB (U9 ⟨some ⟨p4,0,none⟩,1,1⟩ [a] 1 (by omega) w3 (akq (H.av 1 rfl))) ?_
 rintro _ w4 ⟨b,rfl,m4,j7⟩
 have H:=H.frame m4
 refine bu ?_
 cases b with
 | true=>exact stop H.mod
 | false=>
 obtain ⟨sx,aaM⟩:=((j7 rfl).2 a (by simp)).bounds ra
 refine iB _ _ (ite_false rfl (bY _ (aB (U8 w4) ?_)))
 rintro _ w5 ⟨s,ys,zs,fp,fq,rfl,G⟩
 have H:ak w [] w5 ([.av p (a.cs ⟨none,0,0⟩) mN] ++ iW s fT ys zs fp fq):=(H.take 1).join G
 rw [th]
 refine iZ (H.nw fun p1 w6 H _=>H.bM 8 rfl rfl fun w7 H=>?_)
 have h0:Jz w w7 p1 (.av p (a.cs ⟨none,0,0⟩) mN):=⟨fT,s,ys,zs,fp,fq,Wq.1 amk,XP,rfl,H.cS [8,1,2,3,4,5,6,7,0] (by decide) rfl⟩
 refine cZ 0 l.length (fun i w'=>Jz w w' p1 (.av p (a.cs ⟨none,0,0⟩) mN)) rfl (by omega) h0 ?_ ?_
 ·rintro again i w8 _ hi H aM
  rw [← th]
  exact ite_true (decide_eq_true (by omega)) (uO fun go bY=>ajh hg hx hi hr Cq H (again:=fun w=>aF ((i:Int)+1)∧again ((i:Int)+1) w) (fun w9 H=>⟨⟨by omega,by omega⟩,aM w9 H⟩) fun u e w9 h=>bY u e w9 h)
 rintro again w8 ⟨t,s,ys,zs,fp,fq,hm,hs,hc,K⟩
 refine ite_false (decide_eq_false (by omega)) ?_
 have r:=ra.aG K.mod
 refine K.bT 0 rfl (Hp (alu (K.av 8 rfl)) (K.ax 8 rfl (au p 14) rfl (aB (wL s t a.q lb lt a.sd aq hs aaM _ (hg.oD K (by simp)) (o8 (L:=[_]) (K.take 8)) r.1 r.2.1 r.2.2) ?_)))
 rintro _ w9 ⟨s2,iR,zs2,dU,jw,y2,z2,er,rfl,G⟩
 have K:=K.join G
 rw [ru]
 refine ⟨_,rfl,iZ (oS ⟨rfl,K.nw fun p2 cL K _=>K.nw fun p3 cX K _=>K.bM 19 rfl rfl fun fR K=>K.bH 20 rfl rfl fun fF K=>?_⟩)⟩
 have he:fZ fF er (dC a.q lb lt aq t):=K.ok 18 _ rfl
 refine he.isNil ?_
 by_cases hC:dC a.q lb lt aq t=0
 case neg=>
  refine ite_true (by rw [decide_eq_false hC]; rfl) (aB (SC K.mod) fun v w4 h=>?_)
  obtain ⟨rfl,m⟩:=h
  exact bu ⟨rfl,m⟩
 refine ite_false (by rw [decide_eq_true hC]; rfl) ?_
 have hA:=akt hC
 have hTs:=Ri (q:=a.q) (lt:=lt) hs sx aaM
 have hTm:=(ZO hC).1
 generalize dR a.q lb lt aq t=R at *
 generalize dT a.q lb lt aq t=T at *
 have K:ak w [] fF [.av p1 (t.cs s) aN,.row bh 1 s.sec (bn t.bN),.row dF 3 s.ten (gR t.bI),.row cJ 6 s.gr (dY t.aX),.row dJ 5 s.aC (bq cw.cs t.aC ys),.box fp fun w=>bw iY w ys t.aC,.row aV 4 s.key (bq aR.cs t.keys zs),.box fq fun w=>bw gq w zs t.keys,
   .av p2 (T.cs s2) aN,.row bh 1 s2.sec (bn T.bN),.row dF 3 s2.ten (gR T.bI),.row cJ 6 s2.gr (dY T.aX),.row dJ 5 s2.aC (bq cw.cs T.aC iR),.box dU fun w=>bw iY w iR T.aC,.row aV 4 s2.key (bq aR.cs T.keys zs2),.box jw fun w=>bw gq w zs2 T.keys,.av p (a.cs ⟨none,0,0⟩) mN]:=K.cS [0,1,2,3,4,5,6,7,19,9,10,11,12,13,14,15,8] (by decide) rfl
 generalize hL:([.av p1 (t.cs s) aN,.row bh 1 s.sec (bn t.bN),.row dF 3 s.ten (gR t.bI),.row cJ 6 s.gr (dY t.aX),.row dJ 5 s.aC (bq cw.cs t.aC ys),.box fp fun w=>bw iY w ys t.aC,.row aV 4 s.key (bq aR.cs t.keys zs),.box fq fun w=>bw gq w zs t.keys,
   .av p2 (T.cs s2) aN,.row bh 1 s2.sec (bn T.bN),.row dF 3 s2.ten (gR T.bI),.row cJ 6 s2.gr (dY T.aX),.row dJ 5 s2.aC (bq cw.cs T.aC iR),.box dU fun w=>bw iY w iR T.aC,.row aV 4 s2.key (bq aR.cs T.keys zs2),.box jw fun w=>bw gq w zs2 T.keys,.av p (a.cs ⟨none,0,0⟩) mN]:List aE)=L at K
 have gS:L[0]? = some (.av p1 (t.cs s) aN):=by rw [← hL]; rfl
 have nX:L[8]? = some (.av p2 (T.cs s2) aN):=by rw [← hL]; rfl
 have uB:L[16]? = some (.av p (a.cs ⟨none,0,0⟩) mN):=by rw [← hL]; rfl
 have rt:∀ {u:World},ak w [] u L→iN u s t:=fun {u} K=>o8 (L:=[_]) (by rw [← hL] at K; exact K.take 8)
 have rT:∀ {u:World},ak w [] u L→iN u s2 T:=fun {u} K=>o8 (L:=[_,_,_,_,_,_,_,_,_]) (by rw [← hL] at K; exact K.take 16)
 clear hL
 have n1:t.bI.length=s.ten.n:=(rt K).ten.len
 have n2:t.aC.length=s.aC.n:=(rt K).aC.len
 have n3:t.keys.length=s.key.n:=(rt K).key.len
 have n4:t.aX.length=s.gr.n:=gQ.len (rt K).gr
 have n5:T.bI.length=s2.ten.n:=(rT K).ten.len
 have n6:T.aC.length=s2.aC.n:=(rT K).aC.len
 have n7:T.keys.length=s2.key.n:=(rT K).key.len
 have n8:T.aX.length=s2.gr.n:=gQ.len (rT K).gr
 have dP:=hs.sec
 have hp6:=hm.Ah
 have hk6:=hm.Cy
 have l1:=hs.ten
 have l4:=hs.gr
 obtain ⟨a1,a2,⟨tr,a3⟩,a4,a5,a6,a7,a8,a9,a10⟩:=hA
 have uC:∀ k:Nat,Addr.add (Addr.add ⟨p,0,none⟩ 0) k=⟨p,k,none⟩:=fun k=>by rw [add_add,au,Nat.zero_add]
 refine jV fun CY Cv=>?_
 refine K.an 8 nX (au p2 0) rfl (K.an 0 gS (au p1 0) rfl (K.ax 8 nX (au p2 1) rfl (K.ax 0 gS (au p1 1) rfl (ite_false (by rw [a1,decide_eq_true rfl]; rfl) ?_))))
 refine aB (GY s2.sec s.sec T.bN t.bN _ (rT K).sec (rt K).sec (by rw [a2]; omega)) ?_
 rintro _ fX ⟨rfl,qh⟩
 have K:=K.frame qh
 refine bu (K.ax 8 nX (au p2 2) rfl (K.ax 0 gS (au p1 2) rfl (K.ax 8 nX (au p2 3) rfl (K.ax 0 gS (au p1 3) rfl (K.ax 8 nX (au p2 4) rfl (K.ax 0 gS (au p1 4) rfl (K.ax 8 nX (au p2 5) rfl (K.ax 0 gS (au p1 5) rfl (ite_false ?_ (Cv _ ?_))))))))))
 ·rw [a2,decide_eq_true rfl,decide_eq_false (show ¬ ((s2.ten.n:Nat):Int)<(s.ten.n:Int) by omega),decide_eq_false (show ¬ ((s2.aC.n:Nat):Int)<(s.aC.n:Int) by omega),decide_eq_false (show ¬ ((s2.key.n:Nat):Int)<(s.key.n:Int) by omega),decide_eq_false (show ¬ ((s2.gr.n:Nat):Int)<(s.gr.n:Int) by omega)]; rfl
 have b4:s2.ten.n≤1001:=by rw [← n5,a4]; split <;> omega
 have b5:s2.aC.n≤1001:=by rw [← n6,a5]; split <;> omega
 have b6:s2.key.n≤1001:=by rw [← n7,a6]; split <;> omega
 have b7:s2.gr.n≤1001:=by rw [← n8,a7]; split <;> omega
 refine K.ax 8 nX (au p2 2) rfl (K.ax 8 nX (au p2 3) rfl ⟨⟨by omega,by omega⟩,K.ax 8 nX (au p2 4) rfl ⟨⟨by omega,by omega⟩,K.ax 8 nX (au p2 5) rfl ⟨⟨by omega,by omega⟩,K.ax 0 gS (au p1 2) rfl ⟨⟨by omega,by omega⟩,K.ax 0 gS (au p1 3) rfl ⟨⟨by omega,by omega⟩,K.ax 0 gS (au p1 4) rfl ⟨⟨by omega,by omega⟩,K.ax 0 gS (au p1 5) rfl ⟨⟨by omega,by omega⟩,pn ?_⟩⟩⟩⟩⟩⟩⟩)
 refine K.an 16 uB (uC 2) rfl (K.an 16 uB (uC 2) rfl (K.an 16 uB (uC 2) rfl (K.an 16 uB (uC 2) rfl (pn (jV fun go2 pJ=>?_)))))
 have D:=K.drew
 refine D.ax 8 nX (au p2 2) rfl (D.ax 0 gS (au p1 2) rfl (ite_false ?_ ?_))
 ·have anQ:((((((((s2.ten.n:Nat):Int)+((s2.aC.n:Nat):Int))+((s2.key.n:Nat):Int))+((s2.gr.n:Nat):Int)) - ((s.ten.n:Nat):Int)) - ((s.aC.n:Nat):Int)) - ((s.key.n:Nat):Int)) - ((s.gr.n:Nat):Int)=if a.q.n2=1∨a.q.n2=2∨a.q.n2=3∨a.q.n2=12 then 1 else 0:=by
   rw [← n5,← n6,← n7,← n8,← n1,← n2,← n3,← n4,a4,a5,a6,a7]
   by_cases e1:a.q.n2=1
   ·rw [if_pos e1,if_neg (by omega),if_neg (by omega),if_neg (by omega),if_pos (.inl e1)]; omega
   by_cases e2:a.q.n2=2
   ·rw [if_neg e1,if_pos e2,if_neg (by omega),if_neg (by omega),if_pos (.inr (.inl e2))]; omega
   by_cases e3:a.q.n2=3
   ·rw [if_neg e1,if_neg e2,if_pos e3,if_neg (by omega),if_pos (.inr (.inr (.inl e3)))]; omega
   by_cases e4:a.q.n2=12
   ·rw [if_neg e1,if_neg e2,if_neg e3,if_pos e4,if_pos (.inr (.inr (.inr e4)))]; omega
   ·rw [if_neg e1,if_neg e2,if_neg e3,if_neg e4,if_neg (by omega)]; omega
  rw [anQ]
  by_cases oP:a.q.n2=1∨a.q.n2=2∨a.q.n2=3∨a.q.n2=12
  ·rw [if_pos oP]
   have:(((decide (a.q.n2=1) || decide (a.q.n2=2)) || decide (a.q.n2=3)) || decide (a.q.n2=12))=true:=by
    simp only [Bool.or_eq_true,decide_eq_true_eq]; omega
   rw [this]; rfl
  ·rw [if_neg oP]
   have:(((decide (a.q.n2=1) || decide (a.q.n2=2)) || decide (a.q.n2=3)) || decide (a.q.n2=12))=false:=by
    simp only [Bool.or_eq_false_iff,decide_eq_false_iff_not]; omega
   rw [this]; rfl
 have tp:∀ {u:World},ak w [] u L→fo u ⟨s2.ten.a,s.ten.n,s2.ten.c⟩ t.bI:=fun {u} K=>by
  have:=(rT K).ten
  rw [a3] at this
  have:=this.pre
  rwa [n1] at this
 have aoT:=(fo.sl (rT K).ten).cap
 refine ⟨⟨by omega,by have:s2.ten.n≤s2.ten.c:=aoT; have:t.bI.length≤T.bI.length:=by rw [a4]; omega
                      omega⟩,D.ax 0 gS (au p1 2) rfl ?_⟩
 rw [Int.toNat_natCast]
 refine aB (acE ⟨s2.ten.a,s.ten.n,s2.ten.c⟩ s.ten t.bI _ (tp D) (rt D).ten (by omega)) ?_
 rintro _ kH ⟨rfl,vZ⟩
 have K:=D.frame vZ
 refine bu (ite_false rfl (pJ _ ?_))
 refine cZ 0 t.aC.length (fun i w'=>ak w [] w' L) rfl (by omega) K ?_ ?_
 ·rintro again i kJ _ hi K aM
  refine K.ax 0 gS (au p1 3) rfl (ite_true (decide_eq_true (by omega)) (uO fun go bY=>?_))
  have D:=K.drew
  have GD:i<T.aC.length:=by omega
  obtain ⟨g1,u1,v1,c1⟩:=(rt D).aC.at hi
  obtain ⟨g2,u2,v2,c2⟩:=(rT D).aC.at GD
  obtain ⟨x1,x2,x3⟩:=a8 i hi
  have bO:=hs.pk _ (El (d:=cH) hi)
  have e3:kJ.drew.cell? (Addr.add ⟨p1,0,none⟩ 3)=some s.aC.v:=by rw [au]; exact ((D.av 0 gS).cell 3).trans rfl
  have e4:kJ.drew.cell? (Addr.add ⟨p2,0,none⟩ 3)=some s2.aC.v:=by rw [au]; exact ((D.av 8 nX).cell 3).trans rfl
  have f1:=c1 0 _ rfl
  have f2:=c2 0 _ rfl
  generalize t.aC.getD i cH=X at *
  generalize T.aC.getD i cH=Y at *
  generalize hU:kJ.drew=U at *
  have kc:∀ {a:Addr} {v:Value} {n:Nat} {u u':World},U.cell? a=some v→Mod [] U u→Mod [] U u'→kept a n u u':=fun h m m'=>QO m m' (World.block_lt_of_cell? _ _ h)
  have ka:∀ {a:Addr} {k:Nat} {v:Value} {n:Nat} {u u':World},U.cell? (Addr.add a k)=some v→Mod [] U u→Mod [] U u'→kept a n u u':=fun h m m'=>QO m m' (am0 h)
  have fin:∀ {AN:World} {px py:Nat},ak U [] AN [.av px (X.cs u1) dJ,.av py (Y.cs u2) dJ]→go ⟨px,0,none⟩ ⟨py,0,none⟩ AN:=by
   intro AN px py M
   have K':ak w [] AN L:=D.frame M.mod
   refine bY _ _ _ (M.an 0 rfl (au px 1) rfl (M.an 1 rfl (au py 1) rfl (M.ax 0 rfl (au px 2) rfl (M.ax 1 rfl (au py 2) rfl (ite_false (by rw [x1,decide_eq_true rfl]; rfl) ?_)))))
   refine aB (GY u1 u2 X.key Y.key AN (v1.aG M.mod) (v2.aG M.mod) (by omega)) ?_
   rintro _ yB ⟨rfl,m31⟩
   have M:=M.frame m31
   have K':=K'.frame m31
   refine bu (K'.an 16 uB (uC 0) rfl (M.an 0 rfl (au px 3) rfl (M.an 1 rfl (au py 3) rfl (M.an 0 rfl (au px 4) rfl (M.an 1 rfl (au py 4) rfl (ite_false ?_ ⟨⟨by omega,by omega⟩,aM _ K'⟩))))))
   rw [wrap_i64 (by omega) (by omega),x2,decide_eq_true rfl]
   by_cases hq:(i:Int)+1=a.q.n0
   ·rw [decide_eq_true hq]; rfl
   ·obtain ⟨y1,y2⟩:=x3 hq
    rw [y1,y2,decide_eq_true (rfl:X.high=X.high),decide_eq_true (rfl:((X.used.toNat:Nat):Int)=X.used.toNat)]
    simp
  refine D.ax 0 gS (au p1 3) rfl ⟨g1,GZ c1 (D.ax 8 nX (au p2 3) rfl ⟨g2,GZ c2 ⟨?_,?_⟩⟩)⟩
  ·refine (ak.start U).nw fun px Up M1 _=>⟨ka f2 (Mod.refl [] U) M1.mod,kc e4 (Mod.refl [] U) M1.mod,ka f1 (Mod.refl [] U) M1.mod,kc e3 (Mod.refl [] U) M1.mod,
    M1.nw fun py uz M2 _=>⟨ka f2 M1.mod M2.mod,kc e4 M1.mod M2.mod,ka f1 M1.mod M2.mod,kc e3 M1.mod M2.mod,?_⟩⟩
   rw [YW] at M2
   refine M2.nY 0 rfl rfl fun CZ M3=>⟨ka f2 M2.mod M3.mod,kc e4 M2.mod M3.mod,M3.nY 1 rfl rfl fun C0 M4=>fin M4⟩
  ·refine (ak.start U).nw fun py Up M1 _=>⟨ka f2 (Mod.refl [] U) M1.mod,kc e4 (Mod.refl [] U) M1.mod,ka f1 (Mod.refl [] U) M1.mod,kc e3 (Mod.refl [] U) M1.mod,
    M1.nw fun px uz M2 _=>⟨ka f2 M1.mod M2.mod,kc e4 M1.mod M2.mod,ka f1 M1.mod M2.mod,kc e3 M1.mod M2.mod,?_⟩⟩
   rw [YW] at M2
   refine M2.nY 1 rfl rfl fun CZ M3=>⟨ka f2 M2.mod M3.mod,kc e4 M2.mod M3.mod,M3.nY 0 rfl rfl fun C0 M4=>fin (M4.cS [1,0] (by decide) rfl)⟩
 rintro again kJ K
 refine K.ax 0 gS (au p1 3) rfl (ite_false (decide_eq_false (by omega)) (K.an 16 uB (uC 2) rfl (K.an 16 uB (uC 2) rfl (pn ?_))))
 refine cZ 0 t.keys.length (fun i w'=>ak w [] w' L) rfl (by omega) K ?_ ?_
 ·rintro zx i sB _ hi K aM
  have D:=K.drew
  have GD:i<T.keys.length:=by omega
  obtain ⟨g1,u1,v1,c1⟩:=(rt D).key.at hi
  obtain ⟨g2,u2,v2,c2⟩:=(rT D).key.at GD
  have vS:=xk hs hi
  have gl:=hs.aq _ (El (d:=kz) hi)
  have h9:=a9 i hi
  generalize t.keys.getD i kz=X at *
  generalize T.keys.getD i kz=Y at *
  refine K.ax 0 gS (au p1 4) rfl (ite_true (decide_eq_true (by omega)) (D.ax 0 gS (au p1 4) rfl ⟨g1,qo c1 (D.ax 8 nX (au p2 4) rfl ⟨g2,qo c2 ?_⟩)⟩))
  have sk:Ok Pr Dm [.agg ⟨X.cs u1⟩,.agg ⟨Y.cs u2⟩] sB.drew fun r w'=>∃ b,r=.bool b∧Mod [] sB.drew w'∧(Y=X→b=true):=by
   by_cases e:Y=X
   ·subst e
    exact (adK Y u1 u2 (by omega) gl _ v1 v2).mono fun r w' h=>⟨true,h.1,h.2,fun _=>rfl⟩
   ·refine (aeo X Y u1 u2 (by omega) gl _ v1 v2).mono ?_
    rintro r w' ⟨b,h1,h2⟩
    exact ⟨b,h1,h2,fun h=>absurd h e⟩
  refine aB sk ?_
  rintro _ j8 ⟨b,rfl,TH,FR⟩
  have K:=D.frame TH
  refine bu (K.an 16 uB (uC 4) rfl (ite_false ?_ ⟨⟨by omega,by omega⟩,aM _ K⟩))
  rw [wrap_i64 (by omega) (by omega)]
  rcases h9 with h | ⟨h1,h2,h3⟩
  ·rw [FR h]; rfl
  ·rw [decide_eq_true h1,decide_eq_true h2,decide_eq_true h3]; simp
 rintro zx sB K
 refine K.ax 0 gS (au p1 4) rfl (ite_false (decide_eq_false (by omega)) ?_)
 refine cZ 0 t.aX.length (fun i w'=>ak w [] w' L) rfl (by omega) K ?_ ?_
 ·rintro RR i j8 _ hi K aM
  have D:=K.drew
  have GD:i<T.aX.length:=by omega
  have iO:=a10 i hi
  have q1:=(rt D).gr
  have q2:=(rT D).gr
  refine K.ax 0 gS (au p1 5) rfl (ite_true (decide_eq_true (by omega)) (D.ax 0 gS (au p1 5) rfl ⟨⟨Sl.pre q1 (by omega),by omega,by omega⟩,Dk (fun j v hv=>?_) (D.ax 8 nX (au p2 5) rfl ⟨⟨Sl.pre q2 (by omega),by omega,by omega⟩,Dk (fun j v hv=>?_) (alz (t.aX.getD i gz) (T.aX.getD i gz) fun b FR=>?_)⟩)⟩))
  ·rw [Int.toNat_natCast]; exact q1.cell hi hv
  ·rw [Int.toNat_natCast]; exact q2.cell GD hv
  refine D.an 16 uB (uC 2) rfl (D.an 16 uB (uC 7) rfl (ite_false ?_ ⟨⟨by omega,by omega⟩,aM _ D⟩))
  rw [wrap_i64 (by omega) (by omega)]
  rcases iO with h | ⟨h1,h2⟩
  ·rw [FR h.symm]; rfl
  ·rw [decide_eq_true h1,decide_eq_true h2]; simp
 ·rintro RR j8 K
  refine K.ax 0 gS (au p1 5) rfl (ite_false (decide_eq_false (by omega)) (aB (SC K.mod) fun v w4 h=>?_))
  obtain ⟨rfl,m⟩:=h
  exact bu ⟨rfl,m⟩
end Go.Proofs.YtgjoehgomjgckaaGreatDoor
end
section
set_option linter.unusedVariables false
set_option linter.unusedSimpArgs false
namespace Go.Ev
open Go Go.RowKit Go.ChangeShapes Go.WideShapes Go.ChangeAt Go.Deep
variable {H:Type} {enc:TypeId×Value→H} {P:Program} {w:World} {held:Bool}
inductive Lk where
 | int (k:IntKind) | str | bool | bytes
def Fx (w:World):Lk→Value→Prop
 | .int k,v=>∃ z,v=.int k z∧k.min≤z∧z≤k.max
 | .str,v=>∃ s:ByteArray,v=.string s∧s.size≤9223372036854775807
 | .bool,v=>∃ b,v=.bool b
 | .bytes,v=>∃ (s:ah) (l:List B8),v=.slice s.a s.n s.c∧Bytes w s l∧s.n≤9223372036854775807
def vh (P:Program) (t:TypeId):Lk→Bool
 | .int k=>match P.underlying t with | some (.int k')=>decide (k'=k) | _=>false
 | .str=>match P.underlying t with | some .string=>true | _=>false
 | .bool=>match P.underlying t with | some .bool=>true | _=>false
 | .bytes=>match P.underlying t with | some (.slice e)=>(match P.underlying e with | some (.int .u8)=>decide (P.cellsOf e=1) | _=>false) | _=>false
theorem W4 {t:TypeId} {k:Lk} {c:Value} {n:Nat} {x:DataW H×List MemPlace} (hk:vh P t k=true) (h:DataW.trod enc P w 0 (fun _=>true) held n t [c]=some x):Fx w k c:=by
 cases k with
 | int k=>
  simp only [vh] at hk
  split at hk
  ·rename_i k' hu
   have:k'=k:=of_decide_eq_true hk
   subst this
   obtain ⟨z,hz,_,hw⟩:=DataW.trod_int hu h
   have hz:c=.int k' z:=by simpa using hz
   have:=Zl hw
   exact ⟨z,hz,this.1,this.2⟩
  ·cases hk
 | str=>
  simp only [vh] at hk
  split at hk
  ·rename_i hu
   obtain ⟨s,hs,_,hm⟩:=DataW.trod_string hu h
   have hs:c=.string s:=by simpa using hs
   exact ⟨s,hs,by simp only [maxLen] at hm; omega⟩
  ·cases hk
 | bool=>
  simp only [vh] at hk
  split at hk
  ·rename_i hu
   obtain ⟨b,hb,_⟩:=DataW.trod_bool hu h
   exact ⟨b,by simpa using hb⟩
  ·cases hk
 | bytes=>
  simp only [vh] at hk
  split at hk
  ·rename_i e hu
   split at hk
   ·rename_i he
    have hc:P.cellsOf e=1:=of_decide_eq_true hk
    rcases open_ints hu he hc h with ⟨jo,-⟩ | ⟨a,len,cap,zs,jo,-,hl,hm,hz,-,nh,hw⟩
    ·exact ⟨⟨none,0,0⟩,[],by simpa using jo,Bytes.nil w,by show 0≤_; omega⟩
    ·simp only [if_true] at hz
     have hI:aar w ⟨some a,len,cap⟩ .u8 (zs.take len):=by
      refine ⟨⟨?_,hl,fun _=>rfl,fun i x hx=>?_⟩,fun x hx=>Zl (hw x (List.mem_of_mem_take hx))⟩
      ·simp only [List.length_map,List.length_take,Nat.mul_one]; omega
      ·rw [List.getElem?_map,List.getElem?_take] at hx
       split at hx
       ·rename_i hi
        have:=nh i (by omega)
        rw [List.getD_eq_getElem?_getD] at this
        cases hzi:zs[i]? with
        | none=>rw [hzi] at hx; cases hx
        | some z=>
         rw [hzi] at hx this
         simp only [Option.map_some,Option.some.injEq] at hx
         subst hx
         exact this
       ·cases hx
     exact ⟨⟨some a,len,cap⟩,_,by simpa using jo,afX hI,by simp only [maxLen] at hm; show len≤_; omega⟩
   ·cases hk
  ·cases hk
def rG (w:World):List Lk→List Value→Prop
 | [],[]=>True
 | k :: ks,c :: cs=>Fx w k c∧rG w ks cs
 | _,_=>False
theorem rG.cons {w:World} {k:Lk} {ks:List Lk} {cs:List Value} (h:rG w (k :: ks) cs):∃ c r,cs=c :: r∧Fx w k c∧rG w ks r:=by
 cases cs with
 | nil=>exact h.elim
 | cons c r=>exact ⟨c,r,rfl,h.1,h.2⟩
theorem rG.nil {w:World} {cs:List Value} (h:rG w [] cs):cs=[]:=by
 cases cs with
 | nil=>rfl
 | cons c r=>exact h.elim
def rS (P:Program) (t:TypeId):Array Field:=match P.underlying t with | some (.struct fs)=>fs | _=>#[]
def D1 (P:Program) (t:TypeId):Bool:=match P.underlying t with | some (.struct _)=>true | _=>false
def RZ (P:Program) (fs:List Field):List Lk→Bool:=go fs
where
 go:List Field→List Lk→Bool
  | [],[]=>true
  | f :: fs,k :: ks=>vh P f.type k && go fs ks
  | _,_=>false
def I1 (P:Program) (t:TypeId) (ks:List Lk):Bool:=D1 P t && (oneCellFields P (rS P t) && (decide (P.cellsOf t=ks.length) && (decide ((rS P t).size=ks.length) && RZ P (rS P t).toList ks)))
theorem R1 {t:TypeId} (h:D1 P t=true):P.underlying t=some (.struct (rS P t)):=by
 unfold D1 at h
 unfold rS
 split at h
 ·rename_i fs hu; rw [hu]
 ·cases h
theorem XV:∀ (fs:List Field) (ks:List Lk) (cs:List Value),RZ P fs ks=true→cs.length=ks.length→(∀ (i:Nat) (f:Field) (c:Value),fs[i]? = some f→cs[i]? = some c→∃ n x,DataW.trod enc P w 0 (fun _=>true) held n f.type [c]=some x)→rG w ks cs
 | [],[],[],_,_,_=>trivial
 | [],[],_ :: _,_,h,_=>by simp at h
 | [],_ :: _,_,h,_,_=>by cases h
 | _ :: _,[],_,h,_,_=>by cases h
 | _ :: _,_ :: _,[],_,h,_=>by simp at h
 | f :: fs,k :: ks,c :: cs,h,hl,hc=>by
  have h:(vh P f.type k && RZ P fs ks)=true:=h
  simp only [Bool.and_eq_true] at h
  obtain ⟨n,x,hx⟩:=hc 0 f c rfl rfl
  exact ⟨W4 h.1 hx,XV fs ks cs h.2 (by simpa using hl) fun i f' c' hf vK=>hc (i+1) f' c' (by simpa using hf) (by simpa using vK)⟩
theorem aiv {t:TypeId} {ks:List Lk} {cs:List Value} {n:Nat} {x:DataW H×List MemPlace} (hs:I1 P t ks=true) (h:DataW.trod enc P w 0 (fun _=>true) held n t cs=some x):rG w ks cs∧cs.length=ks.length:=by
 unfold I1 at hs
 simp only [Bool.and_eq_true,decide_eq_true_eq] at hs
 obtain ⟨h1,h2,h3,h4,h5⟩:=hs
 obtain ⟨xs,m,_,_,hl,bV,hf⟩:=DataW.trod_struct (R1 h1) h
 refine ⟨XV (enc:=enc) (held:=held) _ ks cs h5 (by omega) fun i f c hfi nM=>?_,by omega⟩
 have Tk:(rS P t)[i]? = some f:=by simpa using hfi
 have hi:i<(rS P t).size:=(Array.getElem?_eq_some_iff.1 Tk).1
 obtain ⟨ho,TJ⟩:=hone_of h2 i f Tk
 have:=hf i f Tk
 rw [ho,TJ,take1_drop cs i undef (by omega),List.getElem?_eq_getElem (by omega)] at this
 have vH:cs.getD i undef=c:=by simp [List.getD_eq_getElem?_getD,nM]
 rw [vH] at this
 exact ⟨m,_,this⟩
end Go.Ev
end
section
set_option linter.unusedVariables false
set_option linter.unusedSimpArgs false
namespace Go.Ev
open Go Go.RowKit Go.ChangeShapes Go.WideShapes Go.ChangeAt Go.Deep
variable {P:Program}
def Reads (P:Program) (t:TypeId) (n:Nat) (Q:World→List Value→Prop):Prop:=
 ∀ {H:Type} {enc:TypeId×Value→H} {w:World} {held:Bool} {fuel:Nat} {cs:List Value} {x:DataW H×List MemPlace},DataW.trod enc P w 0 (fun _=>true) held fuel t cs=some x→Q w cs∧cs.length=n
theorem ahP {t:TypeId} {ks:List Lk} (hs:I1 P t ks=true):Reads P t ks.length (fun w cs=>rG w ks cs):=fun h=>aiv hs h
theorem aku {H:Type} {enc:TypeId×Value→H} {w:World} {held:Bool} {t:TypeId} {k:Lk} {n:Nat} {cs:List Value} {x:DataW H×List MemPlace} (hk:vh P t k=true) (h1:cs.length=1) (h:DataW.trod enc P w 0 (fun _=>true) held n t cs=some x):∃ c,cs=[c]∧Fx w k c:=by
 match cs,h1 with
 | [c],_=>exact ⟨c,rfl,W4 hk h⟩
def SD (k:Lk):World→List Value→Prop:=fun w cs=>∃ c,cs=[c]∧Fx w k c
def ED:List (TypeId×Nat×(World→List Value→Prop))→World→List Value→Prop
 | [],_,cs=>cs=[]
 | (_,n,Q) :: r,w,cs=>∃ a b,cs=a ++ b∧Q w a∧a.length=n∧ED r w b
def I2 (P:Program):List Field→Nat→List (TypeId×Nat)→Bool
 | [],_,[]=>true
 | f :: fs,o,(t,n) :: l=>decide (f.type=t) && (decide (f.offset=o) && (decide (P.cellsOf t=n) && I2 P fs (o+n) l))
 | _,_,_=>false
def ZP (P:Program) (t:TypeId) (l:List (TypeId×Nat)):Bool:=D1 P t && (decide (P.cellsOf t=(l.map (·.2)).sum) && I2 P (rS P t).toList 0 l)
def Part (P:Program) (x:TypeId×Nat×(World→List Value→Prop)):Prop:=
 ∀ {H:Type} {enc:TypeId×Value→H} {w:World} {held:Bool} {fuel:Nat} {cs:List Value} {y:DataW H×List MemPlace},cs.length=x.2.1→DataW.trod enc P w 0 (fun _=>true) held fuel x.1 cs=some y→x.2.2 w cs
theorem Part.leaf {t:TypeId} {k:Lk} (hk:vh P t k=true):Part P (t,1,SD k):=fun hl h=>aku hk hl h
theorem Part.of {t:TypeId} {n:Nat} {Q:World→List Value→Prop} (h:Reads P t n Q):Part P (t,n,Q):=fun _ k=>(h k).1
theorem XW {H:Type} {enc:TypeId×Value→H} {w:World} {held:Bool} {m:Nat} {cs:List Value}:∀ (l:List (TypeId×Nat×(World→List Value→Prop))) (fs:List Field) (o:Nat),I2 P fs o (l.map fun x=>(x.1,x.2.1))=true→(∀ x∈l,Part P x)→
  cs.length=o+(l.map (·.2.1)).sum→(∀ f∈fs,∃ y,DataW.trod enc P w 0 (fun _=>true) held m f.type ((cs.drop f.offset).take (P.cellsOf f.type))=some y)→ED l w (cs.drop o)
 | [],[],o,_,_,hl,_=>by
  show cs.drop o=[]
  exact List.drop_eq_nil_of_le (by rw [hl]; simp)
 | [],_ :: _,_,h,_,_,_=>by cases h
 | _ :: _,[],_,h,_,_,_=>by cases h
 | (t,n,Q) :: l,f :: fs,o,h,hp,hl,hf=>by
  have h:(decide (f.type=t) && (decide (f.offset=o) && (decide (P.cellsOf t=n) && I2 P fs (o+n) (l.map fun x=>(x.1,x.2.1)))))=true:=h
  simp only [Bool.and_eq_true,decide_eq_true_eq] at h
  obtain ⟨h1,h2,h3,h4⟩:=h
  have hl:cs.length=o+(n+(l.map (·.2.1)).sum):=hl
  obtain ⟨y,hy⟩:=hf f (List.mem_cons_self ..)
  rw [h1,h2,h3] at hy
  have sx:((cs.drop o).take n).length=n:=by rw [List.length_take,List.length_drop]; omega
  refine ⟨(cs.drop o).take n,cs.drop (o+n),?_,hp (t,n,Q) (List.mem_cons_self ..) sx hy,sx,XW l fs (o+n) h4 (fun x hx=>hp x (List.mem_cons_of_mem _ hx)) (by omega) fun g hg=>hf g (List.mem_cons_of_mem _ hg)⟩
  rw [← List.drop_drop,List.take_append_drop]
theorem ahQ {t:TypeId} (l:List (TypeId×Nat×(World→List Value→Prop))) (hb:ZP P t (l.map fun x=>(x.1,x.2.1))=true) (hp:∀ x∈l,Part P x):Reads P t (l.map (·.2.1)).sum (ED l):=by
 intro H enc w held fuel cs x h
 unfold ZP at hb
 simp only [Bool.and_eq_true,decide_eq_true_eq,List.map_map] at hb
 obtain ⟨h1,h2,h3⟩:=hb
 obtain ⟨xs,m,_,_,hl,bV,hf⟩:=DataW.trod_struct (R1 h1) h
 have hl:cs.length=(l.map (·.2.1)).sum:=hl.trans h2
 refine ⟨?_,hl⟩
 have:=XW (enc:=enc) (held:=held) (m:=m) (cs:=cs) (w:=w) l (rS P t).toList 0 h3 hp (by omega) fun f FB=>?_
 ·simpa using this
 ·obtain ⟨i,hi,rfl⟩:=List.getElem_of_mem FB
  have At:i<(rS P t).size:=by simpa using hi
  have:=hf i ((rS P t).toList[i]) (by rw [Array.getElem_toList]; exact Array.getElem?_eq_getElem At)
  rw [List.getElem?_eq_getElem (by omega)] at this
  exact ⟨_,this⟩
def aao (n:Nat) (Q:World→List Value→Prop):World→List Value→Prop:=fun w cs=>
 ∃ (s:ah) (rows:List (List Value)),cs=[s.v]∧Sl w s n rows.flatten∧rows.length=s.n∧(∀ row∈rows,Q w row∧row.length=n)∧s.n≤9223372036854775807
theorem XX {n:Nat}:∀ (rows:List (List Value)),(∀ row∈rows,row.length=n)→rows.flatten.length=rows.length * n
 | [],_=>by simp
 | r :: rs,h=>by
  rw [List.flatten_cons,List.length_append,XX rs fun row hr=>h row (List.mem_cons_of_mem _ hr),h r (List.mem_cons_self ..),List.length_cons,Nat.succ_mul]
  omega
theorem YX {n:Nat}:∀ (rows:List (List Value)),(∀ row∈rows,row.length=n)→∀ (j:Nat) (v:Value),rows.flatten[j]? = some v→∃ i row,rows[i]? = some row∧i * n≤j∧row[j - i * n]? = some v
 | [],_,j,v,h=>by simp at h
 | r :: rs,hr,j,v,h=>by
  have hl:=hr r (List.mem_cons_self ..)
  rw [List.flatten_cons] at h
  rcases Nat.lt_or_ge j r.length with k | k
  ·rw [List.getElem?_append_left k] at h
   exact ⟨0,r,rfl,by omega,by simpa using h⟩
  ·rw [List.getElem?_append_right k] at h
   obtain ⟨i,row,h1,h2,h3⟩:=YX rs (fun row hx=>hr row (List.mem_cons_of_mem _ hx)) _ v h
   refine ⟨i+1,row,by simpa using h1,by rw [Nat.succ_mul]; omega,?_⟩
   rw [show j - (i+1) * n=j - r.length - i * n by rw [Nat.succ_mul]; omega]
   exact h3
theorem aiw {t e:TypeId} {n:Nat} {Q:World→List Value→Prop} (ht:P.underlying t=some (.slice e)) (hn:P.cellsOf e=n) (hr:Reads P e n Q):Reads P t 1 (aao n Q):=by
 intro H enc w held fuel cs x h
 rcases open_slice ht h with ⟨jo,-⟩ | ⟨a,len,cap,m,k,D,Pl,jo,-,hl,hm,Km,-,hx⟩
 ·subst jo
  exact ⟨⟨⟨none,0,0⟩,[],rfl,Sl.nil w _,rfl,(fun _ h=>by cases h),by show 0≤_; omega⟩,rfl⟩
 ·simp only [if_true] at Km
  subst Km
  have hex:∀ i:Nat,∃ xS,i<m→(w.cells? 0 (a.add (i * P.cellsOf e)) (P.cellsOf e)=some xS∧DataW.trod enc P w 0 (fun _=>true) held k e xS=some (D i,Pl i)):=fun i=>by
   by_cases hi:i<m
   ·obtain ⟨xS,h1⟩:=hx i hi; exact ⟨xS,fun _=>h1⟩
   ·exact ⟨[],fun h=>absurd h hi⟩
  obtain ⟨C,hC⟩:=Classical.axiomOfChoice hex
  have iU:∀ i,i<m→Q w (C i)∧(C i).length=n:=fun i hi=>hr (hC i hi).2
  have lV:∀ row∈(List.range len).map C,Q w row∧row.length=n:=fun row hx=>by
   obtain ⟨i,hi,rfl⟩:=List.mem_map.1 hx
   exact iU i (by have:=List.mem_range.1 hi; omega)
  subst jo
  refine ⟨⟨⟨some a,len,m⟩,(List.range len).map C,rfl,⟨?_,hl,fun _=>rfl,fun j v hj=>?_⟩,by simp,lV,by simp only [maxLen] at hm; show len≤_; omega⟩,rfl⟩
  ·rw [XX _ fun row hx=>(lV row hx).2,List.length_map,List.length_range]
  ·obtain ⟨i,row,h1,h2,h3⟩:=YX _ (fun row hx=>(lV row hx).2) j v hj
   rw [List.getElem?_map] at h1
   have hi:i<len:=by
    rcases Nat.lt_or_ge i len with e | e
    ·exact e
    ·rw [List.getElem?_eq_none (by simp; exact e)] at h1; cases h1
   rw [List.getElem?_range hi] at h1
   obtain rfl:C i=row:=Option.some.inj h1
   obtain ⟨_,_,nh⟩:=World.cells?_some (hC i (by omega)).1
   have hjl:=(List.getElem?_eq_some_iff.1 h3).1
   have h4:=nh (j - i * n) (by have:=(iU i (by omega)).2; omega)
   rw [h3,add_add,hn,show i * n+(j - i * n)=j by omega] at h4
   exact h4
theorem XY {A:Type} {C:A→ah→List Value} {E:World→ah→A→Prop} {p:A→Prop} {w:World}:∀ (rows:List (List Value)),(∀ row∈rows,∃ a x,row=C a x∧E w x a∧p a)→∃ ls xs,rows.flatten=bq C ls xs∧bw E w xs ls∧∀ a∈ls,p a
 | [],_=>⟨[],[],rfl,⟨rfl,fun i x l h=>by simp at h⟩,fun a h=>by cases h⟩
 | r :: rs,h=>by
  obtain ⟨ls,xs,h1,h2,h5⟩:=XY rs fun row hr=>h row (List.mem_cons_of_mem _ hr)
  obtain ⟨a,x,h3,h4,h6⟩:=h r (List.mem_cons_self ..)
  refine ⟨a :: ls,x :: xs,?_,?_,fun b hb=>?_⟩
  ·rw [List.flatten_cons,h1,h3,rq]
  ·refine ⟨by simp [h2.1],fun i y l hy hl=>?_⟩
   cases i with
   | zero=>simp at hy hl; subst hy hl; exact h4
   | succ i=>exact h2.2 i y l (by simpa using hy) (by simpa using hl)
  ·rcases List.mem_cons.1 hb with rfl | hb
   ·exact h6
   ·exact h5 b hb
theorem aji {t:TypeId} {n:Nat} {Q:World→List Value→Prop} (hr:Reads P t n Q) (nL:D1 P t=true) {H:Type} {enc:TypeId×Value→H} {w:World} {held:Bool} {v:Value} {d:DataW H} {ps:List MemPlace} {r:Reach} {base:Nat} (hv:Value.okWide P w r base t v) (h:DataW.Trod enc P w 0 (fun _=>true) held t v d ps):∃ cs,v=.agg ⟨cs⟩∧Q w cs:=by
 obtain ⟨cs,rfl,jQ⟩:=okWide_struct (R1 nL) hv
 obtain ⟨fuel,h⟩:=h
 exact ⟨cs.toList,rfl,(hr (by simpa [Value.cells] using h)).1⟩
theorem akv {t e:TypeId} {n:Nat} {Q:World→List Value→Prop} (ht:P.underlying t=some (.slice e)) (hr:Reads P t 1 (aao n Q)) {H:Type} {enc:TypeId×Value→H} {w:World} {held:Bool} {v:Value} {d:DataW H} {ps:List MemPlace} {r:Reach} {base:Nat} (hv:Value.okWide P w r base t v) (h:DataW.Trod enc P w 0 (fun _=>true) held t v d ps) :
  ∃ (s:ah) (rows:List (List Value)),v=.slice s.a s.n s.c∧Sl w s n rows.flatten∧rows.length=s.n∧(∀ row∈rows,Q w row∧row.length=n)∧s.n≤9223372036854775807:=by
 obtain ⟨va,vn,vc,rfl⟩:=Go.WideShapes.okWide_slice ht hv
 obtain ⟨fuel,h⟩:=h
 obtain ⟨⟨s,rows,h1,h2⟩,_⟩:=hr (by simpa [Value.cells] using h)
 exact ⟨s,rows,by simpa [ah.v] using h1,h2⟩
end Go.Ev
end
section
set_option linter.unusedVariables false
set_option linter.unusedSimpArgs false
namespace Go.Proofs.YtgjoehgomjgckaaGreatDoor
open Go Go.Ev Go.RowKit
set_option maxRecDepth 20000
def Rm:List Lk:=[.int .i64,.int .i64,.int .i64,.int .i64,.int .i64,.int .i64,.int .i64,.int .i64,.int .i64,.int .i64,.int .i64,.str,.bytes,.bytes]
theorem ajj:I1 Pr kZ Rm=true:=by kernel_rfl
end Go.Proofs.YtgjoehgomjgckaaGreatDoor
end
