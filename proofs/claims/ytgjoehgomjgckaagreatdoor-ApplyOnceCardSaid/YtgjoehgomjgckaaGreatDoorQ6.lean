/- Texts of this claim, packed and shortened. -/
import Derived.KernelRfl
import Derived.Deep.Slices
import Derived.Deep.Fields
import Derived.Test.YtgjoehgomjgckaaGreatDoorQ5
import Derived.Test.YtgjoehgomjgckaaGreatDoorQ4
import Derived.Test.YtgjoehgomjgckaaGreatDoorQ1
import Derived.Test.YtgjoehgomjgckaaGreatDoorQ2
import Derived.Test.YtgjoehgomjgckaaGreatDoorQ3
section
set_option linter.unusedVariables false
set_option linter.unusedSimpArgs false
namespace Go.Ev
open Go Go.RowKit
theorem ak.gZ {w0 w:World} {S:List Nat} {L:List aD} (H:ak w0 S w L) {t:TypeId} {cs:List Value} {K:Addr→World→Prop} (h:∀ b w',ak w0 S w' (L ++ [.av b cs t])→Mod [] w w'→K ⟨b,0,none⟩ w'):Ev.nw t cs w K:=
 qv fun b w' hb h1 h2 _=>h b w' (H.push h2 h1 (by simp [aD.av,hb])) h2
theorem bE (b i j:Nat):Addr.add (Addr.add ⟨b,0,none⟩ i) j=⟨b,i+j,none⟩:=by rw [au,s8]
end Go.Ev
namespace Go.Proofs.YtgjoehgomjgckaaGreatDoor
open Go Go.Ev
set_option maxRecDepth 20000
set_option linter.unusedVariables false
def zQ (q:bH) (t:aS) (s:dY) (ow:Int) (sd:ah):List Value:=
 [.int .i64 q.n0,.int .i64 q.n1,.int .i64 q.n2,.int .i64 q.n3,.int .i64 q.n4,.int .i64 q.n5,.int .i64 q.n6,.int .i64 q.n7,.int .i64 q.n8,.int .i64 q.n9,.int .i64 q.nX,.string q.name,.slice q.gw.a q.gw.n q.gw.c,.slice q.tok.a q.tok.n q.tok.c,
  .int .i64 t.clock,.slice s.sec.a s.sec.n s.sec.c,.slice s.ten.a s.ten.n s.ten.c,.slice s.aG.a s.aG.n s.aG.c,.slice s.key.a s.key.n s.key.c,.slice s.gr.a s.gr.n s.gr.c,.int .i64 ow,.slice sd.a sd.n sd.c]
def fZ (q:bH) (t:aS):Int:=if q.n2=13 then (t.bz.getD (q.n7 - 1).toNat gz).n1 else q.n4
def wZ (q:bH) (t:aS):aV:=t.keys.getD (fZ q t - 1).toNat kz
def jx (op:Int):Bool:=decide (op=1) || (decide (op=2) || decide (op=3))
def rD (op:Int):Bool:=decide (op=5) || (decide (op=6) || (decide (op=7) || (decide (op=8) || (decide (op=10) || decide (op=11)))))
def gS (q:bH) (t:aS):Bool:=
 if jx q.n2=true then aP 1 (t.bY.length:Int) q.n3
 else (decide (q.n2≠13) || aP 1 (t.bz.length:Int) q.n7) && (aP 1 (t.keys.length:Int) (fZ q t) &&
  (if rD q.n2=true then (iQ (wZ q t) q.n5).isSome else decide (q.n2≠12) || aP 1 (t.aG.length:Int) q.n8))
def oB (q:bH) (t:aS):Int:=if jx q.n2=true then q.n3 else (wZ q t).ten
def cX (b:Nat) (q:bH) (t:aS) (s:dY) (ow:Int) (sd:ah) (ys zs:List ah) (fp fq:List Nat):List aD:=.av b (zQ q t s ow sd) wv :: iT s t ys zs fp fq
theorem AH (c:Int) (hc:c≠0) (w:World):Ok Pr lC [.int .i64 c] w fun v w'=>cO w w' v c∧Mod [] w w':=by
 refine aea ?_
 unfold Ns
 exact qv fun b w' hb h1 h2 _=>⟨cO.mk h1 (by omega) hc,h2⟩
theorem C7 (id many:Int) (w:World):Ok Pr yx [.int .i64 id,.int .i64 many] w fun v w'=>v=.bool (aP 1 many id)∧w'=w:=by
 refine aeb ?_
 unfold Nt
 exact ⟨rfl,rfl⟩
theorem uL {w0 w:World} {S:List Nat} {b:Nat} {q:bH} {t:aS} {s:dY} {ow:Int} {sd:ah} {ys zs:List ah} {fp fq:List Nat} (H:ak w0 S w (cX b q t s ow sd ys zs fp fq)):gL w s t:=o7 (L:=[_]) H
theorem RS {w0 w:World} {S:List Nat} {b:Nat} {q:bH} {t:aS} {s:dY} {ow:Int} {sd:ah} {ys zs:List ah} {fp fq:List Nat} {M:List aD} (H:ak w0 S w (cX b q t s ow sd ys zs fp fq ++ M)) {i:Nat} {x:ah} {k:aV} (hx:zs[i]? = some x) (hk:t.keys[i]? = some k):j3 w x k.aH:=by
 have h:bB iD w zs t.keys:=H.box 7 rfl
 exact h.2 i x k hx hk
theorem Rz {w0 w:World} {S:List Nat} {b:Nat} {q:bH} {t:aS} {s:dY} {ow:Int} {sd:ah} {ys zs:List ah} {fp fq:List Nat} {M:List aD} (H:ak w0 S w (cX b q t s ow sd ys zs fp fq ++ M)) {i:Nat} (hi:i<t.keys.length) :
  t.keys[i]? = some (t.keys.getD i kz)∧(s.key.a.isSome=true∧(0:Int)≤(i:Int)∧(i:Int)<(s.key.n:Int))∧∃ x,zs[i]? = some x∧∀ (j:Nat) (v:Value),((t.keys.getD i kz).cs x)[j]? = some v→w.cell? (Addr.add (Addr.add (base s.key.a) (Int.toNat (i:Int) * 4)) j)=some v:=by
 have hk:t.keys[i]? = some (t.keys.getD i kz):=by rw [List.getD_eq_getElem?_getD,List.getElem?_eq_getElem hi]; rfl
 have h:bB iD w zs t.keys:=H.box 7 rfl
 have hr:=H.fI 6 rfl
 have hl:=hr.len
 rw [iO aV.cu _ _ h.1] at hl
 have hx:zs[i]? = some (zs[i]'(by rw [h.1]; exact hi)):=List.getElem?_eq_getElem _
 refine ⟨hk,⟨hr.pre (by omega),by omega,by omega⟩,_,hx,fun j v hv=>?_⟩
 rw [Int.toNat_natCast]
 exact hr.uO aV.cu hk hx hv
theorem wH {n:Int} {m:Nat} (h:aP 1 (m:Int) n=true):∃ i:Nat,n - 1=(i:Int)∧(n - 1).toNat=i∧i<m:=by
 unfold aP at h
 rw [Bool.and_eq_true,decide_eq_true_eq,decide_eq_true_eq] at h
 exact ⟨(n - 1).toNat,by omega,rfl,by omega⟩
theorem adB {w0 w:World} {b:Nat} {q:bH} {t:aS} {s:dY} {ow:Int} {sd:ah} {ys zs:List ah} {fp fq:List Nat} (H:ak w0 [] w (cX b q t s ow sd ys zs fp fq)) (hs:t.small) (hq:aF q.n4∧aF q.n7) :
  Ok Pr Ly [.pointer (some ⟨b,0,none⟩)] w fun v w'=>v=.bool (gS q t)∧∃ q' kJ,(gS q t=true→q'={ q with n4:=fZ q t }∧kJ=oB q t)∧ak w0 [] w' (cX b q' t s kJ sd ys zs fp fq):=by
 refine acL ?_
 unfold LJ
 rw [o5,wR]
 have hR:=uL H
 have vX:=hR.ten.len
 have qT:=hR.aG.len
 have uo:=hR.key.len
 have J9:=hR.gr.len
 have vG:∀ i,i<t.keys.length→(t.keys.getD i kz).aH.length≤1000:=fun i hi=>wT hs hi
 obtain ⟨hq4,hq7⟩:=hq
 have vY:=hs.key
 have Az:=hs.gr
 have no:∀ {w':World} (q':bH) (kJ:Int),gS q t=false→ak w0 [] w' (cX b q' t s kJ sd ys zs fp fq)→(fun (v:Value) (w':World)=>v=.bool (gS q t)∧∃ q' kJ,(gS q t=true→q'={ q with n4:=fZ q t }∧kJ=oB q t)∧ak w0 [] w' (cX b q' t s kJ sd ys zs fp fq)) (.bool false) w':=fun q' kJ h D=>⟨by rw [h],q',kJ,fun h2=>(by rw [h] at h2; cases h2),D⟩
 refine ku fun go bZ=>?_
 have key:∀ (w1:World),jx q.n2=false→(q.n2≠13∨aP 1 (t.bz.length:Int) q.n7=true)→ak w0 [] w1 (cX b { q with n4:=fZ q t } t s ow sd ys zs fp fq)→go w1:=by
  intro w1 vZ hgr H
  refine bZ w1 ?_
  have eF:gS q t=(aP 1 (t.keys.length:Int) (fZ q t) && (if rD q.n2=true then (iQ (wZ q t) q.n5).isSome else decide (q.n2≠12) || aP 1 (t.aG.length:Int) q.n8)):=by
   unfold gS
   rw [if_neg (by rw [vZ]; decide)]
   rcases hgr with h | h
   ·rw [decide_eq_true h,Bool.true_or,Bool.true_and]
   ·rw [h,Bool.or_true,Bool.true_and]
  have D:=H.drew
  refine nc (D.an 0 rfl (bE b 0 4) rfl (nc (D.ax 0 rfl (bE b 14 4) rfl (aB (C7 _ _ _) ?_))))
  rintro _ w2 ⟨rfl,qR⟩
  subst qR
  refine bk ?_
  show aA (!aP 1 (s.key.n:Int) (fZ q t)) _ _
  rw [← uo]
  cases c1:aP 1 (t.keys.length:Int) (fZ q t) with
  | false=>exact ite_true rfl (no _ _ (by rw [eF,c1]; rfl) D)
  | true=>
  rw [c1,Bool.true_and] at eF
  obtain ⟨i,ei,en,hi⟩:=wH c1
  have hJ:wZ q t=t.keys.getD i kz:=by unfold wZ; rw [en]
  have hoT:oB q t=(wZ q t).ten:=by unfold oB; rw [if_neg (by rw [vZ]; decide)]
  have hvi:=vG i hi
  have D2:=D.drew
  obtain ⟨mN,dm,x,dB,hc⟩:=Rz (M:=[]) D2 hi
  have hib:aF (fZ q t - 1):=by unfold aF; omega
  refine ite_false rfl (nc (D2.ax 0 rfl (bE b 14 4) rfl (nc (D2.an 0 rfl (bE b 0 4) rfl ⟨hib,?_⟩))))
  show aQ s.key.a (fZ q t - 1) s.key.n _
  rw [hJ] at eF hoT
  rw [ei]
  generalize t.keys.getD i kz=k at *
  refine ⟨dm,qn hc (D2.gZ fun p w3 E m3=>⟨yT m3 (hc 0 _ rfl),D2.kept m3 0 rfl (bE b 0 4) 1,D2.kept m3 0 rfl (bE b 14 4) 1,E.cD 8 rfl rfl fun w4 E=>E.an 8 rfl (au p 1) rfl (nc (E.st 0 rfl (au b 20) (by show 20<22; omega) rfl fun w5 E=>?_))⟩)⟩
  have E:ak w0 [] w5 (cX b { q with n4:=fZ q t } t s k.ten sd ys zs fp fq ++ [.av p (dF k.id k.ten k.set x) aZ]):=E
  have yes:∀ {w':World},gS q t=true→ak w0 [] w' (cX b { q with n4:=fZ q t } t s k.ten sd ys zs fp fq)→(fun (v:Value) (w':World)=>v=.bool (gS q t)∧∃ q' kJ,(gS q t=true→q'={ q with n4:=fZ q t }∧kJ=oB q t)∧ak w0 [] w' (cX b q' t s kJ sd ys zs fp fq)) (.bool true) w':=fun h D=>⟨by rw [h],_,_,fun _=>⟨rfl,hoT.symm⟩,D⟩
  have any:∀ {w':World} (r:Bool),gS q t=r→ak w0 [] w' (cX b { q with n4:=fZ q t } t s k.ten sd ys zs fp fq)→(fun (v:Value) (w':World)=>v=.bool (gS q t)∧∃ q' kJ,(gS q t=true→q'={ q with n4:=fZ q t }∧kJ=oB q t)∧ak w0 [] w' (cX b q' t s kJ sd ys zs fp fq)) (.bool r) w':=fun r h D=>by
   cases r with
   | true=>exact yes h D
   | false=>exact no _ _ h D
  have uq:∀ {w':World} {M:List aD},ak w0 [] w' (cX b { q with n4:=fZ q t } t s k.ten sd ys zs fp fq ++ M)→fY w' x k.aH:=fun D=>(RS D dB mN).aH
  refine nc (E.an 0 rfl (bE b 0 2) rfl (jv fun jC iw=>?_))
  have G:jC (rD q.n2) w5:=by
   refine iw _ _ ?_
   have E2:=E.drew
   cases hv:rD q.n2 with
   | true=>
    rw [hv,if_pos rfl] at eF
    refine ite_true rfl (E2.bu 8 rfl (nc (E2.an 0 rfl (bE b 0 5) rfl ⟨?_,?_⟩)))
    ·refine aB (Ds k x q.n5 (by omega) _ (uq E2)) ?_
     rintro _ w7 ⟨y,rfl,hy⟩
     have E3:=E2.frame hy.mod
     refine ⟨_,rfl,wh ⟨_,rfl,rfl,E3.gZ fun p1 w8 E4 m8=>⟨E3.kept m8 0 rfl (bE b 0 5) 1,E3.kept m8 8 rfl rfl 4,E4.gx 9 rfl rfl fun w9 E5=>any _ eF (E5.take 8)⟩⟩⟩
    ·refine E2.gZ fun p1 w8 E4 m8=>⟨E2.kept m8 0 rfl (bE b 0 5) 1,E2.kept m8 8 rfl rfl 4,aB (Ds k x q.n5 (by omega) _ (uq (M:=[_,_]) E4)) ?_⟩
     rintro _ w7 ⟨y,rfl,hy⟩
     have E5:=E4.frame hy.mod
     refine ⟨_,rfl,wh ⟨_,rfl,rfl,E5.gx 9 rfl rfl fun w9 E6=>any _ eF (E6.take 8)⟩⟩
   | false=>
    rw [hv,if_neg (by decide)] at eF
    refine ite_false rfl (bU (fun h=>?_) (fun h=>?_))
    ·have h:=of_decide_eq_true h
     have jA:q.n2=12:=h
     rw [decide_eq_false (by omega),Bool.false_or,qT] at eF
     refine nc (E2.an 0 rfl (bE b 0 8) rfl (nc (E2.ax 0 rfl (bE b 14 3) rfl (aB (C7 _ _ _) ?_))))
     rintro _ w7 ⟨rfl,sI⟩
     subst sI
     exact bk (any _ eF (E2.take 8))
    ·have h:¬ q.n2=12:=of_decide_eq_false h
     rw [decide_eq_true h,Bool.true_or] at eF
     exact yes eF (E.take 8)
  show aA (decide (q.n2=5)) _ _
  have tv:∀ {z:Int},rD z=true→q.n2=z→jC (decide (q.n2=z)) w5:=fun hz e=>by
   rw [e] at G ⊢
   rw [hz] at G
   rw [decide_eq_true rfl]
   exact G
  refine bU (fun h=>tv rfl (of_decide_eq_true h)) fun h5=>?_
  refine bU (fun h=>tv rfl (of_decide_eq_true h)) fun h6=>?_
  refine bU (fun h=>tv rfl (of_decide_eq_true h)) fun h7=>?_
  refine bU (fun h=>tv rfl (of_decide_eq_true h)) fun h8=>?_
  refine bU (fun h=>tv rfl (of_decide_eq_true h)) fun jl=>?_
  have e:rD q.n2=decide (q.n2=11):=by
   unfold rD
   have h5:decide (q.n2=5)=false:=h5
   have h6:decide (q.n2=6)=false:=h6
   have h7:decide (q.n2=7)=false:=h7
   have h8:decide (q.n2=8)=false:=h8
   have jl:decide (q.n2=10)=false:=jl
   rw [h5,h6,h7,h8,jl]; rfl
  rw [e] at G
  exact G
 refine nc (H.an 0 rfl (bE b 0 2) rfl (jv fun go2 rK=>?_))
 have G:go2 (jx q.n2) w:=by
  refine rK _ _ ?_
  cases hm:jx q.n2 with
  | true=>
   have eF:gS q t=aP 1 (t.bY.length:Int) q.n3:=by unfold gS; rw [if_pos hm]
   have eo:oB q t=q.n3:=by unfold oB; rw [if_pos hm]
   have CT:q.n2≠13:=fun h=>by rw [h] at hm; cases hm
   have eK:fZ q t=q.n4:=by unfold fZ; rw [if_neg CT]
   refine ite_true rfl (nc (H.an 0 rfl (bE b 0 3) rfl (nc (H.st 0 rfl (au b 20) (by show 20<22; omega) rfl fun w5 E=>?_))))
   have E:ak w0 [] w5 (cX b q t s q.n3 sd ys zs fp fq):=E
   have E2:=E.drew
   refine nc (E2.an 0 rfl (bE b 0 3) rfl (nc (E2.ax 0 rfl (bE b 14 2) rfl (aB (C7 _ _ _) ?_))))
   rintro _ w7 ⟨rfl,sI⟩
   subst sI
   refine bk ⟨by rw [eF,vX],q,q.n3,fun _=>⟨by rw [eK],eo.symm⟩,E2⟩
  | false=>
   refine ite_false rfl (bU (fun h=>?_) (fun h=>?_))
   ·have mO:q.n2=13:=of_decide_eq_true h
    have H2:=H.drew
    refine nc (H2.an 0 rfl (bE b 0 7) rfl (nc (H2.ax 0 rfl (bE b 14 5) rfl (aB (C7 _ _ _) ?_))))
    rintro _ w7 ⟨rfl,sI⟩
    subst sI
    refine bk ?_
    show aA (!aP 1 (s.gr.n:Int) q.n7) _ _
    rw [← J9]
    cases c1:aP 1 (t.bz.length:Int) q.n7 with
    | false=>
     refine ite_true rfl (no _ _ ?_ H2)
     unfold gS
     rw [if_neg (by rw [hm]; decide),c1,decide_eq_false (by omega)]; rfl
    | true=>
     obtain ⟨i,ei,en,hi⟩:=wH c1
     have H3:=H2.drew
     have hR3:gL _ s t:=uL H3
     have eK:fZ q t=(t.bz.getD i gz).n1:=by unfold fZ; rw [if_pos mO,en]
     refine ite_false rfl (nc (H3.ax 0 rfl (bE b 14 5) rfl (nc (H3.an 0 rfl (bE b 0 7) rfl ⟨by unfold aF; omega,?_⟩))))
     show aQ s.gr.a (q.n7 - 1) s.gr.n _
     rw [ei]
     refine ⟨⟨hR3.gr.pre (by omega),by omega,by omega⟩,_,by rw [Int.toNat_natCast]; exact gR.cell (j:=1) hR3.gr hi rfl,nc (H3.st 0 rfl (bE b 0 4) (by show 4<22; omega) rfl fun w5 E=>key w5 hm (.inr c1) ?_)⟩
     rw [eK]
     exact E
   ·have mO:¬ q.n2=13:=of_decide_eq_false h
    have eK:fZ q t=q.n4:=by unfold fZ; rw [if_neg mO]
    refine key w hm (.inl mO) ?_
    rw [eK]
    exact H
 show aA (decide (q.n2=1)) _ _
 have tv:∀ {z:Int},jx z=true→q.n2=z→go2 (decide (q.n2=z)) w:=fun hz e=>by
  rw [e] at G ⊢
  rw [hz] at G
  rw [decide_eq_true rfl]
  exact G
 refine bU (fun h=>tv rfl (of_decide_eq_true h)) fun h1=>?_
 refine bU (fun h=>tv rfl (of_decide_eq_true h)) fun h2=>?_
 have e:jx q.n2=decide (q.n2=3):=by
  unfold jx
  have h1:decide (q.n2=1)=false:=h1
  have h2:decide (q.n2=2)=false:=h2
  rw [h1,h2]; rfl
 rw [e] at G
 exact G
end Go.Proofs.YtgjoehgomjgckaaGreatDoor
end
section
set_option linter.unusedVariables false
set_option linter.unusedSimpArgs false
namespace Go.Proofs.YtgjoehgomjgckaaGreatDoor
open Go Go.Ev
set_option maxRecDepth 20000
set_option linter.unusedVariables false
def AB (l:List bO) (s t:List B8):bO:=if gp l=true then (l.find? fun g=>decide (tok s g=t)).getD gz else gz
def sJ (l:List bO) (s t:List B8):Int:=if gp l=true then (if (l.find? fun g=>decide (tok s g=t)).isSome=true then 0 else 15) else 2
theorem ale (l:List bO) (s t:List B8):Told l s t (AB l s t) (sJ l s t):=by
 unfold Told AB sJ
 cases hm:gp l with
 | false=>exact .inl ⟨rfl,rfl,rfl⟩
 | true=>
  cases hf:l.find? (fun g=>decide (tok s g=t)) with
  | none=>
   refine .inr (.inl ⟨rfl,fun j hj e=>?_,rfl,rfl⟩)
   have:=List.find?_eq_none.1 hf (l.getD j gz) (by rw [List.getD_eq_getElem?_getD,List.getElem?_eq_getElem hj]; exact List.getElem_mem hj)
   exact this (decide_eq_true e)
  | some g=>
   obtain ⟨i,hi,hg,dA⟩:=List.find?_eq_some_iff_getElem.1 hf |>.2
   have ei:l.getD i gz=g:=by rw [List.getD_eq_getElem?_getD,List.getElem?_eq_getElem hi]; exact hg
   refine .inr (.inr ⟨rfl,⟨i,hi,?_,fun j hj e=>?_,?_⟩,rfl⟩)
   ·rw [ei]; exact of_decide_eq_true (List.find?_eq_some_iff_getElem.1 hf).1
   ·have:=dA j hj
    rw [List.getD_eq_getElem?_getD,List.getElem?_eq_getElem (by omega)] at e
    simp only [Option.getD_some] at e
    rw [e] at this
    simp at this
   ·rw [ei]; rfl
theorem ZY {l:List bO} {s t:List B8} {g:bO} {c:Int} (h:Told l s t g c):g=AB l s t∧c=sJ l s t:=h.unique (ale l s t)
def jI (op:Int):Bool:=decide (op=9) || (decide (op=10) || decide (op=11))
def tD (q:bH) (lt:List B8) (t:aS) (ow:Int):Int:=
 if BL t.bY (t.aG.getD (q.n0 - 1).toNat fz).ten ow=true then 0
 else if jI q.n2=true then (if sJ t.bz t.bS lt=0 then wY (AB t.bz t.bS lt) q.n4 q.n0 q.n2 t.clock else sJ t.bz t.bS lt)
 else 10
theorem YI {w0 w:World} {S:List Nat} {b:Nat} {q:bH} {t:aS} {s:dY} {ow:Int} {sd:ah} {ys zs:List ah} {fp fq:List Nat} {M:List aD} (H:ak w0 S w (cX b q t s ow sd ys zs fp fq ++ M)) {i:Nat} (hi:i<t.aG.length) :
  t.aG[i]? = some (t.aG.getD i fz)∧(s.aG.a.isSome=true∧(0:Int)≤(i:Int)∧(i:Int)<(s.aG.n:Int))∧∃ x,ys[i]? = some x∧∀ (j:Nat) (v:Value),((t.aG.getD i fz).cs x)[j]? = some v→w.cell? (Addr.add (Addr.add (base s.aG.a) (Int.toNat (i:Int) * 5)) j)=some v:=by
 have hk:t.aG[i]? = some (t.aG.getD i fz):=by rw [List.getD_eq_getElem?_getD,List.getElem?_eq_getElem hi]; rfl
 have h:bB j8 w ys t.aG:=H.box 5 rfl
 have hr:=H.fI 4 rfl
 have hl:=hr.len
 rw [iO cB.cu _ _ h.1] at hl
 have hx:ys[i]? = some (ys[i]'(by rw [h.1]; exact hi)):=List.getElem?_eq_getElem _
 refine ⟨hk,⟨hr.pre (by omega),by omega,by omega⟩,_,hx,fun j v hv=>?_⟩
 rw [Int.toNat_natCast]
 exact hr.uO cB.cu hk hx hv
theorem acv {w0 w:World} {b:Nat} {q:bH} {t:aS} {s:dY} {ow:Int} {sd:ah} {ys zs:List ah} {fp fq:List Nat} (H:ak w0 [] w (cX b q t s ow sd ys zs fp fq)) (hs:t.small) (hw:aP 1 (t.aG.length:Int) q.n0=true) (lt:List B8) (ht:Bytes w0 q.tok lt) (zR:t.bS.length≤1000) :
  Ok Pr KP [.pointer (some ⟨b,0,none⟩)] w fun v w'=>cO w w' v (tD q lt t ow)∧Mod [] w w':=by
 refine ab9 ?_
 unfold KQ
 rw [ZX]
 have x5:=hs.ten
 have x6:=hs.aG
 have Az:=hs.gr
 have hC:tD q lt t ow=if BL t.bY (t.aG.getD (q.n0 - 1).toNat fz).ten ow=true then 0 else if jI q.n2=true then (if sJ t.bz t.bS lt=0 then wY (AB t.bz t.bS lt) q.n4 q.n0 q.n2 t.clock else sJ t.bz t.bS lt) else 10:=rfl
 generalize tD q lt t ow=C at *
 obtain ⟨i,ei,en,hi⟩:=wH hw
 rw [en] at hC
 have D:=H.drew
 obtain ⟨mN,dm,x,dB,hc⟩:=YI (M:=[]) D hi
 refine nc (D.ax 0 rfl (bE b 14 3) rfl (nc (D.an 0 rfl (bE b 0 0) rfl ⟨by unfold aF; omega,?_⟩)))
 show aQ s.aG.a (q.n0 - 1) s.aG.n _
 rw [ei]
 generalize t.aG.getD i fz=pr at *
 have D2:=D.drew
 have T4:gL _ s t:=uL D2
 refine ⟨dm,_,hc 1 _ rfl,nc (D2.ax 0 rfl (bE b 14 2) rfl (nc (D2.an 0 rfl (au b 20) rfl (aB (ad5 s.ten t.bY (by omega) pr.ten ow _ T4.ten) ?_))))⟩
 rintro _ w1 ⟨rfl,m1⟩
 have m:Mod [] w w1:=(Mod.drew [] w).trans ((Mod.drew [] _).trans m1)
 have H1:=H.frame m
 refine bk ?_
 cases ha:BL t.bY pr.ten ow with
 | true=>
  rw [ha,if_pos rfl] at hC
  rw [hC]
  exact ite_true rfl ⟨qw _ _,m⟩
 | false=>
 rw [ha,if_neg (by decide)] at hC
 refine ite_false rfl (nc (H1.an 0 rfl (bE b 0 2) rfl (jv fun jC iw=>?_)))
 have G:jC (jI q.n2) w1:=by
  refine iw _ _ ?_
  cases hu:jI q.n2 with
  | false=>
   rw [hu,if_neg (by decide)] at hC
   rw [hC]
   refine ite_false rfl (aB (AH 10 (by decide) w1) ?_)
   rintro e w2 ⟨h,m2⟩
   exact ⟨h.from m.size,m.trans m2⟩
  | true=>
   rw [hu,if_pos rfl] at hC
   have E:=H1.drew
   have Kb:gL _ s t:=uL E
   refine ite_true rfl (wM fun go bZ=>?_)
   have fin:∀ (g:Nat) (er:Value) (w3:World),Mod [] w1.drew w3→bW w3 g (AB t.bz t.bS lt).cells cR→cO w1.drew w3 er (sJ t.bz t.bS lt)→go ⟨g,0,none⟩ er w3:=by
    intro g er w3 m3 hb he
    have m':Mod [] w w3:=m.trans ((Mod.drew [] w1).trans m3)
    have F:=H.frame m'
    have hE:=he.from (Nat.le_trans m.size (Mod.drew [] w1).size)
    refine bZ _ _ _ (he.1.isNil ?_)
    by_cases h0:sJ t.bz t.bS lt=0
    case neg=>
     rw [if_neg h0] at hC
     rw [hC]
     exact ite_true (by rw [decide_eq_false h0]; rfl) ⟨hE,m'⟩
    rw [if_pos h0] at hC
    rw [hC]
    refine ite_false (by rw [decide_eq_true h0]; rfl) ?_
    have F2:=F.drew
    have j7:=hb.aE (Mod.drew [] w3)
    refine LY (fun j v hv=>by rw [au,j7.cell]; exact hv) (nc (F2.an 0 rfl (bE b 0 4) rfl (nc (F2.an 0 rfl (bE b 0 0) rfl (nc (F2.an 0 rfl (bE b 0 2) rfl (nc (F2.an 0 rfl (bE b 14 0) rfl (aB (ad7 _ _ _ _ _ _) ?_)))))))))
    rintro v w4 ⟨h4,m4⟩
    have m2:=m'.trans (Mod.drew [] w3)
    exact ⟨h4.from m2.size,m2.trans m4⟩
   refine nc (E.ax 0 rfl (bE b 14 5) rfl (nc (E.ax 0 rfl (bE b 14 1) rfl (nc (E.ax 0 rfl (bE b 0 13) rfl ⟨?_,?_⟩)))))
   ·refine aB (US t.bz s.gr s.sec q.tok t.bS lt zR (by omega) _ Kb.gr Kb.sec (ht.aE E.mod)) ?_
    rintro _ w5 ⟨g,c,er,rfl,hT,he,m5⟩
    obtain ⟨rfl,rfl⟩:=ZY hT
    have E5:=E.frame m5
    have K:=(ak.start w1.drew).gG m5 he
    refine ⟨_,rfl,UO ⟨rfl,K.gZ fun p w6 K6 m6=>⟨E5.kept m6 0 rfl (bE b 0 13) 1,E5.kept m6 0 rfl (bE b 14 1) 1,E5.kept m6 0 rfl (bE b 14 5) 1,K6.om 1 rfl rfl fun w7 K7=>fin p er w7 K7.mod (K7.av 1 rfl) ⟨K7.ok 0 _ rfl,fun b hb=>(K7.own 0 _ rfl b hb).resolve_left (by simp)⟩⟩⟩⟩
   ·refine (ak.start w1.drew).gZ fun p w8 K8 m8=>⟨E.kept m8 0 rfl (bE b 0 13) 1,E.kept m8 0 rfl (bE b 14 1) 1,E.kept m8 0 rfl (bE b 14 5) 1,aB (US t.bz s.gr s.sec q.tok t.bS lt zR (by omega) _ (Kb.gr.aE m8) (Kb.sec.aE m8) (ht.aE (E.mod.trans m8))) ?_⟩
    rintro _ w5 ⟨g,c,er,rfl,hT,he,m5⟩
    obtain ⟨rfl,rfl⟩:=ZY hT
    have K:=K8.gG m5 he
    refine ⟨_,rfl,UO ⟨rfl,K.om 0 rfl rfl fun w7 K7=>fin p er w7 K7.mod (K7.av 0 rfl) ⟨K7.ok 1 _ rfl,fun b hb=>(K7.own 1 _ rfl b hb).resolve_left (by simp)⟩⟩⟩
 show aA (decide (q.n2=9)) _ _
 have tv:∀ {z:Int},jI z=true→q.n2=z→jC (decide (q.n2=z)) w1:=fun hz e=>by
  rw [e] at G ⊢
  rw [hz] at G
  rw [decide_eq_true rfl]
  exact G
 refine bU (fun h=>tv rfl (of_decide_eq_true h)) fun h9=>?_
 refine bU (fun h=>tv rfl (of_decide_eq_true h)) fun jl=>?_
 have e:jI q.n2=decide (q.n2=11):=by
  unfold jI
  have h9:decide (q.n2=9)=false:=h9
  have jl:decide (q.n2=10)=false:=jl
  rw [h9,jl]; rfl
 rw [e] at G
 exact G
end Go.Proofs.YtgjoehgomjgckaaGreatDoor
end
section
set_option linter.unusedVariables false
set_option linter.unusedSimpArgs false
namespace Go.Ev
open Go Go.RowKit
section
variable {A:Type} {C:A→ah→List Value} {sz:Nat} {te:TypeId} {w0 w:World} {S:List Nat} {L:List aD} {s:ah} {ls:List A} {xs:List ah} {i:Nat}
theorem ak.nF (H:ak w0 S w L) (k:Nat) (hk:L[k]? = some (.row te sz s (bA C ls xs))) (hC:∀ a x,(C a x).length=sz) (hx:xs.length=ls.length) {a a':A} {x:ah} (ha:ls[i]? = some a) (dB:xs[i]? = some x) {j:Nat} (hj:j<sz) {v:Value} (hv:ek v=true) (hz:C a' x=(C a x).set j v) {K:World→Prop}
  (h:∀ w',ak w0 S w' (L.set k (.row te sz s (bA C (ls.set i a') xs)))→K w'):Ev.st (Addr.add (Addr.add (base s.a) (Int.toNat (i:Int) * sz)) j) v w K:=by
 have hi:=(List.getElem?_eq_some_iff.1 ha).1
 refine H.qz k (i:=i * sz+j) hk (by rw [add_add,Int.toNat_natCast]) ?_ hv fun w' H'=>h w' ?_
 ·rw [iO hC _ _ hx]
  have:=Nat.mul_le_mul_right sz (show i+1≤ls.length from hi)
  rw [Nat.succ_mul] at this
  omega
 ·rw [s4 hC ls xs i j a a' x x v ha dB hj hz,AX dB] at H'
  exact H'
end
end Go.Ev
namespace Go.Proofs.YtgjoehgomjgckaaGreatDoor
open Go Go.Ev
set_option maxRecDepth 20000
set_option linter.unusedVariables false
def xH (q:bH) (p:cB):cB:={ p with high:=tI p.high p.used q.n1,used:=xE p.high p.used q.n1 }
def dI (q:bH) (t:aS):cB:=t.aG.getD (q.n0 - 1).toNat fz
def gB (q:bH) (t:aS):aS:={ t with aG:=t.aG.set (q.n0 - 1).toNat (xH q (dI q t)) }
def mB (q:bH) (lt:List B8) (t:aS):Int:=
 if (fC t && oA q)=true then
  (if aP 1 (t.aG.length:Int) q.n0=true then
   (if lW (dI q t).high (dI q t).used q.n1=0 then (if gS q t=true then tD q lt t (oB q t) else 9) else 8)
  else 6)
 else 2
theorem VS {q:bH} (h:oA q=true):∀ n∈q.rest,0≤n∧n≤1099511627776:=by
 unfold oA at h
 simp only [Bool.and_eq_true] at h
 intro n hn
 have:=List.all_eq_true.1 h.2.2.2.1 n hn
 simpa [aP] using this
theorem mem_set {A:Type} {l:List A} {i:Nat} {a x:A} (h:x∈l.set i a):x∈l∨x=a:=by
 rcases List.mem_or_eq_of_mem_set h with h | h
 ·exact .inl h
 ·exact .inr h
theorem alf {q:bH} {t:aS} {i:Nat} (en:(q.n0 - 1).toNat=i) (hi:i<t.aG.length):t.aG[i]? = some (dI q t):=by
 unfold dI; rw [en,List.getD_eq_getElem?_getD,List.getElem?_eq_getElem hi]; rfl
theorem Wj {q:bH} {t:aS} (hs:t.small) (hw:aP 1 (t.aG.length:Int) q.n0=true):(gB q t).small where
 sec:=hs.sec
 ten:=hs.ten
 aG:=by show (t.aG.set _ _).length≤1000; rw [List.length_set]; exact hs.aG
 key:=hs.key
 gr:=hs.gr
 pk:=fun p hp=>by
  obtain ⟨i,_,en,hi⟩:=wH hw
  rcases mem_set hp with h | h
  ·exact hs.pk p h
  ·rw [h]; exact hs.pk (dI q t) (List.mem_of_getElem? (alf en hi))
 bq:=hs.bq
 aq:=hs.aq
 gf:=hs.gf
theorem aie (q:bH) (t:aS):gS q (gB q t)=gS q t:=by
 unfold gS
 have e1:fZ q (gB q t)=fZ q t:=rfl
 have e2:wZ q (gB q t)=wZ q t:=rfl
 have e3:(gB q t).aG.length=t.aG.length:=by show (t.aG.set _ _).length=_; rw [List.length_set]
 rw [e1,e2,e3]; rfl
theorem aif (q:bH) (lt:List B8) (t:aS) (ow:Int) (hw:aP 1 (t.aG.length:Int) q.n0=true):tD { q with n4:=fZ q t } lt (gB q t) ow=tD q lt t ow:=by
 obtain ⟨i,_,en,hi⟩:=wH hw
 have e:((gB q t).aG.getD (q.n0 - 1).toNat fz).ten=(t.aG.getD (q.n0 - 1).toNat fz).ten:=by
  show ((t.aG.set _ _).getD _ fz).ten=_
  rw [List.getD_eq_getElem?_getD,List.getElem?_set,if_pos rfl,if_pos (by omega)]; rfl
 show (if BL t.bY ((gB q t).aG.getD (q.n0 - 1).toNat fz).ten ow=true then (0:Int) else if jI q.n2=true then (if sJ t.bz t.bS lt=0 then wY (AB t.bz t.bS lt) (fZ q t) q.n0 q.n2 t.clock else sJ t.bz t.bS lt) else 10)=_
 rw [e]
 unfold tD
 cases hu:jI q.n2 with
 | false=>rfl
 | true=>
  have:fZ q t=q.n4:=by
   unfold fZ
   rw [if_neg (fun h=>by rw [h] at hu; cases hu)]
  rw [this]
def ZZ (w w':World) (v:Value) (q:bH) (lt:List B8) (t:aS) (sd:ah):Prop:=
 ∃ (pj:Option Addr) (er:Value),v=.tuple ⟨[.pointer pj,er]⟩∧cO w w' er (mB q lt t)∧Mod [] w w'∧
  (mB q lt t=0→∃ b s ys zs fp fq,pj=some ⟨b,0,none⟩∧ak w [] w' (cX b { q with n4:=fZ q t } (gB q t) s (oB q t) sd ys zs fp fq))
theorem afA (s:dY) (t:aS) (q:bH) (lt:List B8) (sd:ah) (hs:t.small) (w:World) (hx:gL w s t) (ht:Bytes w q.tok lt) :
  Ok Pr MJ [.agg ⟨t.cs s⟩,.agg ⟨q.cells⟩,.slice sd.a sd.n sd.c] w fun v w'=>ZZ w w' v q lt t sd:=by
 refine ad9 ?_
 unfold Nr
 have qT:=hx.aG.len
 have hC:mB q lt t=if (fC t && oA q)=true then (if aP 1 (t.aG.length:Int) q.n0=true then (if lW (dI q t).high (dI q t).used q.n1=0 then (if gS q t=true then tD q lt t (oB q t) else 9) else 8) else 6) else 2:=rfl
 refine (ak.start w).nw fun p w1 H _=>H.nw fun p1 w2 H _=>?_
 have H:ak w [] w2 [.av p (t.cs s) aN,.av p1 q.cells kW]:=H
 have no:∀ {w3:World} (c:Int),Mod [] w w3→c≠0→mB q lt t=c→ay Pr lC [.int .i64 c] w3 fun v w4=>ZZ w w4 (.tuple ⟨[.pointer none,v]⟩) q lt t sd:=by
  intro w3 c m hc e
  refine aB (AH c hc w3) ?_
  rintro er w4 ⟨h,m4⟩
  exact ⟨none,er,rfl,by rw [e]; exact h.from m.size,m.trans m4,fun h0=>absurd (e.symm.trans h0) hc⟩
 refine ku fun go bZ=>?_
 have go':∀ w3,Mod [] w2 w3→(fC t && oA q)=true→go w3:=by
  intro w3 m3 xB
  refine bZ w3 ?_
  rw [if_pos xB] at hC
  rw [Bool.and_eq_true] at xB
  have H3:=H.frame m3
  have D:=H3.drew
  refine D.iX 1 rfl (D.bN 0 rfl (aB (Nq s t hs _ (hx.aE D.mod)) ?_))
  rintro _ w4 ⟨s',ys,zs,fp,fq,rfl,aax⟩
  have D4:=D.join aax
  refine iN ⟨D.kept aax.mod 1 rfl rfl 14,D4.nw fun b w5 D5 _=>?_⟩
  have J:ak w [] w5 (cX b q t s' 0 sd ys zs fp fq ++ [.av p (t.cs s) aN,.av p1 q.cells kW]):=D5.dh [9,2,3,4,5,6,7,8,0,1] (by decide) rfl
  have J2:=J.drew
  refine J2.an 0 rfl (bE b 0 0) rfl (J2.ax 8 rfl (au p 3) rfl (aB (C7 _ _ _) ?_))
  rintro _ w6 ⟨rfl,hw6⟩
  subst hw6
  refine bk ?_
  show aA (!aP 1 (s.aG.n:Int) q.n0) _ _
  rw [← qT]
  cases c1:aP 1 (t.aG.length:Int) q.n0 with
  | false=>
   rw [c1,if_neg (by decide)] at hC
   exact ite_true rfl (no 6 J2.mod (by decide) hC)
  | true=>
  rw [c1,if_pos rfl] at hC
  obtain ⟨i,ei,en,hi⟩:=wH c1
  have J3:=J2.drew
  refine ite_false rfl (J3.ax 0 rfl (bE b 14 3) rfl (J3.an 0 rfl (bE b 0 0) rfl ⟨by have:=hs.aG; unfold aF; omega,?_⟩))
  show aQ s'.aG.a (q.n0 - 1) s'.aG.n _
  rw [ei]
  have J4:=J3.drew
  obtain ⟨mN,dm,x,dB,hc⟩:=YI J4 hi
  have hwp:t.aG.getD i fz=dI q t:=by unfold dI; rw [en]
  rw [hwp] at mN hc
  refine ⟨dm,_,hc 3 _ rfl,_,hc 4 _ rfl,J4.an 0 rfl (bE b 0 1) rfl (aB (ags (dI q t).high (dI q t).used q.n1 _) ?_)⟩
  rintro _ w8 ⟨er,rfl,lz,m8⟩
  have J5:=J4.frame m8
  refine ⟨_,rfl,_,rfl,_,rfl,rfl,lz.1.isNil ?_⟩
  by_cases Kc:lW (dI q t).high (dI q t).used q.n1=0
  case neg=>
   rw [if_neg Kc] at hC
   exact ite_true (by rw [decide_eq_false Kc]; rfl) (no 8 J5.mod (by decide) hC)
  rw [if_pos Kc] at hC
  refine ite_false (by rw [decide_eq_true Kc]; rfl) ?_
  have CP:ys.length=t.aG.length:=(J5.box 5 rfl:bB j8 _ ys t.aG).1
  refine J5.nF 4 rfl cB.cu CP mN dB (a':={ dI q t with high:=tI (dI q t).high (dI q t).used q.n1 }) (by omega:3<5) rfl rfl fun cJ K=>?_
  refine K.nF 4 rfl cB.cu (by rw [List.length_set]; exact CP) (a:={ dI q t with high:=tI (dI q t).high (dI q t).used q.n1 }) (a':=xH q (dI q t)) (by rw [List.getElem?_set,if_pos rfl,if_pos hi]) dB (by omega:4<5) rfl rfl fun cY K=>?_
  rw [List.set_set,List.set_set] at K
  have K:=K.Rs (Q':=fun w=>bB j8 w ys (t.aG.set i (xH q (dI q t)))) 5 rfl fun w h=>by
   have:=bB.put h (i:=i) (x:=x) (a:=xH q (dI q t)) (h.2 i x _ dB mN:j8 w x (dI q t))
   rwa [AX dB] at this
  have K:ak w [] cY (cX b q (gB q t) s' 0 sd ys zs fp fq):=by
   have K:=K.take 8
   unfold cX iT gB
   rw [en]
   exact K
  have Ka:=Wj hs c1
  have hr:=VS xB.2
  have hq4:=hr q.n4 (by simp [bH.rest])
  have hq7:=hr q.n7 (by simp [bH.rest])
  refine aB (adB K Ka ⟨by unfold aF; omega,by unfold aF; omega⟩) ?_
  rintro _ fP ⟨rfl,q',kJ,hq',K2⟩
  rw [aie] at hq' ⊢
  refine bk ?_
  cases hf:gS q t with
  | false=>
   rw [hf,if_neg (by decide)] at hC
   exact ite_true rfl (no 9 K2.mod (by decide) hC)
  | true=>
  rw [hf,if_pos rfl] at hC
  obtain ⟨rfl,rfl⟩:=hq' hf
  have zR:t.bS.length=32:=by
   have:=xB.1
   unfold fC zP at this
   simp only [Bool.and_eq_true,decide_eq_true_eq] at this
   exact this.1.2.1
  have qR:aP 1 ((gB q t).aG.length:Int) q.n0=true:=by
   show aP 1 ((t.aG.set _ _).length:Int) _=true
   rw [List.length_set]; exact c1
  refine ite_false rfl (aB (acv K2 Ka qR lt ht (by show t.bS.length≤1000; omega)) ?_)
  rintro er fQ ⟨xQ,p8⟩
  have xQ:cO fP fQ er (tD { q with n4:=fZ q t } lt (gB q t) (oB q t)):=xQ
  rw [aif q lt t _ c1] at xQ
  exact ⟨some ⟨b,0,none⟩,er,rfl,by rw [hC]; exact xQ.from K2.mod.size,K2.mod.trans p8,fun h0=>⟨b,s',ys,zs,fp,fq,rfl,K2.frame p8⟩⟩
 refine jv fun jC iw=>?_
 have no':∀ {w3:World},Mod [] w2 w3→(fC t && oA q)=false→jC true w3:=fun m e=>by
  refine iw _ _ (ite_true rfl (no 2 (H.mod.trans m) (by decide) ?_))
  rw [e,if_neg (by decide)] at hC
  exact hC
 refine H.bN 0 rfl (aB (VB s t hs _ (hx.aE H.mod)) ?_)
 rintro _ w3 ⟨rfl,m3⟩
 have H3:=H.frame m3
 refine bk (H3.iX 1 rfl ?_)
 cases e1:fC t with
 | false=>exact ite_true rfl (no' m3 (by rw [e1]; rfl))
 | true=>
 refine ite_false rfl (aB (ah8 q _) ?_)
 rintro _ w4 ⟨rfl,m4⟩
 refine bk ?_
 cases e2:oA q with
 | false=>exact no' (m3.trans m4) (by rw [e1,e2]; rfl)
 | true=>exact iw _ _ (ite_false rfl (go' _ (m3.trans m4) (by rw [e1,e2]; rfl)))
end Go.Proofs.YtgjoehgomjgckaaGreatDoor
end
section
set_option linter.unusedVariables false
set_option linter.unusedSimpArgs false
namespace Go.Proofs.YtgjoehgomjgckaaGreatDoor
open Go Go.Ev
set_option maxRecDepth 20000
set_option linter.unusedVariables false
theorem ak.xh {w0 w:World} {S:List Nat} {L:List aD} (H:ak w0 S w L):ak w0 S w (L ++ [.cut ⟨none,0,0⟩ []]):=
 H.push (Mod.refl _ _) (.inl ⟨rfl,rfl⟩) (by simp [aD.cut,ah.row])
theorem Jy {w0 w:World} {S:List Nat} {L:List aD} (H:ak w0 S w L):ak w0 S w (L ++ [.cut ⟨none,0,0⟩ [],.cut ⟨none,0,0⟩ []]):=by
 have H:=ak.xh (ak.xh H)
 rwa [List.append_assoc] at H
structure pN where
 id:Int
 gw:List B8
 ex:List B8
theorem rm:zc Pr bD=dN 0 0 ⟨none,0,0⟩ ⟨none,0,0⟩:=by kernel_rfl
def jG (w0:World) (S:List Nat) (w':World) (v:Value) (b:Nat) (T:aS) (R:pN) (C:Int):Prop:=
 ∃ (rc ri:Int) (y z:ah) (er:Value),v=.tuple ⟨[.agg ⟨dN rc ri y z⟩,er]⟩∧(C≠0→ak w0 S w' [aD.err er C])∧
  (C=0→er=.nilIface∧rc=0∧ri=R.id∧∃ q s ow sd ys zs fp fq,ak w0 S w' (cX b q T s ow sd ys zs fp fq ++ [.cut y R.gw,.cut z R.ex]))
theorem s6 {w:World} {e:Value} (h:gm w e 0):e=.nilIface:=by
 rcases h with ⟨h,_⟩ | ⟨b,s,rfl,_,hc⟩
 ·exact h
 ·exact absurd rfl hc
theorem jG.no {w0 w':World} {S:List Nat} {v:Value} {b:Nat} {T:aS} {R:pN} {C:Int} {rc ri:Int} {y z:ah} {er:Value} {L:List aD} (k:Nat) (hC:C≠0) (H:ak w0 S w' L) (hk:L[k]? = some (aD.err er C)) (hv:v=.tuple ⟨[.agg ⟨dN rc ri y z⟩,er]⟩):jG w0 S w' v b T R C:=
 ⟨rc,ri,y,z,er,hv,fun _=>H.only k hk,fun h=>absurd h hC⟩
def Cm (q:bH) (t:aS):aS:={ t with bY:=rP t.bY q.n3 q.name }
def S4 (q:bH) (t:aS):pN:=⟨E0 t.bY q.n3 q.name,[],[]⟩
theorem acM {w0 w:World} {S:List Nat} {b:Nat} {q:bH} {t:aS} {s:dY} {ow:Int} {sd:ah} {ys zs:List ah} {fp fq:List Nat} (H:ak w0 S w (cX b q t s ow sd ys zs fp fq)) (hs:t.small) :
  Ok Pr KT [.pointer (some ⟨b,0,none⟩)] w fun v w'=>jG w0 S w' v b (Cm q t) (S4 q t) (oG t.bY q.n3 q.name):=by
 refine acg ?_
 unfold K1
 rw [rm]
 have x5:=hs.ten
 refine H.nw fun p w1 H _=>?_
 have D:=H.drew
 have hR:gL _ s t:=uL (D.take 8)
 refine nc (D.ax 0 rfl (bE b 14 2) rfl (nc (D.an 0 rfl (bE b 0 3) rfl (nc (D.fW 0 rfl (bE b 0 11) rfl (aB (afx s.ten t.bY (by omega) q.n3 q.name _ hR.ten) ?_))))))
 rintro _ w2 ⟨y,er,rfl,K⟩
 have D:=D.join K
 refine ⟨_,rfl,_,rfl,_,rfl,rfl,nc (D.st 0 rfl (bE b 14 2) (by show 16<22; omega) rfl fun w3 D=>D.bF 8 rfl rfl fun w4 D=>D.cz 8 rfl ?_)⟩
 refine ⟨0,E0 t.bY q.n3 q.name,⟨none,0,0⟩,⟨none,0,0⟩,er,rfl,fun _=>D.only 10 rfl,fun h0=>?_⟩
 have he:gm w4 er (oG t.bY q.n3 q.name):=D.ok 10 _ rfl
 rw [h0] at he
 refine ⟨s6 he,rfl,rfl,q,⟨s.sec,y,s.aG,s.key,s.gr⟩,ow,sd,ys,zs,fp,fq,?_⟩
 have D:=D.dh (L':=cX b q (Cm q t) ⟨s.sec,y,s.aG,s.key,s.gr⟩ ow sd ys zs fp fq) [0,1,9,3,4,5,6,7] (by decide) rfl
 exact Jy D
end Go.Proofs.YtgjoehgomjgckaaGreatDoor
end
section
set_option linter.unusedVariables false
set_option linter.unusedSimpArgs false
namespace Go.Ev
open Go Go.RowKit
theorem ak.stB {w0:World} {S:List Nat} {k b o:Nat} {t:TypeId} {K:World→Prop}:∀ (l:List Value) {i:Nat} {vs:List Value} {L:List aD} {w:World},ak w0 S w L→L[k]? = some (.av b vs t)→o+i+l.length≤vs.length→(∀ v∈l,ek v=true)→
  (∀ w',ak w0 S w' (L.set k (.av b (ov vs (o+i) l) t))→K w')→Ev.oZ l (Addr.add ⟨b,0,none⟩ o) i w K
 | [],i,vs,L,w,H,hk,hl,h1,h=>by
  refine h w ?_
  rw [Zz,AX hk]
  exact H
 | v :: r,i,vs,L,w,H,hk,hl,h1,h=>by
  rw [List.length_cons] at hl
  refine H.st k hk (bE b o i) (by omega) (h1 v (List.mem_cons_self ..)) fun w1 H1=>?_
  have bM:k<L.length:=(List.getElem?_eq_some_iff.1 hk).1
  refine ak.stB r H1 (by rw [List.getElem?_set,if_pos rfl,if_pos bM]) (by rw [List.length_set]; omega) (fun u hu=>h1 u (List.mem_cons_of_mem _ hu)) fun w' H'=>h w' ?_
  rw [List.set_set,show o+(i+1)=o+i+1 by omega,YH _ _ _ _ (by omega)] at H'
  exact H'
end Go.Ev
namespace Go.Proofs.YtgjoehgomjgckaaGreatDoor
open Go Go.Ev
set_option maxRecDepth 20000
set_option linter.unusedVariables false
def rQ (q:bH) (lb:List B8) (t:aS):cB:=⟨(t.aG.length:Int)+1,q.n3,lb,0,0⟩
def qI (q:bH) (lb:List B8) (t:aS):aS:={ t with aG:=t.aG ++ [rQ q lb t] }
def Cn (lb:List B8) (t:aS):Int:=if lb.length=jD 1 then (if t.aG.length=6 then 12 else 0) else 3
def Jz (t:aS):pN:=⟨(t.aG.length:Int)+1,[],[]⟩
theorem pe0 (a b:Int) (c:List B8) (x:ah):(cB.mk a b c 0 0).cs x=lD a b x 0 0:=by simp [cB.cs]
theorem aj9 (a b:Int) (x:ah):∀ v∈lD a b x 0 0,ek v=true:=by
 intro u hu
 simp only [lD,List.mem_cons,List.not_mem_nil,or_false] at hu
 rcases hu with rfl | rfl | rfl | rfl | rfl <;> rfl
theorem aS.alg (t:aS) (s:dY):∀ v∈t.cs s,ek v=true:=by
 intro u hu
 simp only [aS.cs,kV,List.mem_cons,List.not_mem_nil,or_false] at hu
 rcases hu with rfl | rfl | rfl | rfl | rfl | rfl <;> rfl
theorem YJ {w0 w:World} {S:List Nat} {b:Nat} {q:bH} {t:aS} {s:dY} {ow:Int} {sd:ah} {L:List aD} (H:ak w0 S w L) (k:Nat) (hk:L[k]? = some (.av b (zQ q t s ow sd) wv)) {K:Int→ah→ah→ah→ah→ah→Prop} (h:K t.clock s.sec s.ten s.aG s.key s.gr):bN (Addr.add ⟨b,0,none⟩ 14) w K:=
 UN (fun i v hv=>H.cell k hk (bE b 14 i) (by
  match i,hv with
  | 0,hv=>exact hv
  | 1,hv=>exact hv
  | 2,hv=>exact hv
  | 3,hv=>exact hv
  | 4,hv=>exact hv
  | 5,hv=>exact hv
  | i+6,hv=>simp at hv)) h
theorem alh {w0 w:World} {S:List Nat} {b:Nat} {q:bH} {t t':aS} {s s':dY} {ow:Int} {sd:ah} {L:List aD} (H:ak w0 S w L) (k:Nat) (hk:L[k]? = some (.av b (zQ q t s ow sd) wv)) {K:World→Prop} (h:∀ w',ak w0 S w' (L.set k (.av b (zQ q t' s' ow sd) wv))→K w'):bI (Addr.add ⟨b,0,none⟩ 14) t'.clock s'.sec s'.ten s'.aG s'.key s'.gr w K:=by
 show oZ (t'.cs s') _ 0 _ _
 exact ak.stB (t'.cs s') H hk (by show 14+0+6≤22; omega) (aS.alg t' s') h
theorem acN {w0 w:World} {S:List Nat} {b:Nat} {q:bH} {t:aS} {s:dY} {ow:Int} {sd:ah} {ys zs:List ah} {fp fq:List Nat} (H:ak w0 S w (cX b q t s ow sd ys zs fp fq)) (hs:t.small) (h6:t.aG.length≤6) (lb:List B8) (hb:∀ {w'},Mod S w0 w'→Bytes w' q.gw lb) :
  Ok Pr KU [.pointer (some ⟨b,0,none⟩)] w fun v w'=>jG w0 S w' v b (qI q lb t) (Jz t) (Cn lb t):=by
 refine ach ?_
 unfold K4
 rw [rm]
 have x6:=hs.aG
 have hC:Cn lb t=if lb.length=jD 1 then (if t.aG.length=6 then 12 else 0) else 3:=rfl
 generalize Cn lb t=C at *
 have hR:=uL H
 have qT:=hR.aG.len
 have jK:=(hb H.mod).len
 refine H.nw fun p w1 H _=>aB (Vo 1 w1) ?_
 rintro _ w2 ⟨rfl,m2⟩
 have H:=H.frame m2
 have no:∀ (c:Int),c≠0→C=c→ay Pr lC [.int .i64 c] w2 fun v w3=>bF ⟨p,0,none⟩ 0 0 ⟨none,0,0⟩ ⟨none,0,0⟩ w3 fun w4=>cz ⟨p,0,none⟩ w4 fun a b1 c1 d=>jG w0 S w4 (.tuple ⟨[.agg ⟨[.int .i64 a,.int .i64 b1,.slice c1.a c1.n c1.c,.slice d.a d.n d.c]⟩,v]⟩) b (qI q lb t) (Jz t) C:=by
  intro c hc e
  refine aB (AH c hc w2) ?_
  rintro er w3 ⟨h,m3⟩
  have H:=H.gG m3 h
  refine H.bF 8 rfl rfl fun w4 H=>H.cz 8 rfl ?_
  rw [e]
  exact jG.no 9 hc H rfl rfl
 refine ⟨_,rfl,_,rfl,_,rfl,_,rfl,rfl,nc (H.ax 0 rfl (bE b 0 12) rfl ?_)⟩
 by_cases e1:lb.length=jD 1
 case neg=>
  rw [if_neg e1] at hC
  exact ite_true (by rw [decide_eq_false (by omega)]; rfl) (no 3 (by decide) hC)
 rw [if_pos e1] at hC
 refine ite_false (by rw [decide_eq_true (by omega)]; rfl) (nc (H.ax 0 rfl (bE b 14 3) rfl ?_))
 by_cases e2:t.aG.length=6
 ·rw [if_pos e2] at hC
  exact ite_true (decide_eq_true (by show (s.aG.n:Int)=6; omega)) (no 12 (by decide) hC)
 rw [if_neg e2] at hC
 subst hC
 refine ite_false (decide_eq_false (by show ¬ (s.aG.n:Int)=6; omega)) (nc (H.ax 0 rfl (bE b 14 3) rfl ⟨by show aF ((s.aG.n:Int)+1); unfold aF; omega,?_⟩))
 show lt ((s.aG.n:Int)+1) _
 rw [← qT]
 obtain ⟨n,hn⟩:∃ n:Int,n=(t.aG.length:Int)+1:=⟨_,rfl⟩
 rw [← hn]
 have D:=H.drew
 refine tu ?_
 refine nc (D.ax 0 rfl (bE b 14 3) rfl (nc (D.an 0 rfl (bE b 0 3) rfl (nc (D.ax 0 rfl (bE b 0 12) rfl (D.gZ fun p1 w7 E m7=>⟨D.kept m7 0 rfl (bE b 14 3) 1,?_⟩))))))
 have CP:ys.length=t.aG.length:=(E.box 5 rfl:bB j8 _ ys t.aG).1
 have hx:Sl w7 ⟨some ⟨p1,0,none⟩,1,1⟩ 5 (lD n q.n3 q.gw 0 0):=by
  have:=(E.av 9 rfl).sl 5 1 1 (by simp) (by omega)
  simpa [lD] using this
 have JQ:(s.aG.n+(ah.mk (some ⟨p1,0,none⟩) 1 1).n) * 56≤140737488355328:=by simp only []; omega
 have j7:s.aG.n+(ah.mk (some ⟨p1,0,none⟩) 1 1).n≤9223372036854775807:=by simp only []; omega
 refine E.app (x:=⟨some ⟨p1,0,none⟩,1,1⟩) (s:=s.aG) (vs:=bA cB.cs t.aG ys) 4 Rv rfl hx (aj9 _ _ _) JQ j7 fun y w8 E hy=>?_
 refine nc (E.st 0 rfl (bE b 14 3) (by show 17<22; omega) rfl fun w9 E=>?_)
 have hP:rQ q lb t=⟨n,q.n3,lb,0,0⟩:=by unfold rQ; rw [hn]
 have ed:bA cB.cs t.aG ys ++ lD n q.n3 q.gw 0 0=bA cB.cs (qI q lb t).aG (ys ++ [q.gw]):=by
  show _=bA cB.cs (t.aG ++ [rQ q lb t]) (ys ++ [q.gw])
  rw [Bl _ _ CP,wO,hP,pe0]
 rw [ed] at E
 have E:ak w0 S w9 [.av b (zQ q (qI q lb t) ⟨s.sec,s.ten,y,s.key,s.gr⟩ ow sd) wv,.row bh 1 s.sec (bp t.bS),.row dV 3 s.ten (iV t.bY),.row cR 6 s.gr (e8 t.bz),.row fR 5 y (bA cB.cs (qI q lb t).aG (ys ++ [q.gw])),.box fp fun w=>bB j8 w ys t.aG,.row aZ 4 s.key (bA aV.cs t.keys zs),.box fq fun w=>bB iD w zs t.keys,.av p (dN 0 0 ⟨none,0,0⟩ ⟨none,0,0⟩) bD,.av p1 (lD n q.n3 q.gw 0 0) fR]:=E
 have T4:gL w9 ⟨s.sec,s.ten,y,s.key,s.gr⟩ (qI q lb t):=⟨Own.bytes (E.qE 1 rfl),fU.of (E.fI 2 rfl),⟨ys ++ [q.gw],E.fI 4 rfl,by
  show bB xZ w9 (ys ++ [q.gw]) (t.aG ++ [rQ q lb t])
  rw [hP]
  exact bB.snoc (XC (E.box 5 rfl)) (hb E.mod)⟩,⟨zs,E.fI 6 rfl,XD (E.box 7 rfl)⟩,E.fI 3 rfl⟩
 have hv:jD 1=1312:=rfl
 have x5:(qI q lb t).small:={ hs with
  aG:=by show (t.aG ++ [_]).length≤1000; rw [List.length_append,List.length_singleton]; omega
  pk:=fun p hp=>by
   rcases List.mem_append.1 (show p∈t.aG ++ [rQ q lb t] from hp) with h | h
   ·exact hs.pk p h
   ·rw [List.mem_singleton.1 h,hP]; show lb.length≤1000000; omega }
 refine nc (YJ E 0 rfl (aB (Nq ⟨s.sec,s.ten,y,s.key,s.gr⟩ (qI q lb t) x5 _ T4) ?_))
 rintro _ cJ ⟨s',v9,we,x8,x9,rfl,K⟩
 have E:=E.join K
 refine iN (nc (alh E 0 rfl fun cY E=>E.bF 8 rfl rfl fun fP E=>E.cz 8 rfl ?_))
 refine ⟨0,n,⟨none,0,0⟩,⟨none,0,0⟩,.nilIface,rfl,fun h=>absurd rfl h,fun _=>⟨rfl,rfl,hn,q,s',ow,sd,v9,we,x8,x9,?_⟩⟩
 have E:=E.dh (L':=cX b q (qI q lb t) s' ow sd v9 we x8 x9) [0,10,11,12,13,14,15,16] (by decide) rfl
 exact Jy E
end Go.Proofs.YtgjoehgomjgckaaGreatDoor
end
section
set_option linter.unusedVariables false
set_option linter.unusedSimpArgs false
namespace Go.Proofs.YtgjoehgomjgckaaGreatDoor
open Go Go.Ev
set_option maxRecDepth 20000
set_option linter.unusedVariables false
def cK (q:bH) (aq:List B8) (t:aS):aV:=qH ((t.keys.length:Int)+1) q.n3 q.n6 aq
def Co (q:bH) (aq:List B8) (t:aS):Int:=
 if 1≤q.n6∧q.n6≤3 then (if aq.length=64 then (if t.keys.length=6 then 12 else (if mz ((t.keys.length:Int)+1) q.n3 q.n6 aq=0 then js (cK q aq t) 1 mW else mz ((t.keys.length:Int)+1) q.n3 q.n6 aq)) else 3) else 2
def rR (q:bH) (aq:List B8) (t:aS):aS:={ t with keys:=t.keys ++ [cK q aq t] }
def E7 (q:bH) (aq:List B8) (t:aS):pN:=⟨(t.keys.length:Int)+1,sG (cK q aq t) 1 mW,[]⟩
theorem aka (id ten set:Int) (aq:List B8):(qH id ten set aq).aH.length≤1:=by
 unfold qH
 split
 ·exact Nat.le_refl 1
 ·exact Nat.zero_le 1
theorem akb (k:aV) (x:ah):∀ v∈dF k.id k.ten k.set x,ek v=true:=aV.lV k x
theorem acO {w0 w:World} {S:List Nat} {b:Nat} {q:bH} {t:aS} {s:dY} {ow:Int} {sd:ah} {ys zs:List ah} {fp fq:List Nat} (H:ak w0 S w (cX b q t s ow sd ys zs fp fq)) (hs:t.small) (h6:t.keys.length≤6) (aq:List B8) (dS:aq.length≤1000000) (iL:∀ {w'},Mod S w0 w'→Bytes w' sd aq) :
  Ok Pr KV [.pointer (some ⟨b,0,none⟩)] w fun v w'=>jG w0 S w' v b (rR q aq t) (E7 q aq t) (Co q aq t):=by
 refine aci ?_
 unfold K5
 rw [rm,o5]
 have hC:Co q aq t=if 1≤q.n6∧q.n6≤3 then (if aq.length=64 then (if t.keys.length=6 then 12 else (if mz ((t.keys.length:Int)+1) q.n3 q.n6 aq=0 then js (cK q aq t) 1 mW else mz ((t.keys.length:Int)+1) q.n3 q.n6 aq)) else 3) else 2:=rfl
 generalize Co q aq t=C at *
 have hR:=uL H
 have uo:=hR.key.len
 have J0:=(iL H.mod).len
 refine H.nw fun p w1 H _=>?_
 have H:ak w0 S w1 (cX b q t s ow sd ys zs fp fq ++ [.av p (dN 0 0 ⟨none,0,0⟩ ⟨none,0,0⟩) bD]):=H
 have fin:∀ {w3:World} {L:List aD} (k:Nat) (er:Value),ak w0 S w3 ((cX b q t s ow sd ys zs fp fq ++ [.av p (dN 0 0 ⟨none,0,0⟩ ⟨none,0,0⟩) bD]) ++ L)→C≠0→((cX b q t s ow sd ys zs fp fq ++ [.av p (dN 0 0 ⟨none,0,0⟩ ⟨none,0,0⟩) bD]) ++ L)[9+k]? = some (aD.err er C)→
   bF ⟨p,0,none⟩ 0 0 ⟨none,0,0⟩ ⟨none,0,0⟩ w3 fun w4=>cz ⟨p,0,none⟩ w4 fun a b1 c1 d=>jG w0 S w4 (.tuple ⟨[.agg ⟨[.int .i64 a,.int .i64 b1,.slice c1.a c1.n c1.c,.slice d.a d.n d.c]⟩,er]⟩) b (rR q aq t) (E7 q aq t) C:=by
  intro w3 L k er H hc hk
  refine H.bF 8 rfl rfl fun w4 H=>H.cz 8 rfl ?_
  exact jG.no (9+k) hc H (by rw [List.getElem?_set,if_neg (by omega)]; exact hk) rfl
 have no:∀ {w2:World} (c:Int),ak w0 S w2 (cX b q t s ow sd ys zs fp fq ++ [.av p (dN 0 0 ⟨none,0,0⟩ ⟨none,0,0⟩) bD])→c≠0→C=c→ay Pr lC [.int .i64 c] w2 fun v w3=>bF ⟨p,0,none⟩ 0 0 ⟨none,0,0⟩ ⟨none,0,0⟩ w3 fun w4=>cz ⟨p,0,none⟩ w4 fun a b1 c1 d=>jG w0 S w4 (.tuple ⟨[.agg ⟨[.int .i64 a,.int .i64 b1,.slice c1.a c1.n c1.c,.slice d.a d.n d.c]⟩,v]⟩) b (rR q aq t) (E7 q aq t) C:=by
  intro w2 c H hc e
  refine aB (AH c hc w2) ?_
  rintro er w3 ⟨h,m3⟩
  exact fin 0 er (H.gG m3 h) (by rw [e]; exact hc) (by rw [e]; rfl)
 refine ku fun go bZ=>?_
 have go':(1≤q.n6∧q.n6≤3)→aq.length=64→t.keys.length≠6→go w1:=by
  intro c1 c2 c3
  rw [if_pos c1,if_pos c2,if_neg c3] at hC
  refine bZ w1 (nc (H.ax 0 rfl (bE b 14 4) rfl ⟨by show aF ((s.key.n:Int)+1); unfold aF; omega,?_⟩))
  show lt ((s.key.n:Int)+1) _
  rw [← uo]
  obtain ⟨n,hn⟩:∃ n:Int,n=(t.keys.length:Int)+1:=⟨_,rfl⟩
  have Ke:cK q aq t=qH n q.n3 q.n6 aq:=by unfold cK; rw [hn]
  rw [← hn] at hC ⊢
  refine tu (wM fun go2 rK=>?_)
  have D:=H.drew
  have bad:∀ (kp:Nat) (er:Value) (y:ah) (w3:World),mz n q.n3 q.n6 aq≠0→ak w0 S w3 ((cX b q t s ow sd ys zs fp fq ++ [.av p (dN 0 0 ⟨none,0,0⟩ ⟨none,0,0⟩) bD]) ++ [.av kp (dF (cK q aq t).id (cK q aq t).ten (cK q aq t).set y) aZ,aD.err er (mz n q.n3 q.n6 aq)])→go2 ⟨kp,0,none⟩ er w3:=by
   intro kp er y w3 c4 K
   have he:gm w3 er (mz n q.n3 q.n6 aq):=K.ok 10 _ rfl
   rw [if_neg c4] at hC
   refine rK _ _ _ (he.isNil ?_)
   exact ite_true (by rw [decide_eq_false c4]; rfl) (fin 1 er K (by rw [hC]; exact c4) (by rw [hC]; rfl))
  have behind:∀ (kp:Nat) (er:Value) (y:ah) (f:List Nat) (w3:World),mz n q.n3 q.n6 aq=0→er=.nilIface→ak w0 S w3 ((cX b q t s ow sd ys zs fp fq ++ [.av p (dN 0 0 ⟨none,0,0⟩ ⟨none,0,0⟩) bD]) ++ [.av kp (dF (cK q aq t).id (cK q aq t).ten (cK q aq t).set y) aZ,.box f fun w=>j3 w y (cK q aq t).aH])→go2 ⟨kp,0,none⟩ er w3:=by
   intro kp er y f w3 c4 qD K
   have he:gm w3 er 0:=.inl ⟨qD,rfl⟩
   refine rK _ _ _ (he.isNil ?_)
   rw [if_pos c4] at hC
   refine ite_false rfl ?_
   have K2:=K.drew
   refine nc (K2.ax 0 rfl (bE b 14 4) rfl (K2.bu 9 rfl (K2.gZ fun p1 w5 E m5=>⟨K2.kept m5 0 rfl (bE b 14 4) 1,?_⟩)))
   have jO:zs.length=t.keys.length:=(E.box 7 rfl:bB iD _ zs t.keys).1
   have hx:Sl w5 ⟨some ⟨p1,0,none⟩,1,1⟩ 4 (dF (cK q aq t).id (cK q aq t).ten (cK q aq t).set y):=by
    have:=(E.av 11 rfl).sl 4 1 1 (by simp) (by omega)
    simpa [dF] using this
   have JQ:(s.key.n+(ah.mk (some ⟨p1,0,none⟩) 1 1).n) * 48≤140737488355328:=by simp only []; omega
   have j7:s.key.n+(ah.mk (some ⟨p1,0,none⟩) 1 1).n≤9223372036854775807:=by simp only []; omega
   refine E.app (x:=⟨some ⟨p1,0,none⟩,1,1⟩) (s:=s.key) (vs:=bA aV.cs t.keys zs) 6 Rw rfl hx (akb _ _) JQ j7 fun u w6 E hu=>?_
   refine nc (E.st 0 rfl (bE b 14 4) (by show 18<22; omega) rfl fun w7 E=>?_)
   have ed:bA aV.cs t.keys zs ++ dF (cK q aq t).id (cK q aq t).ten (cK q aq t).set y=bA aV.cs (rR q aq t).keys (zs ++ [y]):=by
    show _=bA aV.cs (t.keys ++ [cK q aq t]) (zs ++ [y])
    rw [Bl _ _ jO,wO]; rfl
   rw [ed] at E
   have E:ak w0 S w7 [.av b (zQ q (rR q aq t) ⟨s.sec,s.ten,s.aG,u,s.gr⟩ ow sd) wv,.row bh 1 s.sec (bp t.bS),.row dV 3 s.ten (iV t.bY),.row cR 6 s.gr (e8 t.bz),.row fR 5 s.aG (bA cB.cs t.aG ys),.box fp fun w=>bB j8 w ys t.aG,.row aZ 4 u (bA aV.cs (rR q aq t).keys (zs ++ [y])),.box fq fun w=>bB iD w zs t.keys,.av p (dN 0 0 ⟨none,0,0⟩ ⟨none,0,0⟩) bD,.av kp (dF (cK q aq t).id (cK q aq t).ten (cK q aq t).set y) aZ,.box f fun w=>j3 w y (cK q aq t).aH,.av p1 (dF (cK q aq t).id (cK q aq t).ten (cK q aq t).set y) aZ]:=E
   have hv:j3 w7 y (cK q aq t).aH:=E.box 10 rfl
   have JZ:(cK q aq t).aH.length≤1:=aka _ _ _ _
   refine E.bu 9 rfl (aB (U2 (cK q aq t) y 1 (by omega) w7 hv.aH) ?_)
   rintro _ w8 ⟨z,e2,rfl,G⟩
   have E:=E.join G
   refine ⟨_,rfl,_,rfl,rfl,E.bF 8 rfl rfl fun w9 E=>E.cz 8 rfl ?_⟩
   refine ⟨0,n,z,⟨none,0,0⟩,e2,rfl,fun _=>?_,fun h0=>?_⟩
   ·rw [hC]; exact E.only 13 rfl
   ·rw [hC] at h0
    have xY:gm w9 e2 (js (cK q aq t) 1 mW):=E.ok 13 _ rfl
    rw [h0] at xY
    refine ⟨s6 xY,rfl,hn,q,⟨s.sec,s.ten,s.aG,u,s.gr⟩,ow,sd,ys,zs ++ [y],fp,fq ++ f,?_⟩
    have E:=E.merge 7 10 (t:=.box (fq ++ f) fun w=>bB iD w (zs ++ [y]) (rR q aq t).keys) rfl rfl (by omega) (fun h1 h2=>?_) (fun b hb=>List.mem_append.1 hb)
    ·have E:=E.Em 12 rfl
     have E:=ak.xh E
     exact E.dh (L':=cX b q (rR q aq t) ⟨s.sec,s.ten,s.aG,u,s.gr⟩ ow sd ys (zs ++ [y]) fp (fq ++ f) ++ [.cut z (sG (cK q aq t) 1 mW),.cut ⟨none,0,0⟩ []]) [0,1,2,3,4,5,6,7,12,14] (by decide) rfl
    ·refine ⟨fun b hb=>?_,fun w2 h3=>?_⟩
     ·rcases List.mem_append.1 hb with h | h
      ·exact h1.1 b h
      ·exact h2.1 b h
     ·exact bB.snoc (h1.2 w2 fun b hb=>h3 b (List.mem_append_left _ hb)) (h2.2 w2 fun b hb=>h3 b (List.mem_append_right _ hb))
  refine nc (D.an 0 rfl (bE b 0 3) rfl (nc (D.an 0 rfl (bE b 0 6) rfl (nc (D.ax 0 rfl (au b 21) rfl ⟨?_,?_⟩)))))
  ·refine aB (VR n q.n3 q.n6 sd aq dS _ (iL D.mod)) ?_
   rintro _ cJ ⟨y,er,rfl,hy,lz⟩
   rw [← Ke] at hy
   have eK:(qH n q.n3 q.n6 aq)=cK q aq t:=Ke.symm
   rw [eK]
   by_cases c4:mz n q.n3 q.n6 aq=0
   ·obtain ⟨f,D2⟩:=D.g9 hy
    have T5:er=.nilIface:=s6 (c4 ▸ lz.1)
    refine ⟨_,rfl,oh ⟨rfl,D2.gZ fun p2 cY E qS=>⟨D2.kept qS 0 rfl (au b 21) 1,D2.kept qS 0 rfl (bE b 0 6) 1,D2.kept qS 0 rfl (bE b 0 3) 1,E.cD 10 rfl rfl fun fP E=>behind p2 er y f fP c4 T5 ?_⟩⟩⟩
    exact E.dh [0,1,2,3,4,5,6,7,8,10,9] (by decide) rfl
   ·have D2:=D.gG hy.mod lz
    refine ⟨_,rfl,oh ⟨rfl,D2.gZ fun p2 cY E qS=>⟨D2.kept qS 0 rfl (au b 21) 1,D2.kept qS 0 rfl (bE b 0 6) 1,D2.kept qS 0 rfl (bE b 0 3) 1,E.cD 10 rfl rfl fun fP E=>bad p2 er y fP c4 ?_⟩⟩⟩
    exact E.dh [0,1,2,3,4,5,6,7,8,10,9] (by decide) rfl
  ·refine D.gZ fun p2 fE E jq=>⟨D.kept jq 0 rfl (au b 21) 1,D.kept jq 0 rfl (bE b 0 6) 1,D.kept jq 0 rfl (bE b 0 3) 1,aB (VR n q.n3 q.n6 sd aq dS _ (iL E.mod)) ?_⟩
   rintro _ cJ ⟨y,er,rfl,hy,lz⟩
   rw [← Ke] at hy
   have eK:(qH n q.n3 q.n6 aq)=cK q aq t:=Ke.symm
   rw [eK]
   by_cases c4:mz n q.n3 q.n6 aq=0
   ·obtain ⟨f,D2⟩:=E.g9 hy
    have T5:er=.nilIface:=s6 (c4 ▸ lz.1)
    exact ⟨_,rfl,oh ⟨rfl,D2.cD 9 rfl rfl fun fP E=>behind p2 er y f fP c4 T5 E⟩⟩
   ·have D2:=E.gG hy.mod lz
    exact ⟨_,rfl,oh ⟨rfl,D2.cD 9 rfl rfl fun fP E=>bad p2 er y fP c4 E⟩⟩
 refine jv fun F7 JA=>?_
 have rest:∀ (r:Bool),(r=true→¬ (1≤q.n6∧q.n6≤3))→(r=false→1≤q.n6∧q.n6≤3)→F7 r w1:=by
  intro r h1 h2
  refine JA _ _ ?_
  cases r with
  | true=>exact ite_true rfl (no 2 H (by decide) (by rw [hC,if_neg (h1 rfl)]))
  | false=>
   have c1:=h2 rfl
   rw [if_pos c1] at hC
   refine ite_false rfl (nc (H.ax 0 rfl (au b 21) rfl ?_))
   by_cases c2:aq.length=64
   case neg=>
    rw [if_neg c2] at hC
    exact ite_true (by rw [decide_eq_false (by omega)]; rfl) (no 3 H (by decide) hC)
   rw [if_pos c2] at hC
   refine ite_false (by rw [decide_eq_true (by omega)]; rfl) (nc (H.ax 0 rfl (bE b 14 4) rfl ?_))
   by_cases c3:t.keys.length=6
   ·rw [if_pos c3] at hC
    exact ite_true (decide_eq_true (by show (s.key.n:Int)=6; omega)) (no 12 H (by decide) hC)
   ·exact ite_false (decide_eq_false (by show ¬ (s.key.n:Int)=6; omega)) (go' c1 c2 c3)
 refine nc (H.an 0 rfl (bE b 0 6) rfl ?_)
 show aA (decide (q.n6<1)) _ _
 by_cases c1:q.n6<1
 ·exact ite_true (decide_eq_true c1) (rest true (fun _=>by omega) (fun h=>by cases h))
 ·refine ite_false (decide_eq_false c1) (nc (H.an 0 rfl (bE b 0 6) rfl ?_))
  show F7 (decide (3<q.n6)) w1
  by_cases c2:3<q.n6
  ·rw [decide_eq_true c2]; exact rest true (fun _=>by omega) (fun h=>by cases h)
  ·rw [decide_eq_false c2]; exact rest false (fun h=>by cases h) (fun _=>by omega)
end Go.Proofs.YtgjoehgomjgckaaGreatDoor
end
section
set_option linter.unusedVariables false
set_option linter.unusedSimpArgs false
namespace Go.Proofs.YtgjoehgomjgckaaGreatDoor
open Go Go.Ev
set_option maxRecDepth 20000
set_option linter.unusedVariables false
def cv (q:bH) (t:aS):aV:=t.keys.getD (q.n4 - 1).toNat kz
def Cq (q:bH) (aq:List B8) (t:aS):Int:=
 if q.n2=4 then (if oF (cv q t) aq.length=0 then js (iS (cv q t) aq) ((iS (cv q t) aq).aH.length:Int) mW else oF (cv q t) aq.length) else vh (cv q t) q.n2 q.n5 q.nX t.clock
def Cr (q:bH) (aq:List B8) (t:aS):aV:=if q.n2=4 then iS (cv q t) aq else pK (cv q t) q.n2 q.n5 q.nX t.clock
def zS (q:bH) (aq:List B8) (t:aS):aS:={ t with keys:=t.keys.set (q.n4 - 1).toNat (Cr q aq t) }
def E8 (q:bH) (aq:List B8) (t:aS):pN:=if q.n2=4 then ⟨((iS (cv q t) aq).aH.length:Int),sG (iS (cv q t) aq) ((iS (cv q t) aq).aH.length:Int) mW,[]⟩ else ⟨0,[],[]⟩
theorem S5 {A B:Prop} (h:B):fB .nilIface fun z=>aA (!z) A B:=h
theorem akc (k:aV) (aq:List B8):(iS k aq).aH.length≤k.aH.length+1:=by
 unfold iS
 split
 ·simp
 ·exact Nat.zero_le _
theorem acP {w0 w:World} {S:List Nat} {b:Nat} {q:bH} {t:aS} {s:dY} {ow:Int} {sd:ah} {ys zs:List ah} {fp fq:List Nat} (H:ak w0 S w (cX b q t s ow sd ys zs fp fq)) (hs:t.small) (hk:aP 1 (t.keys.length:Int) q.n4=true) (aq:List B8) (dS:aq.length≤1000000) (iL:∀ {w'},Mod S w0 w'→Bytes w' sd aq) :
  Ok Pr KW [.pointer (some ⟨b,0,none⟩)] w fun v w'=>jG w0 S w' v b (zS q aq t) (E8 q aq t) (Cq q aq t):=by
 refine acj ?_
 unfold K9
 rw [rm,o5]
 have hC:Cq q aq t=if q.n2=4 then (if oF (cv q t) aq.length=0 then js (iS (cv q t) aq) ((iS (cv q t) aq).aH.length:Int) mW else oF (cv q t) aq.length) else vh (cv q t) q.n2 q.n5 q.nX t.clock:=rfl
 have hK:Cr q aq t=if q.n2=4 then iS (cv q t) aq else pK (cv q t) q.n2 q.n5 q.nX t.clock:=rfl
 have j9:E8 q aq t=if q.n2=4 then ⟨((iS (cv q t) aq).aH.length:Int),sG (iS (cv q t) aq) ((iS (cv q t) aq).aH.length:Int) mW,[]⟩ else ⟨0,[],[]⟩:=rfl
 obtain ⟨i,ei,en,hi⟩:=wH hk
 have hT:zS q aq t={ t with keys:=t.keys.set i (Cr q aq t) }:=by unfold zS; rw [en]
 have yh:cv q t=t.keys.getD i kz:=by unfold cv; rw [en]
 have bM:=wT hs hi
 rw [← yh] at bM
 have vY:=hs.key
 generalize Cq q aq t=C at *
 generalize Cr q aq t=k' at *
 generalize E8 q aq t=R at *
 generalize zS q aq t=T at *
 refine H.nw fun p w1 H _=>?_
 have D:=H.drew
 obtain ⟨mN,dm,x,dB,yl⟩:=Rz (M:=[_]) D hi
 refine nc (D.ax 0 rfl (bE b 14 4) rfl (nc (D.an 0 rfl (bE b 0 4) rfl ⟨by unfold aF; omega,?_⟩)))
 show aQ s.key.a (q.n4 - 1) s.key.n _
 rw [ei]
 rw [← yh] at mN yl
 refine ⟨dm,D.gZ fun p1 w2 E m2=>qn (fun j v h=>m2.o8 (yl j v h)) (E.nw fun p2 w3 E _=>E.cD 10 rfl rfl fun w4 E=>?_)⟩
 have E:ak w0 S w4 (cX b q t s ow sd ys zs fp fq ++ [.av p (dN 0 0 ⟨none,0,0⟩ ⟨none,0,0⟩) bD,.av p1 (dN 0 0 ⟨none,0,0⟩ ⟨none,0,0⟩) bD,.av p2 (dF (cv q t).id (cv q t).ten (cv q t).set x) aZ]):=E
 have cell:∀ {w':World} {M:List aD},ak w0 S w' (cX b q t s ow sd ys zs fp fq ++ M)→∀ (j:Nat) (v:Value),((cv q t).cs x)[j]? = some v→w'.cell? (Addr.add (Addr.add (base s.key.a) (Int.toNat (i:Int) * 4)) j)=some v:=fun G j v hv=>by
  rw [Int.toNat_natCast]
  exact (G.fI 6 rfl).uO aV.cu mN dB hv
 have bq:∀ {w':World} {M:List aD},ak w0 S w' (cX b q t s ow sd ys zs fp fq ++ M)→fY w' x (cv q t).aH:=fun G=>(RS G dB mN).aH
 refine jv fun go bZ=>?_
 have bad:∀ (er:Value) (w5:World) (L:List aD),C≠0→ak w0 S w5 (cX b q t s ow sd ys zs fp fq ++ ([.av p (dN 0 0 ⟨none,0,0⟩ ⟨none,0,0⟩) bD,aD.err er C] ++ L))→go er w5:=by
  intro er w5 L hc K
  have he:gm w5 er C:=K.ok 9 _ rfl
  refine bZ _ _ (he.isNil (ite_true (by rw [decide_eq_false hc]; rfl) (K.bF 8 rfl rfl fun w6 K=>K.cz 8 rfl ?_)))
  exact jG.no 9 hc K rfl rfl
 have aJ:∀ (ri:Int) (y u:ah) (f:List Nat) (l:List B8) (w5:World),C=0→ak w0 S w5 (cX b q t s ow sd ys zs fp fq ++ [.av p (dN 0 0 ⟨none,0,0⟩ ⟨none,0,0⟩) bD,.av p1 (dN 0 ri y ⟨none,0,0⟩) bD,.av p2 (dF k'.id k'.ten k'.set u) aZ,.box f fun w=>j3 w u k'.aH,.cut y l])→R=⟨ri,l,[]⟩→go .nilIface w5:=by
  intro ri y u f l w5 hc K hr
  refine bZ _ _ ?_
  refine S5 (K.bu 10 rfl ?_)
  have jO:zs.length=t.keys.length:=(K.box 7 rfl:bB iD _ zs t.keys).1
  show oZ (k'.cs u) _ 0 _ _
  refine K.putAt 6 rfl aV.cu jO hi k' u (aV.lV k' u) fun w7 K=>K.cz 9 rfl (K.bF 8 rfl rfl fun w8 K=>K.cz 8 rfl ?_)
  refine ⟨0,ri,y,⟨none,0,0⟩,.nilIface,rfl,fun h=>absurd hc h,fun _=>⟨rfl,rfl,by rw [hr],q,s,ow,sd,ys,zs.set i u,fp,fq ++ f,?_⟩⟩
  rw [hT,hr]
  have K:=K.merge 7 11 (t:=.box (fq ++ f) fun w=>bB iD w (zs.set i u) (t.keys.set i k')) rfl rfl (by omega) (fun h1 h2=>?_) (fun b hb=>List.mem_append.1 hb)
  ·have K:=ak.xh K
   exact K.dh (L':=cX b q { t with keys:=t.keys.set i k' } s ow sd ys (zs.set i u) fp (fq ++ f) ++ [.cut y l,.cut ⟨none,0,0⟩ []]) [0,1,2,3,4,5,6,7,12,13] (by decide) rfl
  ·refine ⟨fun b hb=>?_,fun w2 h3=>?_⟩
   ·rcases List.mem_append.1 hb with h | h
    ·exact h1.1 b h
    ·exact h2.1 b h
   ·exact bB.put (h1.2 w2 fun b hb=>h3 b (List.mem_append_left _ hb)) (h2.2 w2 fun b hb=>h3 b (List.mem_append_right _ hb))
 refine nc (E.an 0 rfl (bE b 0 2) rfl ?_)
 show aA (decide (q.n2=4)) _ _
 have E2:=E.drew
 by_cases c4:q.n2=4
 ·rw [if_pos c4] at hC hK j9
  refine ite_true (decide_eq_true c4) (qn (cell E2) (nc (E2.ax 0 rfl (au b 21) rfl (aB (afw (cv q t) x sd aq (by omega) _ (bq E2) (iL E2.mod)) ?_))))
  rintro _ w9 ⟨u,er,rfl,hu,lz⟩
  by_cases e1:oF (cv q t) aq.length=0
  case neg=>
   rw [if_neg e1] at hC
   have G:=E2.gG hu.mod lz
   refine ⟨_,rfl,oh ⟨rfl,G.cD 10 rfl rfl fun cJ G=>?_⟩⟩
   have he:gm cJ er (oF (cv q t) aq.length):=G.ok 11 _ rfl
   refine he.isNil (ite_true (by rw [decide_eq_false e1]; rfl) (G.cz 9 rfl (G.bF 8 rfl rfl fun cY G=>G.cz 8 rfl ?_)))
   rw [hC]
   exact jG.no 11 e1 G rfl rfl
  rw [if_pos e1] at hC
  have qD:er=.nilIface:=s6 (e1 ▸ lz.1)
  subst qD
  obtain ⟨f,G⟩:=E2.g9 hu
  rw [← hK] at hC j9 G ⊢
  refine ⟨_,rfl,oh ⟨rfl,G.cD 10 rfl rfl fun cJ G=>S5 ?_⟩⟩
  have hvu:j3 cJ u k'.aH:=G.box 11 rfl
  have mD:=hvu.aH.len
  have arA:k'.aH.length≤1001:=by rw [hK]; have:=akc (cv q t) aq; omega
  refine G.ax 10 rfl (au p2 3) rfl (G.st 9 rfl (au p1 1) (by show 1<4; omega) rfl fun fP G=>G.bu 10 rfl (G.an 9 rfl (au p1 1) rfl ?_))
  refine aB (U2 k' u (u.n:Int) (by omega) fP (j3.aH (G.box 11 rfl))) ?_
  rw [← mD] at *
  rintro _ fE ⟨y,e2,rfl,Y⟩
  have G:=G.join Y
  refine ⟨_,rfl,_,rfl,rfl,G.st 9 rfl (au p1 2) (by show 2<4; omega) rfl fun fQ G=>?_⟩
  by_cases e3:C=0
  ·have xY:gm fQ e2 (js k' (k'.aH.length:Int) mW):=G.ok 13 _ rfl
   rw [← hC,e3] at xY
   have tP:=s6 xY
   subst tP
   have G:=G.Em 12 rfl
   exact aJ (k'.aH.length:Int) y u f (sG k' (k'.aH.length:Int) mW) fQ e3 (G.dh [0,1,2,3,4,5,6,7,8,9,10,11,12] (by decide) rfl) j9
  ·refine bad e2 fQ [] e3 (G.dh [0,1,2,3,4,5,6,7,8,13] (by decide) ?_)
   rw [hC]; rfl
 ·rw [if_neg c4] at hC hK j9
  refine ite_false (decide_eq_false c4) (qn (cell E2) (nc (E2.an 0 rfl (bE b 0 2) rfl (nc (E2.an 0 rfl (bE b 0 5) rfl (nc (E2.an 0 rfl (bE b 0 10) rfl (nc (E2.an 0 rfl (bE b 14 0) rfl (aB (ahB (cv q t) x q.n2 q.n5 q.nX t.clock (by omega) _ (bq E2)) ?_))))))))))
  rintro _ w9 ⟨u,er,rfl,hu,lz⟩
  rw [← hC] at lz
  rw [← hK] at hu ⊢
  by_cases e1:C=0
  ·have qD:er=.nilIface:=s6 (e1 ▸ lz.1)
   subst qD
   obtain ⟨f,G⟩:=E2.g9 hu
   refine ⟨_,rfl,oh ⟨rfl,G.cD 10 rfl rfl fun cJ G=>?_⟩⟩
   exact aJ 0 ⟨none,0,0⟩ u f [] cJ e1 (ak.xh G) j9
  ·have G:=E2.gG hu.mod lz
   refine ⟨_,rfl,oh ⟨rfl,G.cD 10 rfl rfl fun cJ G=>?_⟩⟩
   exact bad er cJ [] e1 (G.dh [0,1,2,3,4,5,6,7,8,11] (by decide) rfl)
end Go.Proofs.YtgjoehgomjgckaaGreatDoor
end
section
set_option linter.unusedVariables false
set_option linter.unusedSimpArgs false
namespace Go.Proofs.YtgjoehgomjgckaaGreatDoor
open Go Go.Ev
set_option maxRecDepth 20000
set_option linter.unusedVariables false
def nJ (l s:List B8) (i:Nat):List B8:=(List.range s.length).map fun j=>if j<i then s.getD j 0 ^^^ l.getD j 0 else s.getD j 0
theorem yY (l s:List B8) (i:Nat):(nJ l s i).length=s.length:=by simp [nJ]
theorem It (l s:List B8) (i j:Nat) (hj:j<s.length):(nJ l s i)[j]? = some (if j<i then s.getD j 0 ^^^ l.getD j 0 else s.getD j 0):=by
 unfold nJ
 rw [List.getElem?_map,List.getElem?_range hj]; rfl
theorem WT (l s:List B8):nJ l s 0=s:=by
 refine List.ext_getElem? fun j=>?_
 rcases Nat.lt_or_ge j s.length with h | h
 ·rw [It l s 0 j h,if_neg (by omega),List.getD_eq_getElem?_getD,List.getElem?_eq_getElem h]; rfl
 ·rw [List.getElem?_eq_none (by rw [yY]; exact h),List.getElem?_eq_none h]
theorem ai5 (l s:List B8) (i:Nat) (hi:i<s.length):(nJ l s i).set i (s.getD i 0 ^^^ l.getD i 0)=nJ l s (i+1):=by
 refine List.ext_getElem? fun j=>?_
 rw [List.getElem?_set]
 rcases Nat.lt_or_ge j s.length with h | h
 ·rw [It l s (i+1) j h]
  by_cases e:i=j
  ·subst e
   rw [if_pos rfl,if_pos (by rw [yY]; exact hi),if_pos (by omega)]
  ·rw [if_neg e,It l s i j h]
   by_cases h2:j<i
   ·rw [if_pos h2,if_pos (by omega)]
   ·rw [if_neg h2,if_neg (by omega)]
 ·rw [if_neg (by omega),List.getElem?_eq_none (by rw [yY]; exact h),List.getElem?_eq_none (by rw [yY]; exact h)]
theorem amd {k:aV} {bq:Int} {c:List B8} (h:oC k bq c=0):(oL k bq c).length=32:=by
 unfold oL
 rw [if_pos h]
 unfold oC at h
 split at h
 ·unfold uk
  rw [if_pos h]
  split
  ·have hg:(p9 k.set (vV k bq j5) c).length=64:=by unfold p9; exact sV 72 6 _ 64 (by omega)
   rw [List.length_take,hg]; rfl
  ·exact sV 136 31 _ 32 (by omega)
 ·omega
theorem ali {k:aV} {m:List B8} (h:kS k m=0):(sH k m).length=32:=by
 unfold sH
 rw [if_pos h]
 unfold kS at h
 split at h
 ·cases hc:kF k with
  | none=>rw [hc] at h; cases h
  | some v=>
   rw [hc] at h
   unfold xS
   rw [if_pos (show oQ k.set (jr k.set ((some v).getD vz).aq) m=0 from h),List.length_take,Yw]; rfl
 ·cases h
def F8 (q:bH) (lb aq:List B8) (t:aS):Int:=
 if q.n2=9 then kS (cv q t) aq else (if oC (cv q t) q.n5 lb=0 then (if q.n2=10 then 0 else kS (cv q t) aq) else oC (cv q t) q.n5 lb)
def F9 (q:bH) (lb aq:List B8) (t:aS):pN:=
 if q.n2=9 then ⟨vW (cv q t) aq,jL (cv q t) aq,sH (cv q t) aq⟩ else if q.n2=10 then ⟨0,oL (cv q t) q.n5 lb,[]⟩
 else ⟨vW (cv q t) aq,jL (cv q t) aq,nJ (oL (cv q t) q.n5 lb) (sH (cv q t) aq) 32⟩
theorem _root_.Go.Ev.ak.anK {w0 w:World} {S:List Nat} {L:List aD} (H:ak w0 S w L) (k:Nat) {y:ah} {l:List B8} (hk:L[k]? = some (.cut y l)) {i:Nat} (hi:i<l.length) (x:B8) {K:World→Prop}
  (h:∀ w',ak w0 S w' (L.set k (.cut y (l.set i x)))→K w'):Ev.st (Addr.add (base y.a) (Int.toNat (i:Int) * 1)) (.int .u8 (x.toNat:Int)) w K:=by
 rcases H.ok k _ hk with ⟨rfl,rfl⟩ | ⟨g,cur,t,h1,h2,h3,h4,h5,h6⟩
 ·simp at hi
 ·have JZ:i<cur.length:=by
   have:=congrArg List.length h6
   rw [List.length_take,yH] at this
   omega
  rw [h1]
  show Ev.st (Addr.add ⟨g,0,none⟩ _) _ w K
  rw [Int.toNat_natCast,Nat.mul_one,au]
  refine RE h2 JZ rfl fun w' h7 h8 _=>h w' (H.iM k hk h8 (fun c hc=>.inl (by simp [aD.cut,ah.row,h1]; simpa using hc)) (.inr ⟨g,cur.set i (.int .u8 (x.toNat:Int)),t,h1,h7,by rw [List.length_set]; exact h3,h4,⟨h5.1,h5.2.1,by rw [List.length_set]; exact h5.2.2⟩,?_⟩) (fun b hb=>.inl hb))
  rw [List.take_set,h6]
  show (bp l).set i (.int .u8 (x.toNat:Int))=_
  rw [akN]
theorem aec {w0 w:World} {S:List Nat} {b:Nat} {q:bH} {t:aS} {s:dY} {ow:Int} {sd:ah} {ys zs:List ah} {fp fq:List Nat} (H:ak w0 S w (cX b q t s ow sd ys zs fp fq)) (hs:t.small) (hu:jI q.n2=true) (hk:aP 1 (t.keys.length:Int) q.n4=true) (lb aq:List B8) (hb:∀ {w'},Mod S w0 w'→Bytes w' q.gw lb) (iL:∀ {w'},Mod S w0 w'→Bytes w' sd aq) :
  Ok Pr LL [.pointer (some ⟨b,0,none⟩)] w fun v w'=>jG w0 S w' v b t (F9 q lb aq t) (F8 q lb aq t):=by
 refine adh ?_
 unfold Mj
 rw [rm,o5]
 have hC:F8 q lb aq t=if q.n2=9 then kS (cv q t) aq else (if oC (cv q t) q.n5 lb=0 then (if q.n2=10 then 0 else kS (cv q t) aq) else oC (cv q t) q.n5 lb):=rfl
 have j9:F9 q lb aq t=if q.n2=9 then ⟨vW (cv q t) aq,jL (cv q t) aq,sH (cv q t) aq⟩ else if q.n2=10 then ⟨0,oL (cv q t) q.n5 lb,[]⟩ else ⟨vW (cv q t) aq,jL (cv q t) aq,nJ (oL (cv q t) q.n5 lb) (sH (cv q t) aq) 32⟩:=rfl
 obtain ⟨i,ei,en,hi⟩:=wH hk
 have yh:cv q t=t.keys.getD i kz:=by unfold cv; rw [en]
 have bM:=wT hs hi
 rw [← yh] at bM
 have vY:=hs.key
 generalize F8 q lb aq t=C at *
 generalize F9 q lb aq t=R at *
 refine H.nw fun p w1 H _=>?_
 have D:=H.drew
 obtain ⟨mN,dm,x,dB,yl⟩:=Rz (M:=[_]) D hi
 refine nc (D.ax 0 rfl (bE b 14 4) rfl (nc (D.an 0 rfl (bE b 0 4) rfl ⟨by unfold aF; omega,?_⟩)))
 show aQ s.key.a (q.n4 - 1) s.key.n _
 rw [ei]
 rw [← yh] at mN yl
 refine ⟨dm,qn yl (D.gZ fun p1 w2 E m2=>⟨yT m2 (yl 0 _ rfl),D.kept m2 0 rfl (bE b 0 4) 1,D.kept m2 0 rfl (bE b 14 4) 1,E.cD 9 rfl rfl fun w3 E=>E.nw fun p2 w4 E _=>?_⟩)⟩
 have E:ak w0 S w4 (cX b q t s ow sd ys zs fp fq ++ [.av p (dN 0 0 ⟨none,0,0⟩ ⟨none,0,0⟩) bD,.av p1 (dF (cv q t).id (cv q t).ten (cv q t).set x) aZ,.av p2 (dN 0 0 ⟨none,0,0⟩ ⟨none,0,0⟩) bD]):=E
 have bq:∀ {w':World} {M:List aD},ak w0 S w' (cX b q t s ow sd ys zs fp fq ++ M)→fY w' x (cv q t).aH:=fun G=>(RS G dB mN).aH
 generalize TB:cv q t=k at *
 refine jv fun go bZ=>?_
 have loop:∀ (old y z:ah) (n:Int) (l lL lS:List B8) (w5:World),C=0→l.length≤32→l.length≤lS.length→R=⟨n,lL,nJ l lS l.length⟩→ak w0 S w5 (cX b q t s ow sd ys zs fp fq ++ [.av p (dN 0 0 ⟨none,0,0⟩ ⟨none,0,0⟩) bD,.av p2 (dN 0 n y z) bD,.cut old l,.cut y lL,.cut z lS])→go old w5:=by
  intro old y z n l lL lS w5 hc kG TL hr K
  refine bZ _ _ ?_
  have hol:l.length=old.n:=(Cut.bytes (K.ok 10 _ rfl)).len
  refine dw 0 l.length (fun i w'=>ak w0 S w' (cX b q t s ow sd ys zs fp fq ++ [.av p (dN 0 0 ⟨none,0,0⟩ ⟨none,0,0⟩) bD,.av p2 (dN 0 n y z) bD,.cut old l,.cut y lL,.cut z (nJ l lS i)])) rfl (by omega) (by rw [WT]; exact K) ?_ ?_
  ·intro again i w6 _ hi K aM
   have h1:Bytes w6 old l:=Cut.bytes (K.ok 10 _ rfl)
   have h2:Bytes w6 z (nJ l lS i):=Cut.bytes (K.ok 12 _ rfl)
   have vX:=h2.len
   rw [yY] at vX
   have I8:z.a.isSome=true∧(0:Int)≤(i:Int)∧(i:Int)<(z.n:Int):=⟨h2.pre (by omega),by omega,by omega⟩
   have hg:(nJ l lS i).getD i 0=lS.getD i 0:=by
    rw [List.getD_eq_getElem?_getD,It l lS i i (by omega),if_neg (by omega)]; rfl
   refine ite_true (decide_eq_true (by omega)) (h1.ld hi (K.ax 9 rfl (au p2 3) rfl (h2.ld (by rw [yY]; omega) ⟨I8,?_⟩)))
   rw [hg,anV]
   refine K.anK 12 rfl (by rw [yY]; omega) _ fun w7 K=>⟨⟨by omega,by omega⟩,aM w7 ?_⟩
   rw [ai5 l lS i (by omega)] at K
   exact K
  ·intro again w6 K
   refine ite_false (decide_eq_false (by omega)) (K.cz 9 rfl (K.bF 8 rfl rfl fun w8 K=>K.cz 8 rfl ?_))
   refine ⟨0,n,y,z,.nilIface,rfl,fun h=>absurd hc h,fun _=>⟨rfl,rfl,by rw [hr],q,s,ow,sd,ys,zs,fp,fq,?_⟩⟩
   rw [hr]
   exact K.dh [0,1,2,3,4,5,6,7,11,12] (by decide) rfl
 refine nc (E.an 0 rfl (bE b 0 2) rfl (jv fun jC iw=>?_))
 have Z0:∀ (old:ah) (l:List B8) (w9:World),C=kS k aq→(kS k aq=0→l.length≤32∧R=⟨vW k aq,jL k aq,nJ l (sH k aq) l.length⟩)→ak w0 S w9 (cX b q t s ow sd ys zs fp fq ++ [.av p (dN 0 0 ⟨none,0,0⟩ ⟨none,0,0⟩) bD,.av p1 (dF k.id k.ten k.set x) aZ,.av p2 (dN 0 0 ⟨none,0,0⟩ ⟨none,0,0⟩) bD,.cut old l])→jC old w9:=by
  intro old l w9 hc hr K
  refine iw _ _ ?_
  have K:=K.drew
  refine K.bu 9 rfl (nc (K.ax 0 rfl (au b 21) rfl (aB (agZ k x sd aq (by omega) _ (bq K) (iL K.mod)) ?_)))
  rintro _ cJ ⟨y,z,er,rfl,G⟩
  have K:=K.join G
  refine ⟨_,rfl,_,rfl,_,rfl,_,rfl,rfl,K.st 10 rfl (au p2 1) (by show 1<4; omega) rfl fun cY K=>K.st 10 rfl (au p2 2) (by show 2<4; omega) rfl fun fP K=>K.st 10 rfl (au p2 3) (by show 3<4; omega) rfl fun fE K=>?_⟩
  have he:gm fE er (kS k aq):=K.ok 14 _ rfl
  refine he.isNil ?_
  by_cases e1:kS k aq=0
  ·obtain ⟨hl,hr⟩:=hr e1
   rw [e1] at hc
   have K:=K.Em 12 rfl
   refine ite_false (by rw [decide_eq_true e1]; rfl) (loop old y z (vW k aq) l (jL k aq) (sH k aq) fE hc hl (by rw [ali e1]; exact hl) hr ?_)
   exact K.dh [0,1,2,3,4,5,6,7,8,10,11,12,13] (by decide) rfl
  ·refine ite_true (by rw [decide_eq_false e1]; rfl) (K.bF 8 rfl rfl fun fQ K=>K.cz 8 rfl ?_)
   rw [hc]
   exact jG.no 14 e1 K rfl rfl
 refine ku fun go2 rK=>?_
 have op:q.n2≠9→go2 w4:=by
  intro h9
  rw [if_neg h9] at hC j9
  have K:=E.drew
  refine rK w4 (K.bu 9 rfl (nc (K.an 0 rfl (bE b 0 5) rfl (nc (K.ax 0 rfl (bE b 0 12) rfl (aB (ag0 k x q.gw q.n5 lb (by omega) _ (bq K) (hb K.mod)) ?_))))))
  rintro _ l8 ⟨y,er,rfl,G⟩
  have K:=K.join G
  have he:gm l8 er (oC k q.n5 lb):=K.ok 12 _ rfl
  refine ⟨_,rfl,_,rfl,rfl,he.isNil ?_⟩
  by_cases e1:oC k q.n5 lb=0
  case neg=>
   rw [if_neg e1] at hC
   refine ite_true (by rw [decide_eq_false e1]; rfl) (K.cz 10 rfl (K.bF 8 rfl rfl fun xR K=>K.cz 8 rfl ?_))
   rw [hC]
   exact jG.no 12 e1 K rfl rfl
  rw [if_pos e1] at hC
  have hl:=amd e1
  refine ite_false (by rw [decide_eq_true e1]; rfl) (nc (K.an 0 rfl (bE b 0 2) rfl ?_))
  show aA (decide (q.n2=10)) _ _
  by_cases jl:q.n2=10
  ·rw [if_pos jl] at hC j9
   refine ite_true (decide_eq_true jl) (K.bF 8 rfl rfl fun kH K=>K.cz 8 rfl ?_)
   refine ⟨0,0,y,⟨none,0,0⟩,.nilIface,rfl,fun h=>absurd hC h,fun _=>⟨rfl,rfl,by rw [j9],q,s,ow,sd,ys,zs,fp,fq,?_⟩⟩
   rw [j9]
   have K:=ak.xh K
   exact K.dh [0,1,2,3,4,5,6,7,11,13] (by decide) rfl
  ·rw [if_neg jl] at hC j9
   refine ite_false (decide_eq_false jl) (Z0 y (oL k q.n5 lb) l8 hC (fun _=>⟨by omega,by rw [j9,hl]⟩) (K.take 12))
 have no9:q.n2=9→jC ⟨none,0,0⟩ w4:=by
  intro h9
  rw [if_pos h9] at hC j9
  exact Z0 ⟨none,0,0⟩ [] w4 hC (fun _=>⟨by simp,by rw [j9]; show _=pN.mk _ _ (nJ [] _ 0); rw [WT]⟩) (ak.xh E)
 show aA (decide (q.n2=11)) (aA (decide (q.n2=11)) _ _) (aA (decide (q.n2=10)) _ _)
 by_cases xJ:q.n2=11
 ·exact ite_true (decide_eq_true xJ) (ite_true (decide_eq_true xJ) (op (by omega)))
 ·refine ite_false (decide_eq_false xJ) ?_
  by_cases jl:q.n2=10
  ·exact ite_true (decide_eq_true jl) (op (by omega))
  ·refine ite_false (decide_eq_false jl) (no9 ?_)
   unfold jI at hu
   rw [decide_eq_false xJ,decide_eq_false jl,Bool.or_false,Bool.or_false] at hu
   exact of_decide_eq_true hu
end Go.Proofs.YtgjoehgomjgckaaGreatDoor
end
section
set_option linter.unusedVariables false
set_option linter.unusedSimpArgs false
namespace Go.Proofs.YtgjoehgomjgckaaGreatDoor
open Go Go.Ev
set_option maxRecDepth 20000
set_option linter.unusedVariables false
def iW (q:bH):bO:=⟨0,q.n4,q.n8,q.n9,q.nX,false⟩
def Cs (q:bH) (t:aS):Int:=if q.n2=13 then oI t.bz q.n7 else if q.nX≤t.clock then 2 else oH t.bz (iW q)
def xI (q:bH) (t:aS):aS:={ t with bz:=if q.n2=13 then lX t.bz q.n7 else k6 t.bz (iW q) }
def E9 (q:bH) (t:aS):pN:=if q.n2=13 then ⟨0,[],[]⟩ else ⟨vl t.bz (iW q),tok t.bS (nI t.bz (iW q)),[]⟩
theorem adi {w0 w:World} {S:List Nat} {b:Nat} {q:bH} {t:aS} {s:dY} {ow:Int} {sd:ah} {ys zs:List ah} {fp fq:List Nat} (H:ak w0 S w (cX b q t s ow sd ys zs fp fq)) (hs:t.small) (zR:t.bS.length≤1000) :
  Ok Pr Ll [.pointer (some ⟨b,0,none⟩)] w fun v w'=>jG w0 S w' v b (xI q t) (E9 q t) (Cs q t):=by
 refine acu ?_
 unfold Lu
 rw [rm]
 have Az:=hs.gr
 have hC:Cs q t=if q.n2=13 then oI t.bz q.n7 else if q.nX≤t.clock then 2 else oH t.bz (iW q):=rfl
 have hT:xI q t={ t with bz:=if q.n2=13 then lX t.bz q.n7 else k6 t.bz (iW q) }:=rfl
 have j9:E9 q t=if q.n2=13 then ⟨0,[],[]⟩ else ⟨vl t.bz (iW q),tok t.bS (nI t.bz (iW q)),[]⟩:=rfl
 generalize Cs q t=C at *
 generalize xI q t=T at *
 generalize E9 q t=R at *
 refine H.nw fun p w1 H _=>?_
 have D:=H.drew
 refine nc (H.an 0 rfl (bE b 0 2) rfl ?_)
 show aA (decide (q.n2=13)) _ _
 by_cases mO:q.n2=13
 ·rw [if_pos mO] at hC hT j9
  have hR:gL _ s t:=uL (D.take 8)
  refine ite_true (decide_eq_true mO) (nc (D.ax 0 rfl (bE b 14 5) rfl (nc (D.an 0 rfl (bE b 0 7) rfl (aB (ad6 s.gr t.bz q.n7 (by omega) _ hR.gr) ?_)))))
  rintro _ w2 ⟨y,er,rfl,hy,he,hn,m⟩
  have K:=D.SJ m hy he hn
  refine ⟨_,rfl,_,rfl,rfl,nc (K.st 0 rfl (bE b 14 5) (by show 19<22; omega) rfl fun w3 K=>K.bF 8 rfl rfl fun w4 K=>K.cz 8 rfl ?_)⟩
  refine ⟨0,0,⟨none,0,0⟩,⟨none,0,0⟩,er,rfl,fun _=>by rw [hC]; exact K.only 10 rfl,fun h0=>?_⟩
  have he:gm w4 er (oI t.bz q.n7):=K.ok 10 _ rfl
  rw [hC] at h0
  rw [h0] at he
  refine ⟨s6 he,rfl,by rw [j9],q,⟨s.sec,s.ten,s.aG,s.key,y⟩,ow,sd,ys,zs,fp,fq,?_⟩
  rw [hT,j9]
  exact Jy (K.dh (L':=cX b q { t with bz:=lX t.bz q.n7 } ⟨s.sec,s.ten,s.aG,s.key,y⟩ ow sd ys zs fp fq) [0,1,2,9,4,5,6,7] (by decide) rfl)
 ·rw [if_neg mO] at hC hT j9
  refine ite_false (decide_eq_false mO) (nc (D.an 0 rfl (bE b 0 10) rfl (nc (D.an 0 rfl (bE b 14 0) rfl ?_))))
  show aA (decide (q.nX≤t.clock)) _ _
  by_cases hu:q.nX≤t.clock
  ·rw [if_pos hu] at hC
   refine ite_true (decide_eq_true hu) (aB (AH 2 (by decide) _) ?_)
   rintro er w3 ⟨h,m3⟩
   have K:=D.gG m3 h
   refine K.bF 8 rfl rfl fun w4 K=>K.cz 8 rfl ?_
   rw [hC]
   exact jG.no 9 (by decide) K rfl rfl
  rw [if_neg hu] at hC
  have D2:=D.drew
  have hR:gL _ s t:=uL (D2.take 8)
  refine ite_false (decide_eq_false hu) (nc (D2.ax 0 rfl (bE b 14 5) rfl (nc (D2.an 0 rfl (bE b 0 4) rfl (nc (D2.an 0 rfl (bE b 0 8) rfl (nc (D2.an 0 rfl (bE b 0 9) rfl (nc (D2.an 0 rfl (bE b 0 10) rfl (aB (agt s.gr t.bz (iW q) (by omega) _ hR.gr) ?_)))))))))))
  rintro _ w7 ⟨y,er,rfl,hy,he,hn,m⟩
  have K:=D2.SJ m hy he hn
  refine ⟨_,rfl,_,rfl,_,rfl,rfl,he.1.isNil ?_⟩
  by_cases e1:oH t.bz (iW q)=0
  case neg=>
   refine ite_true (by rw [decide_eq_false e1]; rfl) (K.bF 8 rfl rfl fun w8 K=>K.cz 8 rfl ?_)
   rw [hC]
   exact jG.no 10 e1 K rfl rfl
  have eL:k6 t.bz (iW q)=t.bz ++ [nI t.bz (iW q)]:=by unfold k6; rw [if_pos e1]
  have eN:vl t.bz (iW q)=(t.bz.length:Int)+1:=by unfold vl; rw [if_pos e1]
  have qD:er=.nilIface:=s6 (e1 ▸ he.1)
  rw [e1] at hC
  refine ite_false (by rw [decide_eq_true e1]; rfl) (nc (K.st 0 rfl (bE b 14 5) (by show 19<22; omega) rfl fun w9 K=>?_))
  have K:=K.drew
  have hg:gR _ y (t.bz ++ [nI t.bz (iW q)]):=eL ▸ K.fI 9 rfl
  refine nc (K.ax 0 rfl (bE b 14 1) rfl ⟨by rw [eN]; unfold aF; omega,?_⟩)
  rw [eN,Int.add_sub_cancel]
  have jn:(t.bz ++ [nI t.bz (iW q)]).getD t.bz.length gz=nI t.bz (iW q):=by
   rw [List.getD_eq_getElem?_getD,List.getElem?_append_right (Nat.le_refl _),Nat.sub_self]; rfl
  refine hg.ld (i:=t.bz.length) (by simp) rfl ?_
  rw [jn]
  refine aB (UR s.sec t.bS (nI t.bz (iW q)) zR _ (Own.bytes (K.qE 1 rfl))) ?_
  rintro _ cJ ⟨z,rfl,hz,FZ⟩
  have K:=K.cF FZ hz
  refine bV (K.bF 8 rfl rfl fun cY K=>K.cz 8 rfl ?_)
  refine ⟨0,(t.bz.length:Int)+1,z,⟨none,0,0⟩,.nilIface,rfl,fun h=>absurd hC h,fun _=>⟨rfl,rfl,by rw [j9,eN],q,⟨s.sec,s.ten,s.aG,s.key,y⟩,ow,sd,ys,zs,fp,fq,?_⟩⟩
  rw [hT,j9]
  have K:=ak.xh (K.Em 11 rfl)
  exact K.dh (L':=cX b q { t with bz:=k6 t.bz (iW q) } ⟨s.sec,s.ten,s.aG,s.key,y⟩ ow sd ys zs fp fq ++ [.cut z (tok t.bS (nI t.bz (iW q))),.cut ⟨none,0,0⟩ []]) [0,1,2,9,4,5,6,7,11,12] (by decide) rfl
def qk (q:bH) (lb aq:List B8) (t:aS):Int:=
 if q.n2=1 then oG t.bY q.n3 q.name else if q.n2=2 then Cn lb t else if q.n2=3 then Co q aq t else if jI q.n2=true then F8 q lb aq t
 else if q.n2=12∨q.n2=13 then Cs q t else Cq q aq t
def mh (q:bH) (lb aq:List B8) (t:aS):aS:=
 if q.n2=1 then Cm q t else if q.n2=2 then qI q lb t else if q.n2=3 then rR q aq t else if jI q.n2=true then t
 else if q.n2=12∨q.n2=13 then xI q t else zS q aq t
def Gh (q:bH) (lb aq:List B8) (t:aS):pN:=
 if q.n2=1 then S4 q t else if q.n2=2 then Jz t else if q.n2=3 then E7 q aq t else if jI q.n2=true then F9 q lb aq t
 else if q.n2=12∨q.n2=13 then E9 q t else E8 q aq t
structure Fit (q:bH) (t:aS):Prop where
 small:t.small
 aG:t.aG.length≤6
 key:t.keys.length≤6
 sec:t.bS.length=32
 the:jx q.n2=false→aP 1 (t.keys.length:Int) q.n4=true
theorem _root_.Go.Ev.ak.sub {w0 w:World} {S:List Nat} {L M:List aD} (H:ak w0 S w (L ++ M)):ak w (L.flatMap (·.fp)) w L:=by
 have e:∀ {k:Nat} {r:aD},L[k]? = some r→(L ++ M)[k]? = some r:=fun {k r} h=>by
  rw [List.getElem?_append_left (List.getElem?_eq_some_iff.1 h).1]; exact h
 exact ⟨Mod.refl _ _,fun k r h=>H.ok k r (e h),fun k r h b hb=>.inl (List.mem_flatMap.2 ⟨r,List.mem_of_getElem? h,hb⟩),fun j k r s k9 h1 h2=>H.apart j k r s k9 (e h1) (e h2)⟩
theorem _root_.Go.Ev.ak.JB {w0 w:World} {S:List Nat} {L M:List aD} (H:ak w0 S w (L ++ M)):∀ b∈L.flatMap (·.fp),b∈S∨w0.heap.size≤b:=fun b hb=>by
 obtain ⟨r,hr,hb⟩:=List.mem_flatMap.1 hb
 obtain ⟨k,hk⟩:=List.getElem?_of_mem hr
 exact H.own k r (by rw [List.getElem?_append_left (List.getElem?_eq_some_iff.1 hk).1]; exact hk) b hb
theorem _root_.Go.Ev.ak.back {w0 w w':World} {S:List Nat} {L M L':List aD} (H:ak w0 S w (L ++ M)) (K:ak w (L.flatMap (·.fp)) w' L'):ak w0 S w' (L' ++ M):=by
 have hL:∀ b∈L.flatMap (·.fp),(b∈S∨w0.heap.size≤b)∧∃ (k:Nat) (r:aD),L[k]? = some r∧b∈r.fp:=fun b hb=>by
  obtain ⟨r,hr,hb⟩:=List.mem_flatMap.1 hb
  obtain ⟨k,hk⟩:=List.getElem?_of_mem hr
  have oO:(L ++ M)[k]? = some r:=by rw [List.getElem?_append_left (List.getElem?_eq_some_iff.1 hk).1]; exact hk
  exact ⟨H.own k r oO b hb,k,r,hk,hb⟩
 have em:∀ {k:Nat} {r:aD},M[k]? = some r→(L ++ M)[L.length+k]? = some r:=fun {k r} h=>by
  rw [List.getElem?_append_right (Nat.le_add_right _ _),Nat.add_sub_cancel_left]; exact h
 have hM:∀ {k:Nat} {r:aD},M[k]? = some r→∀ b∈r.fp,b<w.heap.size∧b∉L.flatMap (·.fp):=fun {k r} h b hb=>by
  refine ⟨r.lt w (H.ok _ r (em h)) b hb,fun h2=>?_⟩
  obtain ⟨_,i,s,hi,hs⟩:=hL b h2
  have J8:=(List.getElem?_eq_some_iff.1 hi).1
  exact H.apart i (L.length+k) s r (by omega) (by rw [List.getElem?_append_left J8]; exact hi) (em h) b hs hb
 have e:∀ {k:Nat} {r:aD},(L' ++ M)[k]? = some r→(L'[k]? = some r∧k<L'.length)∨(L'.length≤k∧M[k - L'.length]? = some r):=fun {k r} h=>by
  rcases Nat.lt_or_ge k L'.length with hk | hk
  ·rw [List.getElem?_append_left hk] at h; exact .inl ⟨h,hk⟩
  ·rw [List.getElem?_append_right hk] at h; exact .inr ⟨hk,h⟩
 have x:∀ {j k:Nat} {r s:aD},L'[j]? = some r→M[k]? = some s→∀ b∈r.fp,b∉s.fp:=fun {j k r s} h1 h2 b h3 h4=>by
  obtain ⟨h5,h6⟩:=hM h2 b h4
  rcases K.own j r h1 b h3 with h | h
  ·exact h6 h
  ·omega
 refine ⟨H.mod.trans' K.mod fun b hb=>(hL b hb).1,fun k r h=>?_,fun k r h b hb=>?_,fun j k r s k9 h1 h2 b hb j7=>?_⟩
 ·rcases e h with ⟨h,_⟩ | ⟨_,h⟩
  ·exact K.ok k r h
  ·exact r.kD w w' (fun b hb=>K.mod.block b (hM h b hb).1 (hM h b hb).2) (H.ok _ r (em h))
 ·rcases e h with ⟨h,_⟩ | ⟨_,h⟩
  ·rcases K.own k r h b hb with h3 | h3
   ·exact (hL b h3).1
   ·exact .inr (Nat.le_trans H.mod.size h3)
  ·exact H.own _ r (em h) b hb
 ·rcases e h1 with ⟨g1,l1⟩ | ⟨l1,g1⟩
  ·rcases e h2 with ⟨g2,_⟩ | ⟨_,g2⟩
   ·exact K.apart j k r s k9 g1 g2 b hb j7
   ·exact x g1 g2 b hb j7
  ·rcases e h2 with ⟨g2,_⟩ | ⟨l2,g2⟩
   ·exact x g2 g1 b j7 hb
   ·exact H.apart _ _ r s (by omega) (em g1) (em g2) b hb j7
theorem aeQ {w0 w:World} {S:List Nat} {b:Nat} {q:bH} {t:aS} {s:dY} {ow:Int} {sd:ah} {ys zs:List ah} {fp fq:List Nat} (H:ak w0 S w (cX b q t s ow sd ys zs fp fq)) (hf:Fit q t) (lb aq:List B8) (hb:∀ {w'},Mod S w0 w'→Bytes w' q.gw lb) (dS:aq.length≤1000000) (iL:∀ {w'},Mod S w0 w'→Bytes w' sd aq) :
  Ok Pr Mm [.pointer (some ⟨b,0,none⟩)] w fun v w'=>jG w0 S w' v b (mh q lb aq t) (Gh q lb aq t) (qk q lb aq t):=by
 refine adA ?_
 unfold MI
 rw [rm]
 have hC:qk q lb aq t=if q.n2=1 then oG t.bY q.n3 q.name else if q.n2=2 then Cn lb t else if q.n2=3 then Co q aq t else if jI q.n2=true then F8 q lb aq t else if q.n2=12∨q.n2=13 then Cs q t else Cq q aq t:=rfl
 have hT:mh q lb aq t=if q.n2=1 then Cm q t else if q.n2=2 then qI q lb t else if q.n2=3 then rR q aq t else if jI q.n2=true then t else if q.n2=12∨q.n2=13 then xI q t else zS q aq t:=rfl
 have hR:Gh q lb aq t=if q.n2=1 then S4 q t else if q.n2=2 then Jz t else if q.n2=3 then E7 q aq t else if jI q.n2=true then F9 q lb aq t else if q.n2=12∨q.n2=13 then E9 q t else E8 q aq t:=rfl
 generalize qk q lb aq t=C at *
 generalize mh q lb aq t=T at *
 generalize Gh q lb aq t=R at *
 refine H.nw fun p w1 H _=>?_
 have H:ak w0 S w1 (cX b q t s ow sd ys zs fp fq ++ [.av p (dN 0 0 ⟨none,0,0⟩ ⟨none,0,0⟩) bD]):=H
 have j7:∀ {w'},Mod ((cX b q t s ow sd ys zs fp fq).flatMap (·.fp)) w1 w'→Bytes w' q.gw lb:=fun {w'} m=>hb (H.mod.trans' m H.JB)
 have S6:∀ {w'},Mod ((cX b q t s ow sd ys zs fp fq).flatMap (·.fp)) w1 w'→Bytes w' sd aq:=fun {w'} m=>iL (H.mod.trans' m H.JB)
 have D:=H.sub
 have fin:∀ {f:FuncId} (T':aS) (R':pN) (C':Int),Ok Pr f [.pointer (some ⟨b,0,none⟩)] w1 (fun v w'=>jG w1 ((cX b q t s ow sd ys zs fp fq).flatMap (·.fp)) w' v b T' R' C')→T'=T→R'=R→C'=C→
   ay Pr f [.pointer (some ⟨b,0,none⟩)] w1 fun v w3=>br.bC v fun vs=>aC vs fun T6 r=>fF T6 fun a1 a2 a3 a4=>aC r fun T7 T8=>(T8=[]∧bF ⟨p,0,none⟩ a1 a2 a3 a4 w3 fun w4=>cz ⟨p,0,none⟩ w4 fun c1 c2 c3 c4=>jG w0 S w4 (.tuple ⟨[.agg ⟨[.int .i64 c1,.int .i64 c2,.slice c3.a c3.n c3.c,.slice c4.a c4.n c4.c]⟩,T7]⟩) b T R C):=by
  intro f T' R' C' h e1 e2 e3
  subst e1 e2 e3
  refine aB h ?_
  rintro _ w3 ⟨rc,ri,y,z,er,rfl,h1,h2⟩
  refine ⟨_,rfl,nZ ⟨rfl,?_⟩⟩
  by_cases hc:C'=0
  ·obtain ⟨rfl,rfl,rfl,q',s',kJ,T9,v9,we,x8,x9,K⟩:=h2 hc
   have K:=H.back K
   refine K.bF 10 rfl rfl fun w4 K=>K.cz 10 rfl ?_
   exact ⟨0,R'.id,y,z,.nilIface,rfl,fun h=>absurd hc h,fun _=>⟨rfl,rfl,rfl,q',s',kJ,T9,v9,we,x8,x9,K.take 10⟩⟩
  ·have K:=H.back (h1 hc)
   refine K.bF 1 rfl rfl fun w4 K=>K.cz 1 rfl ?_
   exact jG.no 0 hc K rfl rfl
 refine ku fun go bZ=>nc (H.an 0 rfl (bE b 0 2) rfl ?_)
 show aA (decide (q.n2=1)) _ _
 by_cases e1:q.n2=1
 ·rw [if_pos e1] at hC hT hR
  exact ite_true (decide_eq_true e1) (fin _ _ _ (acM D hf.small) hT.symm hR.symm hC.symm)
 rw [if_neg e1] at hC hT hR
 refine ite_false (decide_eq_false e1) ?_
 by_cases e2:q.n2=2
 ·rw [if_pos e2] at hC hT hR
  exact ite_true (decide_eq_true e2) (fin _ _ _ (acN D hf.small hf.aG lb j7) hT.symm hR.symm hC.symm)
 rw [if_neg e2] at hC hT hR
 refine ite_false (decide_eq_false e2) ?_
 by_cases e3:q.n2=3
 ·rw [if_pos e3] at hC hT hR
  exact ite_true (decide_eq_true e3) (fin _ _ _ (acO D hf.small hf.key aq dS S6) hT.symm hR.symm hC.symm)
 rw [if_neg e3] at hC hT hR
 have hm:jx q.n2=false:=by
  unfold jx
  rw [decide_eq_false e1,decide_eq_false e2,decide_eq_false e3]; rfl
 have hk:=hf.the hm
 have zR:t.bS.length≤1000:=by have:=hf.sec; omega
 refine ite_false (decide_eq_false e3) (jv fun go2 rK=>?_)
 have G:go2 (jI q.n2) w1:=by
  refine rK _ _ ?_
  cases hu:jI q.n2 with
  | true=>
   rw [hu,if_pos rfl] at hC hT hR
   exact ite_true rfl (fin _ _ _ (aec D hf.small hu hk lb aq j7 S6) hT.symm hR.symm hC.symm)
  | false=>
   rw [hu,if_neg (by decide)] at hC hT hR
   refine ite_false rfl (jv fun F7 JA=>?_)
   have g1:q.n2=12∨q.n2=13→F7 true w1:=fun h=>by
    rw [if_pos h] at hC hT hR
    exact JA _ _ (ite_true rfl (fin _ _ _ (adi D hf.small zR) hT.symm hR.symm hC.symm))
   have g2:¬ (q.n2=12∨q.n2=13)→F7 false w1:=fun h=>by
    rw [if_neg h] at hC hT hR
    exact JA _ _ (ite_false rfl (bZ _ (fin _ _ _ (acP D hf.small hk aq dS S6) hT.symm hR.symm hC.symm)))
   by_cases jA:q.n2=12
   ·refine ite_true (decide_eq_true jA) ?_
    rw [decide_eq_true jA]
    exact g1 (.inl jA)
   ·refine ite_false (decide_eq_false jA) ?_
    by_cases mO:q.n2=13
    ·rw [decide_eq_true mO]; exact g1 (.inr mO)
    ·rw [decide_eq_false mO]; exact g2 (fun h=>h.elim jA mO)
 have tv:∀ {z:Int},jI z=true→q.n2=z→go2 (decide (q.n2=z)) w1:=fun hz e=>by
  rw [e] at G ⊢
  rw [hz] at G
  rw [decide_eq_true rfl]
  exact G
 refine bU (fun h=>tv rfl (of_decide_eq_true h)) fun h9=>?_
 refine bU (fun h=>tv rfl (of_decide_eq_true h)) fun jl=>?_
 have e:jI q.n2=decide (q.n2=11):=by
  unfold jI
  have h9:decide (q.n2=9)=false:=h9
  have jl:decide (q.n2=10)=false:=jl
  rw [h9,jl]; rfl
 rw [e] at G
 exact G
end Go.Proofs.YtgjoehgomjgckaaGreatDoor
end
section
set_option linter.unusedVariables false
set_option linter.unusedSimpArgs false
namespace Go.Proofs.YtgjoehgomjgckaaGreatDoor
open Go Go.Ev
set_option maxRecDepth 20000
set_option linter.unusedVariables false
def qK (q:bH) (t:aS):bH:={ q with n4:=fZ q t }
def dC (q:bH) (lb lt aq:List B8) (t:aS):Int:=if mB q lt t=0 then qk (qK q t) lb aq (gB q t) else mB q lt t
def dT (q:bH) (lb lt aq:List B8) (t:aS):aS:=if dC q lb lt aq t=0 then mh (qK q t) lb aq (gB q t) else fV
def dR (q:bH) (lb lt aq:List B8) (t:aS):pN:=if dC q lb lt aq t=0 then Gh (qK q t) lb aq (gB q t) else ⟨0,[],[]⟩
theorem aih {t:aS} (h:fC t=true):t.clock≤1099511627776∧0≤t.clock∧t.bS.length=32∧1≤t.bY.length∧gJ t.bY=true∧(1≤t.aG.length∧t.aG.length≤6)∧t.keys.length≤6∧gp t.bz=true:=by
 unfold fC zP aP at h
 simp only [Bool.and_eq_true,decide_eq_true_eq] at h
 obtain ⟨⟨h1,h2,h3,h4,h5,h6,h7⟩,_⟩:=h
 exact ⟨h1.2,h1.1,h2,h3,h4,⟨by omega,by omega⟩,h6,h7⟩
theorem Ik {q:bH} {lt:List B8} {t:aS} (h:mB q lt t=0):fC t=true∧oA q=true∧aP 1 (t.aG.length:Int) q.n0=true∧lW (dI q t).high (dI q t).used q.n1=0∧gS q t=true∧tD q lt t (oB q t)=0:=by
 unfold mB at h
 split at h
 ·rename_i h1
  rw [Bool.and_eq_true] at h1
  split at h
  ·rename_i h2
   split at h
   ·rename_i h3
    split at h
    ·rename_i h4
     exact ⟨h1.1,h1.2,h2,h3,h4,h⟩
    ·omega
   ·omega
  ·omega
 ·omega
theorem XE {q:bH} {lt:List B8} {t:aS} (hs:t.small) (h:mB q lt t=0):Fit (qK q t) (gB q t):=by
 obtain ⟨h1,_,h2,_,h4,_⟩:=Ik h
 have hp:=aih h1
 exact ⟨Wj hs h2,by show (t.aG.set _ _).length≤6; rw [List.length_set]; exact hp.2.2.2.2.2.1.2,hp.2.2.2.2.2.2.1,hp.2.2.1,fun hm=>by
  have hm:jx q.n2=false:=hm
  unfold gS at h4
  rw [if_neg (by rw [hm]; decide),Bool.and_eq_true,Bool.and_eq_true] at h4
  exact h4.2.1⟩
theorem ag5 (e:Value) (c:Int) (hc:c≠0) (w:World) (hg:Laid w) (h:gm w e c):Ok Pr DC [e] w fun v w'=>v=.int .i64 c∧Mod [] w w':=by
 rcases h with ⟨_,h⟩ | ⟨b,s,rfl,hb,_⟩
 ·exact absurd h hc
 ·exact VL b c w hg (by rw [hb.cell]; rfl)
def Ans (w w':World) (v:Value) (T:aS) (c:Int) (R:pN):Prop:=
 ∃ s ys zs fp fq y z er,v=.tuple ⟨[.agg ⟨T.cs s⟩,.agg ⟨dN c R.id y z⟩,er]⟩∧ak w [] w' (iT s T ys zs fp fq ++ [.cut y R.gw,.cut z R.ex,aD.err er c])
theorem fS {w w':World} {b:Nat} {cs:List Value} {t:TypeId} (h:bW w b cs t) (h':bW w' b cs t) (n:Nat):kept ⟨b,0,none⟩ n w w':=fun j _=>by rw [au,h.cell,h'.cell]
theorem ak.ZB {w0 w:World} {S:List Nat} {L:List aD} (H:ak w0 S w L):ak w0 S w (L ++ [aD.err .nilIface 0]):=
 H.push (Mod.refl _ _) (.inl ⟨rfl,rfl⟩) (fun b hb=>by cases hb)
theorem ux (s:dY) (t:aS) (q:bH) (lb lt:List B8) (sd:ah) (aq:List B8) (hs:t.small) (dS:aq.length≤1000000) (w:World) (hg:Laid w) (hx:gL w s t) (hb:Bytes w q.gw lb) (ht:Bytes w q.tok lt) (iL:Bytes w sd aq) :
  Ok Pr gy [.agg ⟨t.cs s⟩,.agg ⟨q.cells⟩,.slice sd.a sd.n sd.c] w fun v w'=>Ans w w' v (dT q lb lt aq t) (dC q lb lt aq t) (dR q lb lt aq t):=by
 refine agx ?_
 unfold Qt
 rw [uH,rm]
 have hC:dC q lb lt aq t=if mB q lt t=0 then qk (qK q t) lb aq (gB q t) else mB q lt t:=rfl
 have hT:dT q lb lt aq t=if dC q lb lt aq t=0 then mh (qK q t) lb aq (gB q t) else fV:=rfl
 have hR:dR q lb lt aq t=if dC q lb lt aq t=0 then Gh (qK q t) lb aq (gB q t) else ⟨0,[],[]⟩:=rfl
 generalize dC q lb lt aq t=C at *
 generalize dT q lb lt aq t=T at *
 generalize dR q lb lt aq t=R at *
 refine (ak.start w).nw fun p w1 H _=>H.nw fun p1 w2 H _=>H.nw fun p2 w3 H _=>H.nw fun p3 w4 H _=>?_
 have H:ak w [] w4 [.av p (t.cs s) aN,.av p1 q.cells kW,.av p2 (fV.cs sZ) aN,.av p3 (dN 0 0 ⟨none,0,0⟩ ⟨none,0,0⟩) bD]:=H
 refine H.bN 0 rfl (H.iX 1 rfl (aB (afA s t q lt sd hs _ (hx.aE H.mod) (ht.aE H.mod)) ?_))
 rintro _ w5 ⟨pj,er,rfl,lz,m5,aot⟩
 refine ⟨_,rfl,pj,rfl,rfl,?_⟩
 refine qv fun p4 w6 hb4 hk4 m6 _=>?_
 refine jv fun go bZ=>?_
 have fail:∀ {w7:World} (e:Value),C≠0→ak w [] w7 [.av p2 (fV.cs sZ) aN,.av p3 (dN 0 0 ⟨none,0,0⟩ ⟨none,0,0⟩) bD,aD.err e C]→go e w7:=by
  intro w7 e hc K
  rw [if_neg hc] at hT hR
  subst hT hR
  have he:gm w7 e C:=K.ok 2 _ rfl
  refine bZ _ _ (he.isNil (ite_true (by rw [decide_eq_false hc]; rfl) (aB (ag5 e C hc w7 (hg.lU K (by simp)) he) ?_)))
  rintro _ w8 ⟨rfl,m8⟩
  have K:=K.frame m8
  refine ⟨_,rfl,K.bI 0 rfl rfl fun w9 K=>K.bF 1 rfl rfl fun cJ K=>K.bN 0 rfl (K.cz 1 rfl ?_)⟩
  refine ⟨sZ,[],[],[],[],⟨none,0,0⟩,⟨none,0,0⟩,e,rfl,?_⟩
  exact (Jy (Rf K)).dh (L':=iT sZ fV [] [] [] [] ++ [.cut ⟨none,0,0⟩ [],.cut ⟨none,0,0⟩ [],aD.err e C]) [3,4,5,6,7,8,9,10,11,2] (by decide) rfl
 refine lz.1.isNil ?_
 by_cases h0:mB q lt t=0
 case neg=>
  rw [if_neg h0] at hC
  refine ite_false (decide_eq_false h0) ?_
  have K:=(H.gG m5 lz).frame m6
  exact fail er (by rw [hC]; exact h0) (K.dh [2,3,4] (by decide) (by rw [hC]; rfl))
 rw [if_pos h0] at hC
 have qD:er=.nilIface:=s6 (h0 ▸ lz.1)
 subst qD
 obtain ⟨b,s',ys,zs,fp,fq,rfl,J⟩:=aot h0
 have K:=((H.join J).frame (Mod.refl [] _)).push (r:=.av p4 (dN 0 0 ⟨none,0,0⟩ ⟨none,0,0⟩) bD) m6 hk4 (by simp [aD.av,hb4])
 have K:ak w [] w6 (cX b (qK q t) (gB q t) s' (oB q t) sd ys zs fp fq ++ [.av p2 (fV.cs sZ) aN,.av p3 (dN 0 0 ⟨none,0,0⟩ ⟨none,0,0⟩) bD,.av p4 (dN 0 0 ⟨none,0,0⟩ ⟨none,0,0⟩) bD]):=K.dh [4,5,6,7,8,9,10,11,2,3,12] (by decide) rfl
 refine ite_true (decide_eq_true h0) (aB (aeQ K.sub (XE hs h0) lb aq (fun m=>hb.aE (K.mod.trans' m K.JB)) dS (fun m=>iL.aE (K.mod.trans' m K.JB))) ?_)
 rintro _ fE ⟨rc,ri,y,z,er,rfl,h1,h2⟩
 refine ⟨_,rfl,nZ ⟨rfl,?_⟩⟩
 rw [← hC] at h1 h2
 by_cases hc:C=0
 ·obtain ⟨rfl,rfl,rfl,q',s2,kJ,T9,v9,we,x8,x9,G⟩:=h2 hc
  rw [if_pos hc] at hT hR
  rw [← hT,← hR] at G
  rw [← hR]
  have G:=K.back G
  have G:ak w [] fE [.av b (zQ q' T s2 kJ T9) wv,.row bh 1 s2.sec (bp T.bS),.row dV 3 s2.ten (iV T.bY),.row cR 6 s2.gr (e8 T.bz),.row fR 5 s2.aG (bA cB.cs T.aG v9),.box x8 fun w=>bB j8 w v9 T.aG,.row aZ 4 s2.key (bA aV.cs T.keys we),.box x9 fun w=>bB iD w we T.keys,.cut y R.gw,.cut z R.ex,.av p2 (fV.cs sZ) aN,.av p3 (dN 0 0 ⟨none,0,0⟩ ⟨none,0,0⟩) bD,.av p4 (dN 0 0 ⟨none,0,0⟩ ⟨none,0,0⟩) bD]:=G
  refine G.bF 12 rfl rfl fun fQ G=>bZ _ _ (S5 ?_)
  have G:=G.drew
  refine YJ G 0 rfl (G.cz 12 rfl (G.bI 10 rfl rfl fun jT E=>⟨fS (G.av 12 rfl) (E.av 12 rfl) 4,E.bF 11 rfl rfl fun l8 E=>E.bN 10 rfl (E.cz 11 rfl ?_)⟩))
  refine ⟨s2,v9,we,x8,x9,y,z,.nilIface,by rw [hc]; rfl,?_⟩
  rw [hc]
  exact (ak.ZB E).dh (L':=iT s2 T v9 we x8 x9 ++ [.cut y R.gw,.cut z R.ex,aD.err .nilIface 0]) [1,2,3,4,5,6,7,8,9,13] (by decide) rfl
 ·have G:=K.back (h1 hc)
  refine G.bF 3 rfl rfl fun fQ G=>fail er hc (G.dh [1,2,0] (by decide) rfl)
end Go.Proofs.YtgjoehgomjgckaaGreatDoor
end
section
set_option linter.unusedVariables false
set_option linter.unusedSimpArgs false
namespace Go.Proofs.YtgjoehgomjgckaaGreatDoor
open Go Go.Ev
set_option maxRecDepth 20000
set_option linter.unusedVariables false
def oR (l:List aV) (c:Int) (i:Nat):List aV:=(List.range l.length).map fun j=>if j<i then vU (l.getD j kz) c else l.getD j kz
def AD (l:List aV) (c:Int):Nat→Nat
 | 0=>0
 | i+1=>AD l c i+xX (l.getD i kz) c
theorem zh (l:List aV) (c:Int) (i:Nat):(oR l c i).length=l.length:=by simp [oR]
theorem IJ (l:List aV) (c:Int) (i j:Nat) (hj:j<l.length):(oR l c i)[j]? = some (if j<i then vU (l.getD j kz) c else l.getD j kz):=by
 unfold oR
 rw [List.getElem?_map,List.getElem?_range hj]; rfl
theorem akd (l:List aV) (c:Int):oR l c 0=l:=by
 refine List.ext_getElem? fun j=>?_
 rcases Nat.lt_or_ge j l.length with h | h
 ·rw [IJ l c 0 j h,if_neg (by omega),List.getD_eq_getElem?_getD,List.getElem?_eq_getElem h]; rfl
 ·rw [List.getElem?_eq_none (by rw [zh]; exact h),List.getElem?_eq_none h]
theorem XF (l:List aV) (c:Int) (i:Nat) (hi:i<l.length):(oR l c i).set i (vU (l.getD i kz) c)=oR l c (i+1):=by
 refine List.ext_getElem? fun j=>?_
 rw [List.getElem?_set]
 rcases Nat.lt_or_ge j l.length with h | h
 ·rw [IJ l c (i+1) j h]
  by_cases e:i=j
  ·subst e
   rw [if_pos rfl,if_pos (by rw [zh]; exact hi),if_pos (by omega)]
  ·rw [if_neg e,IJ l c i j h]
   by_cases h2:j<i
   ·rw [if_pos h2,if_pos (by omega)]
   ·rw [if_neg h2,if_neg (by omega)]
 ·rw [if_neg (by omega),List.getElem?_eq_none (by rw [zh]; exact h),List.getElem?_eq_none (by rw [zh]; exact h)]
theorem ZC (k:aV) (c:Int):xX k c≤k.aH.length:=by
 unfold xX xW
 split
 ·exact List.countP_le_length
 ·exact Nat.zero_le _
theorem ZD {t:aS} (hs:t.small) (c:Int):∀ i,i≤t.keys.length→AD t.keys c i≤i * 1000
 | 0,_=>Nat.le_refl 0
 | i+1,h=>by
  have:=ZD hs c i (by omega)
  have h2:=ZC (t.keys.getD i kz) c
  have h3:=wT hs (i:=i) (by omega)
  show AD t.keys c i+xX (t.keys.getD i kz) c≤_
  omega
def xu (t:aS) (c:Int):Int:=if fC t=true then (if t.clock≤c∧c≤1099511627776 then 0 else 2) else 2
def Uh (t:aS) (c:Int):aS:={ t with clock:=c,keys:=oR t.keys c t.keys.length }
def I9 (t:aS) (c:Int):aS:=if xu t c=0 then Uh t c else fV
def Jh (t:aS) (c:Int):Int:=if xu t c=0 then (AD t.keys c t.keys.length:Int) else 0
def Tkd (w w':World) (v:Value) (T:aS) (m c:Int):Prop:=
 ∃ s ys zs fp fq er,v=.tuple ⟨[.agg ⟨T.cs s⟩,.int .i64 m,er]⟩∧ak w [] w' (iT s T ys zs fp fq ++ [aD.err er c])
theorem agy (s:dY) (t:aS) (c:Int) (hs:t.small) (w:World) (hx:gL w s t) :
  Ok Pr Ny [.agg ⟨t.cs s⟩,.int .i64 c] w fun v w'=>Tkd w w' v (I9 t c) (Jh t c) (xu t c):=by
 refine aeP ?_
 unfold Ou
 rw [uH,o5]
 have hC:xu t c=if fC t=true then (if t.clock≤c∧c≤1099511627776 then 0 else 2) else 2:=rfl
 have hT:I9 t c=if xu t c=0 then Uh t c else fV:=rfl
 have hM:Jh t c=if xu t c=0 then (AD t.keys c t.keys.length:Int) else 0:=rfl
 generalize xu t c=C at *
 generalize I9 t c=T at *
 generalize Jh t c=M at *
 have vY:=hs.key
 refine (ak.start w).nw fun p w1 H _=>H.nw fun p1 w2 H _=>?_
 have H:ak w [] w2 [.av p (t.cs s) aN,.av p1 (fV.cs sZ) aN]:=H
 refine H.bN 0 rfl (aB (VB s t hs _ (hx.aE H.mod)) ?_)
 rintro _ w3 ⟨rfl,m3⟩
 have H:=H.frame m3
 refine bk (H.an 0 rfl (au p 0) rfl ?_)
 have R6:((!fC t || decide (c<t.clock)) || decide ((1099511627776:Int)<c))=!(decide (C=0)):=by
  rw [hC]
  cases fC t with
  | false=>rfl
  | true=>
   by_cases h1:c<t.clock
   ·rw [if_pos rfl,if_neg (by omega),decide_eq_true h1]; rfl
   ·rw [if_pos rfl,decide_eq_false h1]
    by_cases h2:(1099511627776:Int)<c
    ·rw [if_neg (by omega),decide_eq_true h2]; rfl
    ·rw [if_pos (by omega),decide_eq_false h2]; rfl
 show aA ((!fC t || decide (c<t.clock)) || decide ((1099511627776:Int)<c)) _ _
 rw [R6]
 by_cases h0:C=0
 case neg=>
  rw [if_neg h0] at hT hM
  subst hT hM
  have JV:C=2:=by
   rw [hC] at h0 ⊢
   split
   ·split
    ·rename_i h1 h2; rw [if_pos h1,if_pos h2] at h0; exact absurd rfl h0
    ·rfl
   ·rfl
  refine ite_true (by rw [decide_eq_false h0]; rfl) (aB (AH 2 (by decide) w3) ?_)
  rintro er w4 ⟨he,m4⟩
  have K:=H.gG m4 he
  refine K.bI 1 rfl rfl fun w5 K=>K.bN 1 rfl ⟨sZ,[],[],[],[],er,rfl,?_⟩
  rw [JV]
  exact (Rf K).dh (L':=iT sZ fV [] [] [] [] ++ [aD.err er 2]) [3,4,5,6,7,8,9,2] (by decide) rfl
 rw [if_pos h0] at hT hM
 subst hT hM
 refine ite_false (by rw [decide_eq_true h0]; rfl) (H.bN 0 rfl (aB (Nq s t hs _ (hx.aE H.mod)) ?_))
 rintro _ w6 ⟨s',ys,zs,fp,fq,rfl,G⟩
 have H:=H.join G
 refine iN (H.bI 0 rfl rfl fun w7 H=>H.st 0 rfl (au p 0) (by show 0<6; omega) rfl fun w8 H=>?_)
 have uo:=(H.fI 7 rfl).len
 rw [iO aV.cu _ _ (H.box 8 rfl:bB iD _ zs t.keys).1] at uo
 refine H.ax 0 rfl (au p 4) rfl ?_
 refine kX 0 t.keys.length (fun i (m:Int) w'=>m=(AD t.keys c i:Int)∧∃ zs fq,ak w [] w' [.av p ((Uh t c).cs s') aN,.av p1 (fV.cs sZ) aN,.row bh 1 s'.sec (bp t.bS),.row dV 3 s'.ten (iV t.bY),.row cR 6 s'.gr (e8 t.bz),.row fR 5 s'.aG (bA cB.cs t.aG ys),.box fp fun w=>bB j8 w ys t.aG,.row aZ 4 s'.key (bA aV.cs (oR t.keys c i) zs),.box fq fun w=>bB iD w zs (oR t.keys c i)]) rfl (by omega) ⟨rfl,zs,fq,by rw [akd]; exact H⟩ ?_ ?_
 ·rintro again i m w9 _ hi ⟨rfl,zs,fq,K⟩ aM
  have mN:(oR t.keys c i)[i]? = some (t.keys.getD i kz):=by rw [IJ _ _ _ _ hi,if_neg (by omega)]
  have hE:bB iD w9 zs (oR t.keys c i):=K.box 8 rfl
  have pT:zs.length=t.keys.length:=by rw [hE.1,zh]
  have dB:zs[i]? = some (zs[i]'(by omega)):=List.getElem?_eq_getElem _
  generalize zs[i]'(by omega)=x at dB
  have hsw:=ZD hs c i (by omega)
  have dS:=ZC (t.keys.getD i kz) c
  have vG:=wT hs hi
  have yl:∀ (j:Nat) (v:Value),((t.keys.getD i kz).cs x)[j]? = some v→w9.cell? (Addr.add (Addr.add (base s'.key.a) (Int.toNat (i:Int) * 4)) j)=some v:=fun j v hv=>by
   rw [Int.toNat_natCast]
   exact (K.fI 7 rfl).uO aV.cu mN dB hv
  have dm:s'.key.a.isSome=true∧(0:Int)≤(i:Int)∧(i:Int)<(s'.key.n:Int):=⟨(K.fI 7 rfl).pre (by omega),by omega,by omega⟩
  refine ite_true (decide_eq_true (by omega)) ⟨dm,qn yl (K.nw fun p2 cJ K _=>K.cD 9 rfl rfl fun cY K=>K.bu 9 rfl ?_)⟩
  have hE:bB iD cY zs (oR t.keys c i):=K.box 8 rfl
  refine aB (agr (t.keys.getD i kz) x c (by omega) cY (hE.2 i x _ dB mN).aH) ?_
  rintro _ fP ⟨y,rfl,hy⟩
  obtain ⟨f,K⟩:=K.g9 hy
  refine ⟨_,rfl,oh ⟨_,rfl,rfl,K.nw fun p3 fE K _=>K.cD 11 rfl rfl fun fQ K=>K.ax 0 rfl (au p 4) rfl (K.bu 11 rfl ⟨dm,?_⟩)⟩⟩
  refine K.putAt 7 rfl aV.cu (by rw [pT,zh]) (by rw [zh]; exact hi) (vU (t.keys.getD i kz) c) y (aV.lV _ y) fun jT K=>⟨by unfold aF; omega,by unfold aF; omega,?_⟩
  rw [XF _ _ _ hi] at K
  refine aM _ _ ⟨by show _=((AD t.keys c i+xX (t.keys.getD i kz) c:Nat):Int); omega,zs.set i y,fq ++ f,?_⟩
  have K:=K.merge 8 10 (t:=.box (fq ++ f) fun w=>bB iD w (zs.set i y) (oR t.keys c (i+1))) rfl rfl (by omega) (fun h1 h2=>?_) (fun b hb=>List.mem_append.1 hb)
  ·exact K.take 9
  ·refine ⟨fun b hb=>?_,fun w2 h3=>?_⟩
   ·rcases List.mem_append.1 hb with h | h
    ·exact h1.1 b h
    ·exact h2.1 b h
   ·have:=bB.put (i:=i) (h1.2 w2 fun b hb=>h3 b (List.mem_append_left _ hb)) (h2.2 w2 fun b hb=>h3 b (List.mem_append_right _ hb):iD w2 y (vU (t.keys.getD i kz) c))
    rwa [XF _ _ _ hi] at this
 ·rintro again m w9 ⟨rfl,zs,fq,K⟩
  refine ite_false (decide_eq_false (by omega)) (K.bN 0 rfl (K.bI 1 rfl rfl fun l8 K=>K.bN 1 rfl ⟨s',ys,zs,fp,fq,.nilIface,rfl,?_⟩))
  rw [h0]
  exact (ak.ZB K).drop 2
end Go.Proofs.YtgjoehgomjgckaaGreatDoor
end
section
set_option linter.unusedVariables false
set_option linter.unusedSimpArgs false
namespace Go.Proofs.YtgjoehgomjgckaaGreatDoor
open Go Go.Ev
set_option maxRecDepth 100000
set_option linter.unusedVariables false
def Lv (dz:ah) (Gj:Int) (Gk:Int) (Gl:Int) (Gm:Int) (Gn:Int) (Gp:Int) (Gq:Int) (Gr:Int) (Gs:Int) (Gt:Int) (Fh:Int) (Fj:ByteArray) (vm:ah) (vo:ah) (vp:ah) (Fk:Bool) (w:World) (R:Value→World→Prop):Prop:=
 nw qp [.int .i64 Gj,.int .i64 Gk,.int .i64 Gl,.int .i64 Gm,.int .i64 Gn,.int .i64 Gp,.int .i64 Gq,.int .i64 Gr,.int .i64 Gs,.int .i64 Gt,.int .i64 Fh,.string Fj,.slice vm.a vm.n vm.c,.slice vo.a vo.n vo.c,.slice vp.a vp.n vp.c,.bool Fk] w fun a b=>
 jZ []
 (fun c=>ay Pr uw [] c fun d e=>
 dJ d fun f g i j k l=>
 nw aN (zc Pr aN) e fun m n=>
 bI m f g i j k l n fun o=>
 cZ (fun (p:Int)=>[(6,some (.int .i64 p))])
 (fun q p s=>aA (decide (p<(dz.n:Int)))
 (uN (fun (t:Addr) (u:Value)=>[(7,some (.pointer (some t))),(9,some (u))])
 (fun t u v=>fB u fun x=>
 aA x
 (bN t v fun y z A B C D=>
 bI m y z A B C D v fun E=>
 (aF (p+1)∧
 q (p+1) E))
 ((aF (p+1)∧
 q (p+1) v)))
 (fun F=>
 bN m (World.drew s) fun G I J L M N=>
 aQ dz.a p dz.n
 (iX (Addr.add (Addr.add (base dz.a) (Int.toNat p * 16)) 0) (World.drew s) fun O Q S T U V X Y Z aa ba ca da ea=>
 aQ dz.a p dz.n
 (ax (Addr.add (Addr.add (base dz.a) (Int.toNat p * 16)) 14) (World.drew s) fun fa=>
 ((ay Pr gy [.agg ⟨[.int .i64 G,.slice I.a I.n I.c,.slice J.a J.n J.c,.slice L.a L.n L.c,.slice M.a M.n M.c,.slice N.a N.n N.c]⟩,.agg ⟨[.int .i64 O,.int .i64 Q,.int .i64 S,.int .i64 T,.int .i64 U,.int .i64 V,.int .i64 X,.int .i64 Y,.int .i64 Z,.int .i64 aa,.int .i64 ba,.string ca,.slice da.a da.n da.c,.slice ea.a ea.n ea.c]⟩,.slice fa.a fa.n fa.c] (World.drew s) fun ga ia=>
 br.bC ga fun ja=>
 aC ja fun ka la=>
 dJ ka fun ma na oa pa qa sa=>
 aC la fun ta ua=>
 fF ta fun va xa ya za=>
 aC ua fun Aa Ba=>
 (Ba=[]∧
 ((nw aN (zc Pr aN) ia fun Ca Da=>
 (kept (Addr.add (Addr.add (base dz.a) (Int.toNat p * 16)) 14) 1 ia Da∧
 (kept (Addr.add (Addr.add (base dz.a) (Int.toNat p * 16)) 0) 14 ia Da∧
 (kept m 6 ia Da∧
 nw bD (zc Pr bD) Da fun Ea Fa=>
 (kept (Addr.add (Addr.add (base dz.a) (Int.toNat p * 16)) 14) 1 Da Fa∧
 (kept (Addr.add (Addr.add (base dz.a) (Int.toNat p * 16)) 0) 14 Da Fa∧
 (kept m 6 Da Fa∧
 bI Ca ma na oa pa qa sa Fa fun Ga=>
 bF Ea va xa ya za Ga fun Ia=>
 F Ca Aa Ia)))))))∧
 (nw bD (zc Pr bD) ia fun Ja La=>
 (kept (Addr.add (Addr.add (base dz.a) (Int.toNat p * 16)) 14) 1 ia La∧
 (kept (Addr.add (Addr.add (base dz.a) (Int.toNat p * 16)) 0) 14 ia La∧
 (kept m 6 ia La∧
 nw aN (zc Pr aN) La fun Ma Na=>
 (kept (Addr.add (Addr.add (base dz.a) (Int.toNat p * 16)) 14) 1 La Na∧
 (kept (Addr.add (Addr.add (base dz.a) (Int.toNat p * 16)) 0) 14 La Na∧
 (kept m 6 La Na∧
 bI Ma ma na oa pa qa sa Na fun Oa=>
 bF Ja va xa ya za Oa fun Qa=>
 F Ma Aa Qa))))))))))∧
 (((nw aN (zc Pr aN) (World.drew s) fun Sa Ta=>
 (kept (Addr.add (Addr.add (base dz.a) (Int.toNat p * 16)) 14) 1 (World.drew s) Ta∧
 (kept (Addr.add (Addr.add (base dz.a) (Int.toNat p * 16)) 0) 14 (World.drew s) Ta∧
 (kept m 6 (World.drew s) Ta∧
 ((ay Pr gy [.agg ⟨[.int .i64 G,.slice I.a I.n I.c,.slice J.a J.n J.c,.slice L.a L.n L.c,.slice M.a M.n M.c,.slice N.a N.n N.c]⟩,.agg ⟨[.int .i64 O,.int .i64 Q,.int .i64 S,.int .i64 T,.int .i64 U,.int .i64 V,.int .i64 X,.int .i64 Y,.int .i64 Z,.int .i64 aa,.int .i64 ba,.string ca,.slice da.a da.n da.c,.slice ea.a ea.n ea.c]⟩,.slice fa.a fa.n fa.c] Ta fun Ua Va=>
 br.bC Ua fun Xa=>
 aC Xa fun Ya Za=>
 dJ Ya fun ab bb cb db eb fb=>
 aC Za fun gb ib=>
 fF gb fun jb kb lb mb=>
 aC ib fun nb ob=>
 (ob=[]∧
 nw bD (zc Pr bD) Va fun pb qb=>
 (kept (Addr.add (Addr.add (base dz.a) (Int.toNat p * 16)) 14) 1 Va qb∧
 (kept (Addr.add (Addr.add (base dz.a) (Int.toNat p * 16)) 0) 14 Va qb∧
 (kept m 6 Va qb∧
 bI Sa ab bb cb db eb fb qb fun sb=>
 bF pb jb kb lb mb sb fun tb=>
 F Sa nb tb)))))∧
 (nw bD (zc Pr bD) Ta fun ub vb=>
 (kept (Addr.add (Addr.add (base dz.a) (Int.toNat p * 16)) 14) 1 Ta vb∧
 (kept (Addr.add (Addr.add (base dz.a) (Int.toNat p * 16)) 0) 14 Ta vb∧
 (kept m 6 Ta vb∧
 ay Pr gy [.agg ⟨[.int .i64 G,.slice I.a I.n I.c,.slice J.a J.n J.c,.slice L.a L.n L.c,.slice M.a M.n M.c,.slice N.a N.n N.c]⟩,.agg ⟨[.int .i64 O,.int .i64 Q,.int .i64 S,.int .i64 T,.int .i64 U,.int .i64 V,.int .i64 X,.int .i64 Y,.int .i64 Z,.int .i64 aa,.int .i64 ba,.string ca,.slice da.a da.n da.c,.slice ea.a ea.n ea.c]⟩,.slice fa.a fa.n fa.c] vb fun xb yb=>
 br.bC xb fun zb=>
 aC zb fun Ab Bb=>
 dJ Ab fun Cb Db Eb Fb Gb Ib=>
 aC Bb fun Jb Lb=>
 fF Jb fun Mb Nb Ob Qb=>
 aC Lb fun Sb Tb=>
 (Tb=[]∧
 bI Sa Cb Db Eb Fb Gb Ib yb fun Ub=>
 bF ub Mb Nb Ob Qb Ub fun Vb=>
 F Sa Sb Vb))))))))))∧
 (nw bD (zc Pr bD) (World.drew s) fun Xb Yb=>
 (kept (Addr.add (Addr.add (base dz.a) (Int.toNat p * 16)) 14) 1 (World.drew s) Yb∧
 (kept (Addr.add (Addr.add (base dz.a) (Int.toNat p * 16)) 0) 14 (World.drew s) Yb∧
 (kept m 6 (World.drew s) Yb∧
 ((ay Pr gy [.agg ⟨[.int .i64 G,.slice I.a I.n I.c,.slice J.a J.n J.c,.slice L.a L.n L.c,.slice M.a M.n M.c,.slice N.a N.n N.c]⟩,.agg ⟨[.int .i64 O,.int .i64 Q,.int .i64 S,.int .i64 T,.int .i64 U,.int .i64 V,.int .i64 X,.int .i64 Y,.int .i64 Z,.int .i64 aa,.int .i64 ba,.string ca,.slice da.a da.n da.c,.slice ea.a ea.n ea.c]⟩,.slice fa.a fa.n fa.c] Yb fun Zb ac=>
 br.bC Zb fun bc=>
 aC bc fun cc dc=>
 dJ cc fun ec fc gc ic jc kc=>
 aC dc fun lc mc=>
 fF lc fun nc oc pc qc=>
 aC mc fun sc tc=>
 (tc=[]∧
 nw aN (zc Pr aN) ac fun uc vc=>
 (kept (Addr.add (Addr.add (base dz.a) (Int.toNat p * 16)) 14) 1 ac vc∧
 (kept (Addr.add (Addr.add (base dz.a) (Int.toNat p * 16)) 0) 14 ac vc∧
 (kept m 6 ac vc∧
 bI uc ec fc gc ic jc kc vc fun xc=>
 bF Xb nc oc pc qc xc fun yc=>
 F uc sc yc)))))∧
 (nw aN (zc Pr aN) Yb fun Ac Bc=>
 (kept (Addr.add (Addr.add (base dz.a) (Int.toNat p * 16)) 14) 1 Yb Bc∧
 (kept (Addr.add (Addr.add (base dz.a) (Int.toNat p * 16)) 0) 14 Yb Bc∧
 (kept m 6 Yb Bc∧
 ay Pr gy [.agg ⟨[.int .i64 G,.slice I.a I.n I.c,.slice J.a J.n J.c,.slice L.a L.n L.c,.slice M.a M.n M.c,.slice N.a N.n N.c]⟩,.agg ⟨[.int .i64 O,.int .i64 Q,.int .i64 S,.int .i64 T,.int .i64 U,.int .i64 V,.int .i64 X,.int .i64 Y,.int .i64 Z,.int .i64 aa,.int .i64 ba,.string ca,.slice da.a da.n da.c,.slice ea.a ea.n ea.c]⟩,.slice fa.a fa.n fa.c] Bc fun Cc Dc=>
 br.bC Cc fun Ec=>
 aC Ec fun Fc Gc=>
 dJ Fc fun Ic Jc Lc Mc Nc Oc=>
 aC Gc fun Qc Sc=>
 fF Qc fun Tc Uc Vc Xc=>
 aC Sc fun Yc Zc=>
 (Zc=[]∧
 bI Ac Ic Jc Lc Mc Nc Oc Dc fun bd=>
 bF Xb Tc Uc Vc Xc bd fun cd=>
 F Ac Yc cd)))))))))))))))))
 (bN m s fun dd ed fd gd jd kd=>
 iX (Addr.add a 0) s fun ld md nd od pd qd sd td ud vd xd yd zd Ad=>
 ax (Addr.add a 14) s fun Bd=>
 ay Pr gy [.agg ⟨[.int .i64 dd,.slice ed.a ed.n ed.c,.slice fd.a fd.n fd.c,.slice gd.a gd.n gd.c,.slice jd.a jd.n jd.c,.slice kd.a kd.n kd.c]⟩,.agg ⟨[.int .i64 ld,.int .i64 md,.int .i64 nd,.int .i64 od,.int .i64 pd,.int .i64 qd,.int .i64 sd,.int .i64 td,.int .i64 ud,.int .i64 vd,.int .i64 xd,.string yd,.slice zd.a zd.n zd.c,.slice Ad.a Ad.n Ad.c]⟩,.slice Bd.a Bd.n Bd.c] s fun Cd Dd=>
 br.bC Cd fun Ed=>
 aC Ed fun Fd Gd=>
 dJ Fd fun Id Jd Ld Md Od Qd=>
 aC Gd fun Sd Td=>
 fF Sd fun Ud Vd Xd Yd=>
 aC Td fun Zd ae=>
 (ae=[]∧
 nw aN (zc Pr aN) Dd fun be ce=>
 nw bD (zc Pr bD) ce fun de ee=>
 bI be Id Jd Ld Md Od Qd ee fun fe=>
 bF de Ud Vd Xd Yd fe fun ge=>
 fB Zd fun ie=>
 aA (!ie)
 (bN be (World.drew ge) fun je ke le me ne oe=>
 ay Pr Lw [.agg ⟨[.int .i64 je,.slice ke.a ke.n ke.c,.slice le.a le.n le.c,.slice me.a me.n me.c,.slice ne.a ne.n ne.c,.slice oe.a oe.n oe.c]⟩,.agg ⟨[.int .i64 0,.slice none 0 0,.slice none 0 0,.slice none 0 0,.slice none 0 0,.slice none 0 0]⟩] (World.drew ge) fun pe qe=>
 aU pe fun se=>
 cz de qe fun te ue ve xe=>
 aA se
 (ay Pr yF [Zd] qe fun ye ze=>
 aY .i64 ye fun Ae=>
 (kept de 4 qe ze∧
 ay Pr Lx [.agg ⟨[.int .i64 te,.int .i64 ue,.slice ve.a ve.n ve.c,.slice xe.a xe.n xe.c]⟩,.agg ⟨[.int .i64 Ae,.int .i64 0,.slice none 0 0,.slice none 0 0]⟩] ze fun Be Ce=>
 aU Be fun De=>
 aA De
 (ay Pr AI [] Ce fun Ee Fe=>
 aU Ee fun Ge=>
 R (.bool Ge) Fe)
 (R (.bool false) Ce)))
 ((kept de 4 qe qe∧
 R (.bool false) qe)))
 (bN be ge fun Ie Je Le Me Oe Qe=>
 iX (Addr.add a 0) ge fun Se Te Ue Ve Xe Ye Ze af bf cf df ef ff gf=>
 ax (Addr.add a 14) ge fun jf=>
 ay Pr gy [.agg ⟨[.int .i64 Ie,.slice Je.a Je.n Je.c,.slice Le.a Le.n Le.c,.slice Me.a Me.n Me.c,.slice Oe.a Oe.n Oe.c,.slice Qe.a Qe.n Qe.c]⟩,.agg ⟨[.int .i64 Se,.int .i64 Te,.int .i64 Ue,.int .i64 Ve,.int .i64 Xe,.int .i64 Ye,.int .i64 Ze,.int .i64 af,.int .i64 bf,.int .i64 cf,.int .i64 df,.string ef,.slice ff.a ff.n ff.c,.slice gf.a gf.n gf.c]⟩,.slice jf.a jf.n jf.c] ge fun kf lf=>
 br.bC kf fun mf=>
 aC mf fun nf pf=>
 dJ nf fun qf sf tf uf vf xf=>
 aC pf fun yf zf=>
 fF yf fun Af Bf Cf Df=>
 aC zf fun Ef Ff=>
 (Ff=[]∧
 nw aN (zc Pr aN) lf fun Gf If=>
 nw bD (zc Pr bD) If fun Jf Lf=>
 bI Gf qf sf tf uf vf xf Lf fun Mf=>
 bF Jf Af Bf Cf Df Mf fun Nf=>
 ay Pr yF [Ef] Nf fun Of Qf=>
 aY .i64 Of fun Sf=>
 an .i64 (Addr.add Jf 0) Qf fun Tf=>
 an .i64 (Addr.add de 0) Qf fun Uf=>
 aA (((decide (Sf=8)) && (decide (Tf=8))) && (decide (Uf=0)))
 (ay Pr AI [] Qf fun Vf Xf=>
 aU Vf fun Yf=>
 R (.bool Yf) Xf)
 (R (.bool false) Qf))))))
 0 o)
 (fun Zf=>
 jh (fun (ag:Bool)=>[(22,some (.bool ag))])
 (fun ag bg=>aA ag
 (ay Pr AI [] bg fun cg dg=>
 aU cg fun eg=>
 R (.bool eg) dg)
 (Zf bg))
 (fun fg=>
 ay Pr GU [.slice dz.a dz.n dz.c,.int .i64 6] b fun gg ig=>
 aU gg fun jg=>
 NK a ig fun kg lg mg ng og pg qg sg tg ug vg xg yg zg Ag Bg=>
 aA jg
 (fg true ig)
 (nw qp [.int .i64 kg,.int .i64 lg,.int .i64 mg,.int .i64 ng,.int .i64 og,.int .i64 pg,.int .i64 qg,.int .i64 sg,.int .i64 tg,.int .i64 ug,.int .i64 vg,.string xg,.slice yg.a yg.n yg.c,.slice zg.a zg.n zg.c,.slice Ag.a Ag.n Ag.c,.bool Bg] ig fun Cg Dg=>
 ay Pr GU [.slice (some Cg) 1 1,.int .i64 1] Dg fun Eg Fg=>
 aU Eg fun Gg=>
 fg Gg Fg)))
theorem acw {dz:ah} {Gj:Int} {Gk:Int} {Gl:Int} {Gm:Int} {Gn:Int} {Gp:Int} {Gq:Int} {Gr:Int} {Gs:Int} {Gt:Int} {Fh:Int} {Fj:ByteArray} {vm:ah} {vo:ah} {vp:ah} {Fk:Bool} {w:World} {R:Value→World→Prop} (h:Lv dz Gj Gk Gl Gm Gn Gp Gq Gr Gs Gt Fh Fj vm vo vp Fk w R):Ok Pr Uz [.slice dz.a dz.n dz.c,.agg ⟨[.int .i64 Gj,.int .i64 Gk,.int .i64 Gl,.int .i64 Gm,.int .i64 Gn,.int .i64 Gp,.int .i64 Gq,.int .i64 Gr,.int .i64 Gs,.int .i64 Gt,.int .i64 Fh,.string Fj,.slice vm.a vm.n vm.c,.slice vo.a vo.n vo.c,.slice vp.a vp.n vp.c,.bool Fk]⟩] w R:=
 aL (m:=⟨true,true⟩) (J:=[(3,[]),(2,[(22,.bool)]),(8,[(7,.Cu),(9,.val)])]) (L:=[(5,[(6,.int .i64)])]) aJ Tryz.func3 (by kernel_rfl) ((by kernel_rfl:aK Pr _ _ _ Tryz.f3 _ w R=Lv dz Gj Gk Gl Gm Gn Gp Gq Gr Gs Gt Fh Fj vm vo vp Fk w R).mpr h)
def Nu (dz:ah) (oJ:Int) (w:World) (R:Value→World→Prop):Prop:=
 cZ (fun (a:Int)=>[(5,some (.int .i64 a))])
 (fun b a c=>aA ((decide (a<(dz.n:Int))) && (decide ((dz.n:Int)≤oJ)))
 (aQ dz.a a dz.n
 (iX (Addr.add (Addr.add (base dz.a) (Int.toNat a * 16)) 0) c fun d e f g i j k l m n o p q s=>
 ay Pr LK [.agg ⟨[.int .i64 d,.int .i64 e,.int .i64 f,.int .i64 g,.int .i64 i,.int .i64 j,.int .i64 k,.int .i64 l,.int .i64 m,.int .i64 n,.int .i64 o,.string p,.slice q.a q.n q.c,.slice s.a s.n s.c]⟩] c fun t u=>
 aU t fun v=>
 aA v
 (R (.bool true) u)
 (aQ dz.a a dz.n
 (ax (Addr.add (Addr.add (base dz.a) (Int.toNat a * 16)) 14) u fun x=>
 aA (decide (100<(x.n:Int)))
 (R (.bool true) u)
 ((aF (a+1)∧
 b (a+1) u))))))
 (R (.bool (decide (oJ<(dz.n:Int)))) c))
 0 w
theorem aed {dz:ah} {oJ:Int} {w:World} {R:Value→World→Prop} (h:Nu dz oJ w R):Ok Pr GU [.slice dz.a dz.n dz.c,.int .i64 oJ] w R:=
 aL (m:=⟨true,true⟩) (J:=[]) (L:=[(2,[(5,.int .i64)])]) aJ Tryz.func8 (by kernel_rfl) ((by kernel_rfl:aK Pr _ _ _ Tryz.f8 _ w R=Nu dz oJ w R).mpr h)
def Nv (w:World) (R:Value→World→Prop):Prop:=
 nw kW (zc Pr kW) w fun a b=>
 HI a 1 1 1 1 0 0 0 0 0 0 0 S_a ⟨none,0,0⟩ ⟨none,0,0⟩ b fun c=>
 ZM (fun (d:Addr) (e:Addr) (f:Value)=>[(2,some (.pointer (some d))),(3,some (.pointer (some e))),(4,some (f))])
 (fun d e f g=>bN d g fun i j k l m n=>
 iX a g fun o p q s t u v x y z A B C D=>
 ay Pr gy [.agg ⟨[.int .i64 i,.slice j.a j.n j.c,.slice k.a k.n k.c,.slice l.a l.n l.c,.slice m.a m.n m.c,.slice n.a n.n n.c]⟩,.agg ⟨[.int .i64 o,.int .i64 p,.int .i64 q,.int .i64 s,.int .i64 t,.int .i64 u,.int .i64 v,.int .i64 x,.int .i64 y,.int .i64 z,.int .i64 A,.string B,.slice C.a C.n C.c,.slice D.a D.n D.c]⟩,.slice none 0 0] g fun E F=>
 br.bC E fun G=>
 aC G fun I J=>
 dJ I fun L M N O Q S=>
 aC J fun T U=>
 fF T fun V X Y Z=>
 aC U fun aa ba=>
 (ba=[]∧
 nw aN (zc Pr aN) F fun ca da=>
 nw bD (zc Pr bD) da fun ea fa=>
 bI ca L M N O Q S fa fun ga=>
 bF ea V X Y Z ga fun ia=>
 bN d ia fun ja ka la ma na oa=>
 ay Pr Ny [.agg ⟨[.int .i64 ja,.slice ka.a ka.n ka.c,.slice la.a la.n la.c,.slice ma.a ma.n ma.c,.slice na.a na.n na.c,.slice oa.a oa.n oa.c]⟩,.int .i64 9] ia fun pa qa=>
 br.bC pa fun sa=>
 aC sa fun ta ua=>
 dJ ta fun va xa ya za Aa Ba=>
 aC ua fun Ca Da=>
 aY .i64 Ca fun Ea=>
 aC Da fun Fa Ga=>
 (Ga=[]∧
 nw aN (zc Pr aN) qa fun Ia Ja=>
 bI Ia va xa ya za Aa Ba Ja fun La=>
 fB f fun Ma=>
 an .i64 (Addr.add e 1) La fun Na=>
 ax (Addr.add d 2) La fun Oa=>
 aA ((Ma && (decide (Na=2))) && (decide ((Oa.n:Int)=2)))
 (ay Pr yF [aa] La fun Qa Sa=>
 aY .i64 Qa fun Ta=>
 an .i64 (Addr.add ea 0) Sa fun Ua=>
 aA ((decide (Ta=8)) && (decide (Ua=8)))
 (fB Fa fun Va=>
 an .i64 (Addr.add Ia 0) Sa fun Xa=>
 R (.bool ((Va && (decide (Ea=0))) && (decide (Xa=9)))) Sa)
 (an .i64 (Addr.add Ia 0) Sa fun Ya=>
 R (.bool false) Sa))
 (an .i64 (Addr.add ea 0) La fun Za=>
 an .i64 (Addr.add Ia 0) La fun ab=>
 R (.bool false) La))))
 (fun bb=>
 iX a (World.drew c) fun cb db eb fb gb ib jb kb lb mb nb ob pb qb=>
 ((ay Pr uw [] (World.drew c) fun sb tb=>
 dJ sb fun ub vb xb yb zb Ab=>
 (kept a 14 (World.drew c) tb∧
 ((ay Pr gy [.agg ⟨[.int .i64 ub,.slice vb.a vb.n vb.c,.slice xb.a xb.n xb.c,.slice yb.a yb.n yb.c,.slice zb.a zb.n zb.c,.slice Ab.a Ab.n Ab.c]⟩,.agg ⟨[.int .i64 cb,.int .i64 db,.int .i64 eb,.int .i64 fb,.int .i64 gb,.int .i64 ib,.int .i64 jb,.int .i64 kb,.int .i64 lb,.int .i64 mb,.int .i64 nb,.string ob,.slice pb.a pb.n pb.c,.slice qb.a qb.n qb.c]⟩,.slice none 0 0] tb fun Bb Cb=>
 br.bC Bb fun Db=>
 aC Db fun Eb Fb=>
 dJ Eb fun Gb Ib Jb Lb Mb Nb=>
 aC Fb fun Ob Qb=>
 fF Ob fun Sb Tb Ub Vb=>
 aC Qb fun Xb Yb=>
 (Yb=[]∧
 ((nw aN (zc Pr aN) Cb fun Zb ac=>
 (kept a 14 Cb ac∧
 nw bD (zc Pr bD) ac fun bc cc=>
 (kept a 14 ac cc∧
 bI Zb Gb Ib Jb Lb Mb Nb cc fun dc=>
 bF bc Sb Tb Ub Vb dc fun ec=>
 bb Zb bc Xb ec)))∧
 (nw bD (zc Pr bD) Cb fun fc gc=>
 (kept a 14 Cb gc∧
 nw aN (zc Pr aN) gc fun ic jc=>
 (kept a 14 gc jc∧
 bI ic Gb Ib Jb Lb Mb Nb jc fun kc=>
 bF fc Sb Tb Ub Vb kc fun lc=>
 bb ic fc Xb lc))))))∧
 (((nw aN (zc Pr aN) tb fun mc nc=>
 (kept a 14 tb nc∧
 ((ay Pr gy [.agg ⟨[.int .i64 ub,.slice vb.a vb.n vb.c,.slice xb.a xb.n xb.c,.slice yb.a yb.n yb.c,.slice zb.a zb.n zb.c,.slice Ab.a Ab.n Ab.c]⟩,.agg ⟨[.int .i64 cb,.int .i64 db,.int .i64 eb,.int .i64 fb,.int .i64 gb,.int .i64 ib,.int .i64 jb,.int .i64 kb,.int .i64 lb,.int .i64 mb,.int .i64 nb,.string ob,.slice pb.a pb.n pb.c,.slice qb.a qb.n qb.c]⟩,.slice none 0 0] nc fun oc pc=>
 br.bC oc fun qc=>
 aC qc fun sc tc=>
 dJ sc fun uc vc xc yc Ac Bc=>
 aC tc fun Cc Dc=>
 fF Cc fun Ec Fc Gc Ic=>
 aC Dc fun Jc Lc=>
 (Lc=[]∧
 nw bD (zc Pr bD) pc fun Mc Nc=>
 (kept a 14 pc Nc∧
 bI mc uc vc xc yc Ac Bc Nc fun Oc=>
 bF Mc Ec Fc Gc Ic Oc fun Qc=>
 bb mc Mc Jc Qc)))∧
 (nw bD (zc Pr bD) nc fun Sc Tc=>
 (kept a 14 nc Tc∧
 ay Pr gy [.agg ⟨[.int .i64 ub,.slice vb.a vb.n vb.c,.slice xb.a xb.n xb.c,.slice yb.a yb.n yb.c,.slice zb.a zb.n zb.c,.slice Ab.a Ab.n Ab.c]⟩,.agg ⟨[.int .i64 cb,.int .i64 db,.int .i64 eb,.int .i64 fb,.int .i64 gb,.int .i64 ib,.int .i64 jb,.int .i64 kb,.int .i64 lb,.int .i64 mb,.int .i64 nb,.string ob,.slice pb.a pb.n pb.c,.slice qb.a qb.n qb.c]⟩,.slice none 0 0] Tc fun Uc Vc=>
 br.bC Uc fun Xc=>
 aC Xc fun Yc Zc=>
 dJ Yc fun bd cd dd ed fd gd=>
 aC Zc fun jd kd=>
 fF jd fun ld md nd od=>
 aC kd fun pd qd=>
 (qd=[]∧
 bI mc bd cd dd ed fd gd Vc fun sd=>
 bF Sc ld md nd od sd fun td=>
 bb mc Sc pd td))))))∧
 (nw bD (zc Pr bD) tb fun ud vd=>
 (kept a 14 tb vd∧
 ((ay Pr gy [.agg ⟨[.int .i64 ub,.slice vb.a vb.n vb.c,.slice xb.a xb.n xb.c,.slice yb.a yb.n yb.c,.slice zb.a zb.n zb.c,.slice Ab.a Ab.n Ab.c]⟩,.agg ⟨[.int .i64 cb,.int .i64 db,.int .i64 eb,.int .i64 fb,.int .i64 gb,.int .i64 ib,.int .i64 jb,.int .i64 kb,.int .i64 lb,.int .i64 mb,.int .i64 nb,.string ob,.slice pb.a pb.n pb.c,.slice qb.a qb.n qb.c]⟩,.slice none 0 0] vd fun xd yd=>
 br.bC xd fun zd=>
 aC zd fun Ad Bd=>
 dJ Ad fun Cd Dd Ed Fd Gd Id=>
 aC Bd fun Jd Ld=>
 fF Jd fun Md Od Qd Sd=>
 aC Ld fun Td Ud=>
 (Ud=[]∧
 nw aN (zc Pr aN) yd fun Vd Xd=>
 (kept a 14 yd Xd∧
 bI Vd Cd Dd Ed Fd Gd Id Xd fun Yd=>
 bF ud Md Od Qd Sd Yd fun Zd=>
 bb Vd ud Td Zd)))∧
 (nw aN (zc Pr aN) vd fun ae be=>
 (kept a 14 vd be∧
 ay Pr gy [.agg ⟨[.int .i64 ub,.slice vb.a vb.n vb.c,.slice xb.a xb.n xb.c,.slice yb.a yb.n yb.c,.slice zb.a zb.n zb.c,.slice Ab.a Ab.n Ab.c]⟩,.agg ⟨[.int .i64 cb,.int .i64 db,.int .i64 eb,.int .i64 fb,.int .i64 gb,.int .i64 ib,.int .i64 jb,.int .i64 kb,.int .i64 lb,.int .i64 mb,.int .i64 nb,.string ob,.slice pb.a pb.n pb.c,.slice qb.a qb.n qb.c]⟩,.slice none 0 0] be fun ce de=>
 br.bC ce fun ee=>
 aC ee fun fe ge=>
 dJ fe fun ie je ke le me ne=>
 aC ge fun oe pe=>
 fF oe fun qe se te ue=>
 aC pe fun ve xe=>
 (xe=[]∧
 bI ae ie je ke le me ne de fun ye=>
 bF ud qe se te ue ye fun ze=>
 bb ae ud ve ze)))))))))))∧
 (((nw aN (zc Pr aN) (World.drew c) fun Ae Be=>
 (kept a 14 (World.drew c) Be∧
 ((ay Pr uw [] Be fun Ce De=>
 dJ Ce fun Ee Fe Ge Ie Je Le=>
 (kept a 14 Be De∧
 ((ay Pr gy [.agg ⟨[.int .i64 Ee,.slice Fe.a Fe.n Fe.c,.slice Ge.a Ge.n Ge.c,.slice Ie.a Ie.n Ie.c,.slice Je.a Je.n Je.c,.slice Le.a Le.n Le.c]⟩,.agg ⟨[.int .i64 cb,.int .i64 db,.int .i64 eb,.int .i64 fb,.int .i64 gb,.int .i64 ib,.int .i64 jb,.int .i64 kb,.int .i64 lb,.int .i64 mb,.int .i64 nb,.string ob,.slice pb.a pb.n pb.c,.slice qb.a qb.n qb.c]⟩,.slice none 0 0] De fun Me Oe=>
 br.bC Me fun Qe=>
 aC Qe fun Se Te=>
 dJ Se fun Ue Ve Xe Ye Ze af=>
 aC Te fun bf cf=>
 fF bf fun df ef ff gf=>
 aC cf fun jf kf=>
 (kf=[]∧
 nw bD (zc Pr bD) Oe fun lf mf=>
 (kept a 14 Oe mf∧
 bI Ae Ue Ve Xe Ye Ze af mf fun nf=>
 bF lf df ef ff gf nf fun pf=>
 bb Ae lf jf pf)))∧
 (nw bD (zc Pr bD) De fun qf sf=>
 (kept a 14 De sf∧
 ay Pr gy [.agg ⟨[.int .i64 Ee,.slice Fe.a Fe.n Fe.c,.slice Ge.a Ge.n Ge.c,.slice Ie.a Ie.n Ie.c,.slice Je.a Je.n Je.c,.slice Le.a Le.n Le.c]⟩,.agg ⟨[.int .i64 cb,.int .i64 db,.int .i64 eb,.int .i64 fb,.int .i64 gb,.int .i64 ib,.int .i64 jb,.int .i64 kb,.int .i64 lb,.int .i64 mb,.int .i64 nb,.string ob,.slice pb.a pb.n pb.c,.slice qb.a qb.n qb.c]⟩,.slice none 0 0] sf fun tf uf=>
 br.bC tf fun vf=>
 aC vf fun xf yf=>
 dJ xf fun zf Af Bf Cf Df Ef=>
 aC yf fun Ff Gf=>
 fF Ff fun If Jf Lf Mf=>
 aC Gf fun Nf Of=>
 (Of=[]∧
 bI Ae zf Af Bf Cf Df Ef uf fun Qf=>
 bF qf If Jf Lf Mf Qf fun Sf=>
 bb Ae qf Nf Sf))))))∧
 (nw bD (zc Pr bD) Be fun Tf Uf=>
 (kept a 14 Be Uf∧
 ay Pr uw [] Uf fun Vf Xf=>
 dJ Vf fun Yf Zf ag bg cg dg=>
 (kept a 14 Uf Xf∧
 ay Pr gy [.agg ⟨[.int .i64 Yf,.slice Zf.a Zf.n Zf.c,.slice ag.a ag.n ag.c,.slice bg.a bg.n bg.c,.slice cg.a cg.n cg.c,.slice dg.a dg.n dg.c]⟩,.agg ⟨[.int .i64 cb,.int .i64 db,.int .i64 eb,.int .i64 fb,.int .i64 gb,.int .i64 ib,.int .i64 jb,.int .i64 kb,.int .i64 lb,.int .i64 mb,.int .i64 nb,.string ob,.slice pb.a pb.n pb.c,.slice qb.a qb.n qb.c]⟩,.slice none 0 0] Xf fun eg fg=>
 br.bC eg fun gg=>
 aC gg fun ig jg=>
 dJ ig fun kg lg mg ng og pg=>
 aC jg fun qg sg=>
 fF qg fun tg ug vg xg=>
 aC sg fun yg zg=>
 (zg=[]∧
 bI Ae kg lg mg ng og pg fg fun Ag=>
 bF Tf tg ug vg xg Ag fun Bg=>
 bb Ae Tf yg Bg)))))))∧
 (nw bD (zc Pr bD) (World.drew c) fun Cg Dg=>
 (kept a 14 (World.drew c) Dg∧
 ((ay Pr uw [] Dg fun Eg Fg=>
 dJ Eg fun Gg Ig Jg Lg Mg Ng=>
 (kept a 14 Dg Fg∧
 ((ay Pr gy [.agg ⟨[.int .i64 Gg,.slice Ig.a Ig.n Ig.c,.slice Jg.a Jg.n Jg.c,.slice Lg.a Lg.n Lg.c,.slice Mg.a Mg.n Mg.c,.slice Ng.a Ng.n Ng.c]⟩,.agg ⟨[.int .i64 cb,.int .i64 db,.int .i64 eb,.int .i64 fb,.int .i64 gb,.int .i64 ib,.int .i64 jb,.int .i64 kb,.int .i64 lb,.int .i64 mb,.int .i64 nb,.string ob,.slice pb.a pb.n pb.c,.slice qb.a qb.n qb.c]⟩,.slice none 0 0] Fg fun Og Qg=>
 br.bC Og fun Sg=>
 aC Sg fun Tg Ug=>
 dJ Tg fun Vg Xg Yg Zg ai bi=>
 aC Ug fun ci di=>
 fF ci fun ei fi gi ii=>
 aC di fun ji ki=>
 (ki=[]∧
 nw aN (zc Pr aN) Qg fun li mi=>
 (kept a 14 Qg mi∧
 bI li Vg Xg Yg Zg ai bi mi fun ni=>
 bF Cg ei fi gi ii ni fun oi=>
 bb li Cg ji oi)))∧
 (nw aN (zc Pr aN) Fg fun pi qi=>
 (kept a 14 Fg qi∧
 ay Pr gy [.agg ⟨[.int .i64 Gg,.slice Ig.a Ig.n Ig.c,.slice Jg.a Jg.n Jg.c,.slice Lg.a Lg.n Lg.c,.slice Mg.a Mg.n Mg.c,.slice Ng.a Ng.n Ng.c]⟩,.agg ⟨[.int .i64 cb,.int .i64 db,.int .i64 eb,.int .i64 fb,.int .i64 gb,.int .i64 ib,.int .i64 jb,.int .i64 kb,.int .i64 lb,.int .i64 mb,.int .i64 nb,.string ob,.slice pb.a pb.n pb.c,.slice qb.a qb.n qb.c]⟩,.slice none 0 0] qi fun si ti=>
 br.bC si fun ui=>
 aC ui fun vi xi=>
 dJ vi fun yi zi Ai Bi Ci Di=>
 aC xi fun Ei Fi=>
 fF Ei fun Gi Ii Ji Li=>
 aC Fi fun Mi Ni=>
 (Ni=[]∧
 bI pi yi zi Ai Bi Ci Di ti fun Oi=>
 bF Cg Gi Ii Ji Li Oi fun Qi=>
 bb pi Cg Mi Qi))))))∧
 (nw aN (zc Pr aN) Dg fun Si Ti=>
 (kept a 14 Dg Ti∧
 ay Pr uw [] Ti fun Ui Vi=>
 dJ Ui fun Xi Yi Zi aj bj cj=>
 (kept a 14 Ti Vi∧
 ay Pr gy [.agg ⟨[.int .i64 Xi,.slice Yi.a Yi.n Yi.c,.slice Zi.a Zi.n Zi.c,.slice aj.a aj.n aj.c,.slice bj.a bj.n bj.c,.slice cj.a cj.n cj.c]⟩,.agg ⟨[.int .i64 cb,.int .i64 db,.int .i64 eb,.int .i64 fb,.int .i64 gb,.int .i64 ib,.int .i64 jb,.int .i64 kb,.int .i64 lb,.int .i64 mb,.int .i64 nb,.string ob,.slice pb.a pb.n pb.c,.slice qb.a qb.n qb.c]⟩,.slice none 0 0] Vi fun dj ej=>
 br.bC dj fun fj=>
 aC fj fun gj ij=>
 dJ gj fun jj kj lj mj nj oj=>
 aC ij fun pj qj=>
 fF pj fun sj tj uj vj=>
 aC qj fun xj yj=>
 (yj=[]∧
 bI Si jj kj lj mj nj oj ej fun zj=>
 bF Cg sj tj uj vj zj fun Aj=>
 bb Si Cg xj Aj)))))))))))
theorem aee {w:World} {R:Value→World→Prop} (h:Nv w R):Ok Pr AI [] w R:=
 aL (m:=⟨true,true⟩) (J:=[(3,[(2,.Cu),(3,.Cu),(4,.val)])]) (L:=[]) aJ Tryz.func9 (by kernel_rfl) ((by kernel_rfl:aK Pr _ _ _ Tryz.f9 _ w R=Nv w R).mpr h)
def Nw (w:World) (R:Value→World→Prop):Prop:=
 nw aN (zc Pr aN) w fun a b=>
 ((j4 Pr bh 1312 1312 (World.drew b) fun c d=>
 ((j4 Pr bh 32 32 d fun e f=>
 ((ay Pr oT [.string oN,.slice c.a c.n c.c,.slice e.a e.n e.c] f fun g i=>
 br.bC g fun j=>
 aC j fun k l=>
 dJ k fun m n o p q s=>
 aC l fun t u=>
 aY .i64 t fun v=>
 (u=[]∧
 nw aN (zc Pr aN) i fun x y=>
 bI x m n o p q s y fun z=>
 bN x z fun A B C D E F=>
 bI a A B C D E F z fun G=>
 bN a G fun I J L M N O=>
 R (.agg ⟨[.int .i64 I,.slice J.a J.n J.c,.slice L.a L.n L.c,.slice M.a M.n M.c,.slice N.a N.n N.c,.slice O.a O.n O.c]⟩) G))∧
 (nw aN (zc Pr aN) f fun Q S=>
 ay Pr oT [.string oN,.slice c.a c.n c.c,.slice e.a e.n e.c] S fun T U=>
 br.bC T fun V=>
 aC V fun X Y=>
 dJ X fun Z aa ba ca da ea=>
 aC Y fun fa ga=>
 aY .i64 fa fun ia=>
 (ga=[]∧
 bI Q Z aa ba ca da ea U fun ja=>
 bN Q ja fun ka la ma na oa pa=>
 bI a ka la ma na oa pa ja fun qa=>
 bN a qa fun sa ta ua va xa ya=>
 R (.agg ⟨[.int .i64 sa,.slice ta.a ta.n ta.c,.slice ua.a ua.n ua.c,.slice va.a va.n va.c,.slice xa.a xa.n xa.c,.slice ya.a ya.n ya.c]⟩) qa))))∧
 (nw aN (zc Pr aN) d fun za Aa=>
 j4 Pr bh 32 32 Aa fun Ba Ca=>
 ay Pr oT [.string oN,.slice c.a c.n c.c,.slice Ba.a Ba.n Ba.c] Ca fun Da Ea=>
 br.bC Da fun Fa=>
 aC Fa fun Ga Ia=>
 dJ Ga fun Ja La Ma Na Oa Qa=>
 aC Ia fun Sa Ta=>
 aY .i64 Sa fun Ua=>
 (Ta=[]∧
 bI za Ja La Ma Na Oa Qa Ea fun Va=>
 bN za Va fun Xa Ya Za ab bb cb=>
 bI a Xa Ya Za ab bb cb Va fun db=>
 bN a db fun eb fb gb ib jb kb=>
 R (.agg ⟨[.int .i64 eb,.slice fb.a fb.n fb.c,.slice gb.a gb.n gb.c,.slice ib.a ib.n ib.c,.slice jb.a jb.n jb.c,.slice kb.a kb.n kb.c]⟩) db))))∧
 (((j4 Pr bh 32 32 (World.drew b) fun lb mb=>
 ((j4 Pr bh 1312 1312 mb fun nb ob=>
 ((ay Pr oT [.string oN,.slice nb.a nb.n nb.c,.slice lb.a lb.n lb.c] ob fun pb qb=>
 br.bC pb fun sb=>
 aC sb fun tb ub=>
 dJ tb fun vb xb yb zb Ab Bb=>
 aC ub fun Cb Db=>
 aY .i64 Cb fun Eb=>
 (Db=[]∧
 nw aN (zc Pr aN) qb fun Fb Gb=>
 bI Fb vb xb yb zb Ab Bb Gb fun Ib=>
 bN Fb Ib fun Jb Lb Mb Nb Ob Qb=>
 bI a Jb Lb Mb Nb Ob Qb Ib fun Sb=>
 bN a Sb fun Tb Ub Vb Xb Yb Zb=>
 R (.agg ⟨[.int .i64 Tb,.slice Ub.a Ub.n Ub.c,.slice Vb.a Vb.n Vb.c,.slice Xb.a Xb.n Xb.c,.slice Yb.a Yb.n Yb.c,.slice Zb.a Zb.n Zb.c]⟩) Sb))∧
 (nw aN (zc Pr aN) ob fun ac bc=>
 ay Pr oT [.string oN,.slice nb.a nb.n nb.c,.slice lb.a lb.n lb.c] bc fun cc dc=>
 br.bC cc fun ec=>
 aC ec fun fc gc=>
 dJ fc fun ic jc kc lc mc nc=>
 aC gc fun oc pc=>
 aY .i64 oc fun qc=>
 (pc=[]∧
 bI ac ic jc kc lc mc nc dc fun sc=>
 bN ac sc fun tc uc vc xc yc Ac=>
 bI a tc uc vc xc yc Ac sc fun Bc=>
 bN a Bc fun Cc Dc Ec Fc Gc Ic=>
 R (.agg ⟨[.int .i64 Cc,.slice Dc.a Dc.n Dc.c,.slice Ec.a Ec.n Ec.c,.slice Fc.a Fc.n Fc.c,.slice Gc.a Gc.n Gc.c,.slice Ic.a Ic.n Ic.c]⟩) Bc))))∧
 (nw aN (zc Pr aN) mb fun Jc Lc=>
 j4 Pr bh 1312 1312 Lc fun Mc Nc=>
 ay Pr oT [.string oN,.slice Mc.a Mc.n Mc.c,.slice lb.a lb.n lb.c] Nc fun Oc Qc=>
 br.bC Oc fun Sc=>
 aC Sc fun Tc Uc=>
 dJ Tc fun Vc Xc Yc Zc bd cd=>
 aC Uc fun dd ed=>
 aY .i64 dd fun fd=>
 (ed=[]∧
 bI Jc Vc Xc Yc Zc bd cd Qc fun gd=>
 bN Jc gd fun jd kd ld md nd od=>
 bI a jd kd ld md nd od gd fun pd=>
 bN a pd fun qd sd td ud vd xd=>
 R (.agg ⟨[.int .i64 qd,.slice sd.a sd.n sd.c,.slice td.a td.n td.c,.slice ud.a ud.n ud.c,.slice vd.a vd.n vd.c,.slice xd.a xd.n xd.c]⟩) pd))))∧
 (nw aN (zc Pr aN) (World.drew b) fun yd zd=>
 ((j4 Pr bh 1312 1312 zd fun Ad Bd=>
 j4 Pr bh 32 32 Bd fun Cd Dd=>
 ay Pr oT [.string oN,.slice Ad.a Ad.n Ad.c,.slice Cd.a Cd.n Cd.c] Dd fun Ed Fd=>
 br.bC Ed fun Gd=>
 aC Gd fun Id Jd=>
 dJ Id fun Ld Md Od Qd Sd Td=>
 aC Jd fun Ud Vd=>
 aY .i64 Ud fun Xd=>
 (Vd=[]∧
 bI yd Ld Md Od Qd Sd Td Fd fun Yd=>
 bN yd Yd fun Zd ae be ce de ee=>
 bI a Zd ae be ce de ee Yd fun fe=>
 bN a fe fun ge ie je ke le me=>
 R (.agg ⟨[.int .i64 ge,.slice ie.a ie.n ie.c,.slice je.a je.n je.c,.slice ke.a ke.n ke.c,.slice le.a le.n le.c,.slice me.a me.n me.c]⟩) fe))∧
 (j4 Pr bh 32 32 zd fun ne oe=>
 j4 Pr bh 1312 1312 oe fun pe qe=>
 ay Pr oT [.string oN,.slice pe.a pe.n pe.c,.slice ne.a ne.n ne.c] qe fun se te=>
 br.bC se fun ue=>
 aC ue fun ve xe=>
 dJ ve fun ye ze Ae Be Ce De=>
 aC xe fun Ee Fe=>
 aY .i64 Ee fun Ge=>
 (Fe=[]∧
 bI yd ye ze Ae Be Ce De te fun Ie=>
 bN yd Ie fun Je Le Me Oe Qe Se=>
 bI a Je Le Me Oe Qe Se Ie fun Te=>
 bN a Te fun Ue Ve Xe Ye Ze af=>
 R (.agg ⟨[.int .i64 Ue,.slice Ve.a Ve.n Ve.c,.slice Xe.a Xe.n Xe.c,.slice Ye.a Ye.n Ye.c,.slice Ze.a Ze.n Ze.c,.slice af.a af.n af.c]⟩) Te)))))))
theorem aef {w:World} {R:Value→World→Prop} (h:Nw w R):Ok Pr uw [] w R:=
 aL (m:=⟨true,true⟩) (J:=[]) (L:=[]) aJ Tryz.func10 (by kernel_rfl) ((by kernel_rfl:aK Pr _ _ _ Tryz.f10 _ w R=Nw w R).mpr h)
end Go.Proofs.YtgjoehgomjgckaaGreatDoor
end
section
set_option linter.unusedVariables false
set_option linter.unusedSimpArgs false
namespace Go.Proofs.YtgjoehgomjgckaaGreatDoor
open Go Go.Ev
set_option maxRecDepth 20000
set_option linter.unusedVariables false
theorem ai6 {q:bH} (h:oA q=true):1≤q.n2∧q.n2≤13:=by
 unfold oA aP at h
 simp only [Bool.and_eq_true,decide_eq_true_eq] at h
 exact h.2.2.1
def isKey (op:Int):Bool:=decide (4≤op) && decide (op≤12)
theorem ops {q:bH} (hq:oA q=true):(jx q.n2=true→isKey q.n2=false∧rD q.n2=false∧q.n2≠13∧q.n2≠12)∧(jx q.n2=false→q.n2≠13→isKey q.n2=true)∧(q.n2=13→isKey q.n2=false∧jx q.n2=false∧rD q.n2=false)∧(rD q.n2=true→q.n2≠13∧q.n2≠12)∧(isKey q.n2=true→jx q.n2=false∧q.n2≠13):=by
 have:=ai6 hq
 unfold jx isKey rD
 refine ⟨fun h=>?_,fun h h2=>?_,fun h=>?_,fun h=>?_,fun h=>?_⟩ <;> simp only [Bool.or_eq_true,Bool.or_eq_false_iff,Bool.and_eq_true,Bool.and_eq_false_iff,decide_eq_true_eq,decide_eq_false_iff_not] at * <;> omega
end Go.Proofs.YtgjoehgomjgckaaGreatDoor
end
section
set_option linter.unusedVariables false
set_option linter.unusedSimpArgs false
namespace Go.Proofs.YtgjoehgomjgckaaGreatDoor
open Go Go.Ev
set_option maxRecDepth 20000
set_option linter.unusedVariables false
theorem RT {vs:List bn}:∀ (n:Nat),(∀ i,i<n→gA (vs.getD i vz) ((i:Int)+1)=true)→l9 vs n=true
 | 0,_=>rfl
 | n+1,h=>by
  show (l9 vs n && gA (vs.getD n vz) ((n:Int)+1))=true
  rw [RT n fun i hi=>h i (by omega),h n (by omega)]; rfl
theorem ake (n:Int) (aq:List B8) (h:aq.length=64):gA ⟨n,1,0,aq⟩ n=true:=by
 unfold gA
 rw [decide_eq_true (show (bn.mk n 1 0 aq).n=n from rfl),if_neg (show ¬ (1:Int)=3 by decide),if_neg (show ¬ (1:Int)=4 by decide),if_pos (.inl rfl)]
 simp [h]
theorem XG {k:aV} {aq:List B8} (h:oF k aq.length=0):cS (iS k aq)=true∧(iS k aq).aH=k.aH ++ [⟨(k.aH.length:Int)+1,1,0,aq⟩]:=by
 have e:iS k aq=⟨k.id,k.ten,k.set,k.aH ++ [⟨(k.aH.length:Int)+1,1,0,aq⟩]⟩:=by unfold iS; rw [if_pos h]
 rw [e]
 refine ⟨?_,rfl⟩
 unfold oF at h
 split at h
 ·rename_i hk
  split at h
  ·rename_i gV
   split at h
   ·omega
   ·rename_i h5
    obtain ⟨a1,a2,a3,a4,a5⟩:=wS hk
    unfold cS
    have hl:(k.aH ++ [bn.mk ((k.aH.length:Int)+1) 1 0 aq]).length=k.aH.length+1:=by simp
    have dU:l9 (k.aH ++ [bn.mk ((k.aH.length:Int)+1) 1 0 aq]) (k.aH ++ [bn.mk ((k.aH.length:Int)+1) 1 0 aq]).length=true:=?_
    rw [dU]
    ·unfold cS at hk
     unfold aP at *
     rw [hl]
     simp only [Bool.and_eq_true,decide_eq_true_eq,and_true] at *
     omega
    ·refine RT _ fun i hi=>?_
     rw [hl] at hi
     rw [List.getD_eq_getElem?_getD]
     rcases Nat.lt_or_ge i k.aH.length with h | h
     ·rw [List.getElem?_append_left h,← List.getD_eq_getElem?_getD]; exact a5 i h
     ·have:i=k.aH.length:=by omega
      subst this
      rw [List.getElem?_append_right (Nat.le_refl _),Nat.sub_self]
      exact ake _ _ gV
  ·omega
 ·omega
end Go.Proofs.YtgjoehgomjgckaaGreatDoor
end
section
set_option linter.unusedVariables false
set_option linter.unusedSimpArgs false
namespace Go.Proofs.YtgjoehgomjgckaaGreatDoor
open Go Go.Ev
set_option maxRecDepth 20000
set_option linter.unusedVariables false
theorem alj (q:bH) (lb aq:List B8) (t:aS):t.aG.length≤(mh q lb aq t).aG.length∧(mh q lb aq t).aG.length≤t.aG.length+1:=by
 unfold mh
 split
 ·exact ⟨Nat.le_refl _,Nat.le_succ _⟩
 split
 ·show t.aG.length≤(t.aG ++ [rQ q lb t]).length∧(t.aG ++ [rQ q lb t]).length≤_
  rw [List.length_append,List.length_singleton]; omega
 split
 ·exact ⟨Nat.le_refl _,Nat.le_succ _⟩
 split
 ·exact ⟨Nat.le_refl _,Nat.le_succ _⟩
 split
 ·exact ⟨Nat.le_refl _,Nat.le_succ _⟩
 ·exact ⟨Nat.le_refl _,Nat.le_succ _⟩
end Go.Proofs.YtgjoehgomjgckaaGreatDoor
end
section
set_option linter.unusedVariables false
set_option linter.unusedSimpArgs false
namespace Go.Proofs.YtgjoehgomjgckaaGreatDoor
open Go Go.Ev Go.RowKit
set_option maxRecDepth 20000
set_option linter.unusedVariables false
theorem ai7:((Pr.fieldsOf dV).toList.map fun f=>(f.type,f.offset,decide (f.name= "_")))=[(bG,0,false),(bG,1,false),(yU,2,false)]:=by kernel_rfl
theorem ame:Pr.underlying dV=some (.struct (Pr.fieldsOf dV)):=by kernel_rfl
theorem alk:Pr.stoodInHeld dV=false:=by kernel_rfl
theorem akf:Pr.eqGuardType Pr.depth dV=false:=by kernel_rfl
theorem akg (a b:Int) (n:ByteArray) (w:World):(Op.equalIn 10000 dV (.agg ⟨ko a b n⟩) (.agg ⟨ko a b n⟩)).run Pr w=.ok true w:=by
 rw [show 10000=9999+1 from rfl,run_equalIn_struct w 9999 dV _ _ ame alk]
 refine Np _ _ _ _ _ fun f hf=>?_
 have hm:(f.type,f.offset,decide (f.name= "_"))∈((Pr.fieldsOf dV).toList.map fun f=>(f.type,f.offset,decide (f.name= "_"))):=List.mem_map_of_mem hf
 rw [ai7] at hm
 have hI:∀ z:Int,(Op.equalIn 9999 bG (.int .i64 z) (.int .i64 z)).run Pr w=.ok true w:=fun z=>by
  rw [show 9999=9998+1 from rfl,run_equalIn_int w 9998 bG .i64 .i64 z z YE]
  simp
 have hB:∀ z:ByteArray,(Op.equalIn 9999 yU (.string z) (.string z)).run Pr w=.ok true w:=fun z=>by
  rw [show 9999=9998+1 from rfl,run_equalIn_string w 9998 yU z z ah6]
  simp
 have q0:(Go.part bG ⟨ko a b n⟩ 0).run Pr w=.ok (.int .i64 a) w:=by kernel_rfl
 have q1:(Go.part bG ⟨ko a b n⟩ 1).run Pr w=.ok (.int .i64 b) w:=by kernel_rfl
 have q2:(Go.part yU ⟨ko a b n⟩ 2).run Pr w=.ok (.string n) w:=by kernel_rfl
 simp only [List.mem_cons,List.not_mem_nil,or_false,Prod.mk.injEq,decide_eq_false_iff_not] at hm
 rcases hm with ⟨h1,h2,h3⟩ | ⟨h1,h2,h3⟩ | ⟨h1,h2,h3⟩
 ·rw [h1,h2]; exact ⟨_,h3,q0,q0,hI _⟩
 ·rw [h1,h2]; exact ⟨_,h3,q1,q1,hI _⟩
 ·rw [h1,h2]; exact ⟨_,h3,q2,q2,hB _⟩
theorem amf {a b:Int} {n:ByteArray} {w:World} {K:Bool→World→Prop} (h:K false w):Fs Pr .neq dV (ko a b n) (ko a b n) w K:=by
 refine ⟨.bool false,w,?_,false,rfl,h⟩
 simp only [Sem.run_bind,run_eqGuard_agg w _ _ _ _ _ _ akf,Result.andThen,run_neq_struct,akg]
 rfl
theorem ack (x y:ah) (l:List ct) (w:World) (hx:fU w x l) (hy:fU w y l) (hl:l.length≤1000000):Ok Pr KS [.slice x.a x.n x.c,.slice y.a y.n y.c] w fun v w'=>v=.bool true∧Mod [] w w':=by
 refine acf ?_
 unfold K0
 have bT:=hx.len
 have jS:=hy.len
 refine ite_false (by rw [← bT,← jS]; simp) ?_
 refine dw 0 l.length (fun i w'=>Mod [] w w') rfl (by omega) (Mod.refl _ _) ?_ ?_
 ·intro again i w1 _ hi m aM
  have m':=m.trans (Mod.drew [] w1)
  obtain ⟨h1,c1⟩:=(hx.aE m').at hi
  obtain ⟨h2,c2⟩:=(hy.aE m').at hi
  exact ite_true (decide_eq_true (by omega)) ⟨h1,C2 c1 ⟨h2,C2 c2 (amf (ite_false rfl ⟨⟨by omega,by omega⟩,aM _ m'⟩))⟩⟩
 ·intro again w1 m
  exact ite_false (decide_eq_false (by omega)) ⟨rfl,m⟩
theorem acm (v:bn) (x y:ah) (hl:v.aq.length≤1000000) (w:World) (hx:kB w x v) (hy:kB w y v):Ok Pr KR [.agg ⟨v.cs x⟩,.agg ⟨v.cs y⟩] w fun r w'=>r=.bool true∧Mod [] w w':=by
 refine ace ?_
 unfold KZ
 refine (ak.start w).nw fun p w1 H _=>H.nw fun p1 w2 H _=>?_
 have H:ak w [] w2 [.av p (v.cs x) cI,.av p1 (v.cs y) cI]:=H
 refine H.an 0 rfl (au p 0) rfl (H.an 1 rfl (au p1 0) rfl (H.an 0 rfl (au p 1) rfl (H.an 1 rfl (au p1 1) rfl (H.an 0 rfl (au p 2) rfl (H.an 1 rfl (au p1 2) rfl (H.ax 0 rfl (au p 3) rfl (H.ax 1 rfl (au p1 3) rfl (ite_true (by simp) ?_))))))))
 refine aB (C1 x y v.aq v.aq _ (Bytes.aE hx H.mod) (Bytes.aE hy H.mod) (by omega)) ?_
 rintro _ w3 ⟨rfl,m⟩
 exact bk ⟨by rw [decide_eq_true rfl],H.mod.trans m⟩
theorem adC (k:aV) (x y:ah) (hl:k.aH.length≤1000000) (iL:∀ v∈k.aH,v.aq.length≤1000000) (w:World) (hx:fY w x k.aH) (hy:fY w y k.aH):Ok Pr Ml [.agg ⟨k.cs x⟩,.agg ⟨k.cs y⟩] w fun r w'=>r=.bool true∧Mod [] w w':=by
 refine adp ?_
 unfold Mx
 have bT:=hx.len
 have jS:=hy.len
 refine (ak.start w).nw fun p w1 H _=>H.nw fun p1 w2 H _=>?_
 have H:ak w [] w2 [.av p (k.cs x) aZ,.av p1 (k.cs y) aZ]:=H
 refine H.an 0 rfl (au p 0) rfl (H.an 1 rfl (au p1 0) rfl (H.an 0 rfl (au p 1) rfl (H.an 1 rfl (au p1 1) rfl (H.an 0 rfl (au p 2) rfl (H.an 1 rfl (au p1 2) rfl (H.ax 0 rfl (au p 3) rfl (H.ax 1 rfl (au p1 3) rfl (ite_false (by rw [← bT,← jS]; simp) ?_))))))))
 refine dw 0 k.aH.length (fun i w'=>ak w [] w' [.av p (k.cs x) aZ,.av p1 (k.cs y) aZ]) rfl (by omega) H ?_ ?_
 ·intro again i w3 _ hi H aM
  have D:=H.drew
  have hv:k.aH[i]? = some (k.aH.getD i vz):=by rw [List.getD_eq_getElem?_getD,List.getElem?_eq_getElem hi]; rfl
  obtain ⟨h1,u1,e1,c1⟩:=Dv.at bn.cu (by omega) (hx.aE D.mod) hv
  obtain ⟨h2,u2,e2,c2⟩:=Dv.at bn.cu (by omega) (hy.aE D.mod) hv
  refine H.ax 0 rfl (au p 3) rfl (ite_true (decide_eq_true (by omega)) (D.ax 0 rfl (au p 3) rfl ⟨h1,yq c1 (D.ax 1 rfl (au p1 3) rfl ⟨h2,yq c2 ?_⟩)⟩))
  refine aB (acm (k.aH.getD i vz) u1 u2 (iL _ (by rw [List.getD_eq_getElem?_getD,List.getElem?_eq_getElem hi]; exact List.getElem_mem hi)) _ e1 e2) ?_
  rintro _ w4 ⟨rfl,m⟩
  exact bk (ite_false rfl ⟨⟨by omega,by omega⟩,aM _ (D.frame m)⟩)
 ·intro again w3 H
  exact H.ax 0 rfl (au p 3) rfl (ite_false (decide_eq_false (by omega)) ⟨rfl,H.mod⟩)
theorem acQ (a b:Int) (x1 x2 y1 y2:ah) (l m:List B8) (hl:l.length≤1000000000) (hm:m.length≤1000000000) (w:World) (h1:Bytes w x1 l) (h2:Bytes w x2 m) (h3:Bytes w y1 l) (h4:Bytes w y2 m):Ok Pr Lx [.agg ⟨dN a b x1 x2⟩,.agg ⟨dN a b y1 y2⟩] w fun r w'=>r=.bool true∧Mod [] w w':=by
 refine acF ?_
 unfold LG
 refine (ak.start w).nw fun p w1 H _=>H.nw fun p1 w2 H _=>?_
 have H:ak w [] w2 [.av p (dN a b x1 x2) bD,.av p1 (dN a b y1 y2) bD]:=H
 refine H.an 0 rfl (au p 0) rfl (H.an 1 rfl (au p1 0) rfl (H.an 0 rfl (au p 1) rfl (H.an 1 rfl (au p1 1) rfl (H.ax 0 rfl (au p 2) rfl (H.ax 1 rfl (au p1 2) rfl (ite_true (by simp) ?_))))))
 refine aB (C1 x1 y1 l l _ (h1.aE H.mod) (h3.aE H.mod) (by omega)) ?_
 rintro _ w3 ⟨rfl,m3⟩
 have H:=H.frame m3
 refine bk (H.ax 0 rfl (au p 3) rfl (H.ax 1 rfl (au p1 3) rfl (ite_true (decide_eq_true rfl) ?_)))
 refine aB (C1 x2 y2 m m _ (h2.aE H.mod) (h4.aE H.mod) (by omega)) ?_
 rintro _ w4 ⟨rfl,m4⟩
 exact bk ⟨by rw [decide_eq_true rfl],H.mod.trans m4⟩
theorem acy (x y:ah) (l:List cB) (hl:l.length≤1000) (hk:∀ p∈l,p.key.length≤1000000) (w:World) (hx:um w x l) (hy:um w y l):Ok Pr Lh [.slice x.a x.n x.c,.slice y.a y.n y.c] w fun v w'=>v=.bool true∧Mod [] w w':=by
 refine acp ?_
 unfold Lq
 have bT:=hx.len
 have jS:=hy.len
 refine ite_false (by rw [← bT,← jS]; simp) ?_
 refine dw 0 l.length (fun i w'=>Mod [] w w') rfl (by omega) (Mod.refl _ _) ?_ ?_
 ·intro again i w1 _ hi m aM
  have m':=m.trans (Mod.drew [] w1)
  obtain ⟨h1,u1,e1,c1⟩:=(hx.aE m').at hi
  obtain ⟨h2,u2,e2,c2⟩:=(hy.aE m').at hi
  refine ite_true (decide_eq_true (by omega)) ⟨h1,_,c1 0 _ rfl,h2,_,c2 0 _ rfl,ite_false (by simp) ⟨h1,_,c1 1 _ rfl,h2,_,c2 1 _ rfl,ite_false (by simp) ⟨h1,_,c1 3 _ rfl,h2,_,c2 3 _ rfl,ite_false (by simp) ⟨h1,_,c1 4 _ rfl,h2,_,c2 4 _ rfl,ite_false (by simp) ⟨h1,u1,c1 2 _ rfl,h2,u2,c2 2 _ rfl,?_⟩⟩⟩⟩⟩
  refine aB (C1 u1 u2 _ _ _ e1 e2 (Nat.lt_of_le_of_lt (hk _ (by rw [List.getD_eq_getElem?_getD,List.getElem?_eq_getElem hi]; exact List.getElem_mem hi)) (by omega))) ?_
  rintro _ w2 ⟨rfl,m2⟩
  exact bk (ite_false (by simp) ⟨⟨by omega,by omega⟩,aM _ (m'.trans m2)⟩)
 ·intro again w1 m
  exact ite_false (decide_eq_false (by omega)) ⟨rfl,m⟩
end Go.Proofs.YtgjoehgomjgckaaGreatDoor
end
section
set_option linter.unusedVariables false
set_option linter.unusedSimpArgs false
namespace Go.Proofs.YtgjoehgomjgckaaGreatDoor
open Go Go.Ev
set_option maxRecDepth 20000
set_option linter.unusedVariables false
theorem acR (s1 s2:dY) (t:aS) (hs:t.small) (w:World) (hx:gL w s1 t) (hy:gL w s2 t):Ok Pr Lw [.agg ⟨t.cs s1⟩,.agg ⟨t.cs s2⟩] w fun v w'=>v=.bool true∧Mod [] w w':=by
 refine acE ?_
 unfold LF
 have At:=hs.sec
 have x5:=hs.ten
 have x6:=hs.aG
 have vY:=hs.key
 have Az:=hs.gr
 have k7:=hx.key.len
 have oO:=hy.key.len
 refine (ak.start w).nw fun p w1 H _=>H.nw fun p1 w2 H _=>?_
 have H:ak w [] w2 [.av p (t.cs s1) aN,.av p1 (t.cs s2) aN]:=H
 refine ku fun go bZ=>?_
 refine H.an 0 rfl (au p 0) rfl (H.an 1 rfl (au p1 0) rfl (H.ax 0 rfl (au p 1) rfl (H.ax 1 rfl (au p1 1) rfl (ite_false (by simp) ?_))))
 refine aB (C1 s1.sec s2.sec t.bS t.bS _ (Bytes.aE hx.sec H.mod) (Bytes.aE hy.sec H.mod) (by omega)) ?_
 rintro _ w6 ⟨rfl,m6⟩
 have H:=H.frame m6
 refine bk (H.ax 0 rfl (au p 2) rfl (H.ax 1 rfl (au p1 2) rfl (ite_false (by simp) ?_)))
 refine aB (ack s1.ten s2.ten t.bY _ (hx.ten.aE H.mod) (hy.ten.aE H.mod) (by omega)) ?_
 rintro _ w7 ⟨rfl,m7⟩
 have H:=H.frame m7
 refine bk (H.ax 0 rfl (au p 3) rfl (H.ax 1 rfl (au p1 3) rfl (ite_false rfl ?_)))
 refine aB (acy s1.aG s2.aG t.aG x6 hs.pk _ (hx.aG.aE H.mod) (hy.aG.aE H.mod)) ?_
 rintro _ w8 ⟨rfl,m8⟩
 have H:=H.frame m8
 refine bk (H.ax 0 rfl (au p 4) rfl (H.ax 1 rfl (au p1 4) rfl (H.ax 0 rfl (au p 5) rfl (H.ax 1 rfl (au p1 5) rfl (ite_false (by rw [← k7,← oO]; simp) ?_)))))
 refine aB (acs s1.gr s2.gr t.bz _ (hx.gr.aE H.mod) (hy.gr.aE H.mod) (by omega)) ?_
 rintro _ w9 ⟨rfl,m9⟩
 have H:=H.frame m9
 refine bk (ite_false rfl (bZ w9 ?_))
 refine dw 0 t.keys.length (fun i w'=>ak w [] w' [.av p (t.cs s1) aN,.av p1 (t.cs s2) aN]) rfl (by omega) H ?_ ?_
 ·intro again i w4 _ hi H aM
  have D:=H.drew
  obtain ⟨h1,u1,e1,c1⟩:=(hx.key.aE D.mod).at hi
  obtain ⟨h2,u2,e2,c2⟩:=(hy.key.aE D.mod).at hi
  have vG:=wT hs hi
  refine H.ax 0 rfl (au p 4) rfl (ite_true (decide_eq_true (by omega)) (D.ax 0 rfl (au p 4) rfl ⟨h1,qn c1 (D.ax 1 rfl (au p1 4) rfl ⟨h2,qn c2 ?_⟩)⟩))
  refine aB (adC (t.keys.getD i kz) u1 u2 (by omega) (hs.aq _ (by rw [List.getD_eq_getElem?_getD,List.getElem?_eq_getElem hi]; exact List.getElem_mem hi)) _ e1 e2) ?_
  rintro _ w5 ⟨rfl,m5⟩
  exact bk (ite_false rfl ⟨⟨by omega,by omega⟩,aM _ (D.frame m5)⟩)
 ·intro again w4 H
  exact H.ax 0 rfl (au p 4) rfl (ite_false (decide_eq_false (by omega)) ⟨rfl,H.mod⟩)
end Go.Proofs.YtgjoehgomjgckaaGreatDoor
end
section
set_option linter.unusedVariables false
set_option linter.unusedSimpArgs false
namespace Go.Proofs.YtgjoehgomjgckaaGreatDoor
open Go Go.Ev
set_option maxRecDepth 20000
set_option linter.unusedVariables false
theorem alm {A:Type} {l:List A} {d:A} {P:A→Prop} (h:∀ j,j<l.length→P (l.getD j d)):∀ a∈l,P a:=fun a ha=>by
 obtain ⟨j,hj,e⟩:=List.getElem_of_mem ha
 have:=h j hj
 rw [List.getD_eq_getElem?_getD,List.getElem?_eq_getElem hj] at this
 simpa [e] using this
end Go.Proofs.YtgjoehgomjgckaaGreatDoor
end
section
set_option linter.unusedVariables false
set_option linter.unusedSimpArgs false
namespace Go.Proofs.YtgjoehgomjgckaaGreatDoor
open Go Go.Ev
set_option maxRecDepth 20000
set_option linter.unusedVariables false
def fT:aS:=F6 oN (List.replicate 1312 0) (List.replicate 32 0)
def AT (w w':World) (v:Value) (T:aS):Prop:=∃ s ys zs fp fq,v=.agg ⟨T.cs s⟩∧ak w [] w' (iT s T ys zs fp fq)
theorem U4 (w:World):Ok Pr uw [] w fun v w'=>AT w w' v fT:=by
 refine aef ?_
 unfold Nw
 rw [uH]
 have first:∀ (x y:ah) (w3:World),Bytes w3 x (List.replicate 1312 0)→Bytes w3 y (List.replicate 32 0)→Ok Pr oT [.string oN,.slice x.a x.n x.c,.slice y.a y.n y.c] w3 fun v w'=>∃ c,aaw w3 w' v fT [.int .i64 c] []:=fun x y w3 h1 h2=>by
  refine (afz oN x y _ _ (by simp) (by simp) w3 h1 h2).mono ?_
  intro v w' h
  exact ⟨_,h⟩
 generalize fT=T at *
 refine (ak.start w).nw fun p w1 H _=>?_
 have H:ak w [] w1.drew [.av p (fV.cs sZ) aN]:=H.drew
 have post:∀ {w5:World} {p2:Nat} {s:dY} {ys zs:List ah} {fp fq:List Nat},ak w [] w5 ([.av p (fV.cs sZ) aN,.av p2 (fV.cs sZ) aN] ++ iT s T ys zs fp fq)→
   bI ⟨p2,0,none⟩ T.clock s.sec s.ten s.aG s.key s.gr w5 fun w6=>bN ⟨p2,0,none⟩ w6 fun f0 f1 f2 f3 f4 f5=>bI ⟨p,0,none⟩ f0 f1 f2 f3 f4 f5 w6 fun w7=>bN ⟨p,0,none⟩ w7 fun g0 g1 g2 g3 g4 g5=>
    AT w w7 (.agg ⟨[.int .i64 g0,.slice g1.a g1.n g1.c,.slice g2.a g2.n g2.c,.slice g3.a g3.n g3.c,.slice g4.a g4.n g4.c,.slice g5.a g5.n g5.c]⟩) T:=by
  intro w5 p2 s ys zs fp fq K
  exact K.bI 1 rfl rfl fun w6 K=>K.bN 1 rfl (K.bI 0 rfl rfl fun w7 K=>K.bN 0 rfl ⟨s,ys,zs,fp,fq,rfl,K.drop 2⟩)
 have B3:∀ {w8:World} {p2:Nat} {x y:ah},ak w [] w8 [.av p (fV.cs sZ) aN,.av p2 (fV.cs sZ) aN,.row bh 1 x (bp (List.replicate 1312 0)),.row bh 1 y (bp (List.replicate 32 0))]→
   ay Pr oT [.string oN,.slice x.a x.n x.c,.slice y.a y.n y.c] w8 fun v w9=>br.bC v fun vs=>aC vs fun v1 r=>dJ v1 fun t0 t1 t2 t3 t4 t5=>aC r fun v2 r2=>aY .i64 v2 fun n=>(r2=[]∧
   bI ⟨p2,0,none⟩ t0 t1 t2 t3 t4 t5 w9 fun w6=>bN ⟨p2,0,none⟩ w6 fun f0 f1 f2 f3 f4 f5=>bI ⟨p,0,none⟩ f0 f1 f2 f3 f4 f5 w6 fun w7=>bN ⟨p,0,none⟩ w7 fun g0 g1 g2 g3 g4 g5=>
    AT w w7 (.agg ⟨[.int .i64 g0,.slice g1.a g1.n g1.c,.slice g2.a g2.n g2.c,.slice g3.a g3.n g3.c,.slice g4.a g4.n g4.c,.slice g5.a g5.n g5.c]⟩) T):=by
  intro w8 p2 x y K
  refine aB (first x y w8 (Own.bytes (K.qE 2 rfl)) (Own.bytes (K.qE 3 rfl))) ?_
  rintro _ w9 ⟨c,s,ys,zs,fp,fq,rfl,G⟩
  have K:=K.join G
  refine ⟨_,rfl,iN ⟨_,rfl,rfl,post (ys:=ys) (zs:=zs) (fp:=fp) (fq:=fq) ?_⟩⟩
  exact K.dh [0,1,4,5,6,7,8,9,10] (by decide) rfl
 have Z1:∀ {w8:World} {x y:ah},ak w [] w8 [.av p (fV.cs sZ) aN,.row bh 1 x (bp (List.replicate 1312 0)),.row bh 1 y (bp (List.replicate 32 0))]→
   ay Pr oT [.string oN,.slice x.a x.n x.c,.slice y.a y.n y.c] w8 fun v w4=>br.bC v fun vs=>aC vs fun v1 r=>dJ v1 fun t0 t1 t2 t3 t4 t5=>aC r fun v2 r2=>aY .i64 v2 fun n=>(r2=[]∧
   nw aN (fV.cs sZ) w4 fun a w9=>bI a t0 t1 t2 t3 t4 t5 w9 fun w6=>bN a w6 fun f0 f1 f2 f3 f4 f5=>bI ⟨p,0,none⟩ f0 f1 f2 f3 f4 f5 w6 fun w7=>bN ⟨p,0,none⟩ w7 fun g0 g1 g2 g3 g4 g5=>
    AT w w7 (.agg ⟨[.int .i64 g0,.slice g1.a g1.n g1.c,.slice g2.a g2.n g2.c,.slice g3.a g3.n g3.c,.slice g4.a g4.n g4.c,.slice g5.a g5.n g5.c]⟩) T):=by
  intro w8 x y K
  refine aB (first x y w8 (Own.bytes (K.qE 1 rfl)) (Own.bytes (K.qE 2 rfl))) ?_
  rintro _ w9 ⟨c,s,ys,zs,fp,fq,rfl,G⟩
  have K:=K.join G
  refine ⟨_,rfl,iN ⟨_,rfl,rfl,K.nw fun p2 cJ K _=>post (ys:=ys) (zs:=zs) (fp:=fp) (fq:=fq) ?_⟩⟩
  exact K.dh [0,10,3,4,5,6,7,8,9] (by decide) rfl
 have z8:zc Pr bh=[.int .u8 0]:=by kernel_rfl
 refine ⟨?_,?_,?_⟩
 ·refine H.tR iG z8 rfl rfl (by decide) fun x w2 H _=>⟨H.tR iG z8 rfl rfl (by decide) fun y w3 H _=>⟨Z1 H,H.nw fun p2 w8 H _=>B3 (H.dh [0,3,1,2] (by decide) rfl)⟩,H.nw fun p2 w8 H _=>H.tR iG z8 rfl rfl (by decide) fun y w3 H _=>B3 (H.dh [0,2,1,3] (by decide) rfl)⟩
 ·refine H.tR iG z8 rfl rfl (by decide) fun y w2 H _=>⟨H.tR iG z8 rfl rfl (by decide) fun x w3 H _=>⟨Z1 (H.dh [0,2,1] (by decide) rfl),H.nw fun p2 w8 H _=>B3 (H.dh [0,3,2,1] (by decide) rfl)⟩,H.nw fun p2 w8 H _=>H.tR iG z8 rfl rfl (by decide) fun x w3 H _=>B3 (H.dh [0,2,3,1] (by decide) rfl)⟩
 ·refine H.nw fun p2 w8 H _=>⟨H.tR iG z8 rfl rfl (by decide) fun x w2 H _=>H.tR iG z8 rfl rfl (by decide) fun y w3 H _=>B3 H,H.tR iG z8 rfl rfl (by decide) fun y w2 H _=>H.tR iG z8 rfl rfl (by decide) fun x w3 H _=>B3 (H.dh [0,1,3,2] (by decide) rfl)⟩
end Go.Proofs.YtgjoehgomjgckaaGreatDoor
end
section
set_option linter.unusedVariables false
set_option linter.unusedSimpArgs false
namespace Go.Proofs.YtgjoehgomjgckaaGreatDoor
open Go Go.Ev
set_option maxRecDepth 20000
set_option linter.unusedVariables false
def a0:bH:=⟨1,1,1,1,0,0,0,0,0,0,0,S_a,⟨none,0,0⟩,⟨none,0,0⟩⟩
theorem aw1:dC a0 [] [] [] fT=0:=by kernel_rfl
theorem aw2:(dR a0 [] [] [] fT).id=2:=by kernel_rfl
theorem aw3:(dT a0 [] [] [] fT).bY.length=2:=by kernel_rfl
theorem aw4:dC a0 [] [] [] (dT a0 [] [] [] fT)=8:=by kernel_rfl
theorem aw5:xu (dT a0 [] [] [] fT) 9=0:=by kernel_rfl
theorem aw6:Jh (dT a0 [] [] [] fT) 9=0:=by kernel_rfl
theorem aw7:(I9 (dT a0 [] [] [] fT) 9).clock=9:=by kernel_rfl
end Go.Proofs.YtgjoehgomjgckaaGreatDoor
end
section
set_option linter.unusedVariables false
set_option linter.unusedSimpArgs false
namespace Go.Proofs.YtgjoehgomjgckaaGreatDoor
open Go Go.Ev
set_option maxRecDepth 20000
set_option linter.unusedVariables false
def wg (k:aV):Prop:=k.aH.length≤1000∧∀ v∈k.aH,v.aq.length≤1000000
theorem I1:wg kz:=⟨by show 0≤1000; omega,fun v hv=>by cases hv⟩
theorem aln {id ten set:Int} {aq:List B8} (h:aq.length≤1000000):wg (qH id ten set aq):=by
 unfold qH
 split
 ·exact ⟨by show 1≤1000; omega,fun v hv=>by rw [List.mem_singleton.1 hv]; exact h⟩
 ·exact I1
theorem alo {k:aV} {aq:List B8} (hk:wg k) (h:aq.length≤1000000):wg (iS k aq):=by
 by_cases h0:oF k aq.length=0
 ·obtain ⟨h1,h2⟩:=XG h0
  obtain ⟨_,_,_,h5,_⟩:=wS h1
  refine ⟨by omega,fun v hv=>?_⟩
  rw [h2] at hv
  rcases List.mem_append.1 hv with h3 | h3
  ·exact hk.2 v h3
  ·rw [List.mem_singleton.1 h3]; exact h
 ·unfold iS; rw [if_neg h0]; exact I1
theorem Rg {A:Type} {l:List A} {i:Nat} {d:A}:l.getD i d∈l∨l.getD i d=d:=by
 rw [List.getD_eq_getElem?_getD]
 rcases Nat.lt_or_ge i l.length with h | h
 ·rw [List.getElem?_eq_getElem h]; exact .inl (List.getElem_mem h)
 ·rw [List.getElem?_eq_none h]; exact .inr rfl
theorem QN {t:aS} (hs:t.small):∀ k∈t.keys,wg k:=fun k hk=>⟨hs.bq k hk,hs.aq k hk⟩
theorem alp {k:aV} {op bq dX clock:Int} (hk:wg k):wg (pK k op bq dX clock):=by
 unfold pK
 split
 ·refine ⟨by show (k.aH.set _ _).length≤1000; rw [List.length_set]; exact hk.1,fun v hv=>?_⟩
  rcases List.mem_or_eq_of_mem_set hv with h | h
  ·exact hk.2 v h
  ·rw [h]
   show (k.aH.getD (bq - 1).toNat vz).aq.length≤1000000
   rcases Rg (l:=k.aH) (i:=(bq - 1).toNat) (d:=vz) with h2 | h2
   ·exact hk.2 _ h2
   ·rw [h2]; exact Nat.zero_le _
 ·exact I1
theorem alq (ts:List ct) (par:Int) (name:ByteArray):(rP ts par name).length≤1000:=by
 unfold rP
 split
 ·rename_i h
  have hm:gJ ts=true:=by
   unfold oG at h
   split at h
   ·assumption
   ·omega
  unfold gJ at hm
  rw [Bool.and_eq_true,decide_eq_true_eq] at hm
  rw [List.length_append,List.length_singleton]
  omega
 ·exact Nat.zero_le _
theorem akh {l:List bO} {g:bO} (h:oH l g=0):gp l=true:=by
 unfold oH at h
 split at h
 ·rename_i h2; exact h2.1
 ·omega
theorem aii {q:bH} {t:aS} (hs:t.small) (hf:(iW q).fit):(xI q t).bz.length≤1000∧∀ g∈(xI q t).bz,g.fit:=by
 show (if q.n2=13 then lX t.bz q.n7 else k6 t.bz (iW q)).length≤1000∧∀ g∈(if q.n2=13 then lX t.bz q.n7 else k6 t.bz (iW q)),g.fit
 split
 ·unfold lX
  split
  ·rw [List.length_set]
   refine ⟨hs.gr,fun g hg=>?_⟩
   rcases List.mem_or_eq_of_mem_set hg with h | h
   ·exact hs.gf g h
   ·rw [h]
    show -9223372036854775808≤(t.bz.getD (q.n7 - 1).toNat gz).n3
    rcases Rg (l:=t.bz) (i:=(q.n7 - 1).toNat) (d:=gz) with h2 | h2
    ·exact hs.gf _ h2
    ·rw [h2]; decide
  ·exact ⟨Nat.zero_le _,fun g hg=>by cases hg⟩
 ·unfold k6
  split
  ·rename_i h
   have:=YC (akh h)
   rw [List.length_append,List.length_singleton]
   refine ⟨by omega,fun g hg=>?_⟩
   rcases List.mem_append.1 hg with h2 | h2
   ·exact hs.gf g h2
   ·rw [List.mem_singleton.1 h2]; exact hf
  ·exact ⟨Nat.zero_le _,fun g hg=>by cases hg⟩
theorem Wk {t:aS} (hs:t.small) {ks:List aV} (hl:ks.length≤1000) (h:∀ k∈ks,wg k):({ t with keys:=ks }:aS).small:=
 { hs with key:=hl,bq:=fun k hk=>(h k hk).1,aq:=fun k hk=>(h k hk).2 }
theorem ai8 {q:bH} {lb aq:List B8} {t:aS} (hf:Fit q t) (hg:(iW q).fit) (Uj:lb.length≤1000000) (dS:aq.length≤1000000):(mh q lb aq t).small:=by
 have hs:=hf.small
 have hp6:=hf.aG
 have hk6:=hf.key
 unfold mh
 split
 ·exact { hs with ten:=alq _ _ _ }
 split
 ·refine { hs with aG:=?_,pk:=fun p hp=>?_ }
  ·show (t.aG ++ [rQ q lb t]).length≤1000
   rw [List.length_append,List.length_singleton]; omega
  ·rcases List.mem_append.1 (show p∈t.aG ++ [rQ q lb t] from hp) with h | h
   ·exact hs.pk p h
   ·rw [List.mem_singleton.1 h]; exact Uj
 split
 ·refine Wk hs (by rw [List.length_append,List.length_singleton]; omega) fun k hk=>?_
  rcases List.mem_append.1 hk with h | h
  ·exact QN hs k h
  ·rw [List.mem_singleton.1 h]; exact aln dS
 split
 ·exact hs
 split
 ·obtain ⟨h1,h2⟩:=aii hs hg
  exact { hs with gr:=h1,gf:=h2 }
 ·refine Wk hs (by rw [List.length_set]; exact hs.key) fun k hk=>?_
  rcases List.mem_or_eq_of_mem_set hk with h | h
  ·exact QN hs k h
  ·have yh:wg (cv q t):=by
    unfold cv
    rcases Rg (l:=t.keys) (i:=(q.n4 - 1).toNat) (d:=kz) with h2 | h2
    ·exact QN hs _ h2
    ·rw [h2]; exact I1
   rw [h]
   unfold Cr
   split
   ·exact alo yh dS
   ·exact alp yh
theorem Wl:fV.small:=⟨Nat.zero_le _,Nat.zero_le _,Nat.zero_le _,Nat.zero_le _,Nat.zero_le _,fun p h=>(by cases h),fun p h=>(by cases h),fun p h=>(by cases h),fun p h=>(by cases h)⟩
theorem Rh {q:bH} {lb lt aq:List B8} {t:aS} (hs:t.small) (Uj:lb.length≤1000000) (dS:aq.length≤1000000):(dT q lb lt aq t).small:=by
 unfold dT
 split
 ·rename_i h
  have h0:mB q lt t=0:=by
   unfold dC at h
   split at h
   ·assumption
   ·rename_i h2; exact absurd h h2
  have hq:=(Ik h0).2.1
  have hg:(iW q).fit:=by
   have:=VS hq q.n9 (by simp [bH.rest])
   show -9223372036854775808≤q.n9
   omega
  exact ai8 (XE hs h0) hg Uj dS
 ·exact Wl
end Go.Proofs.YtgjoehgomjgckaaGreatDoor
end
section
set_option linter.unusedVariables false
set_option linter.unusedSimpArgs false
namespace Go.Proofs.YtgjoehgomjgckaaGreatDoor
open Go Go.Ev
set_option maxRecDepth 20000
set_option linter.unusedVariables false
theorem XH:fT.small:=by
 have e:fT=kO oN (List.replicate 1312 0) (List.replicate 32 0):=by
  unfold fT F6
  rw [if_pos (by kernel_rfl)]
 rw [e]
 exact Qs (by simp) (by simp)
theorem afB (w:World) (hg:Laid w):Ok Pr AI [] w fun v w'=>v=.bool true∧Mod [] w w':=by
 refine aee ?_
 unfold Nv
 rw [uH,rm]
 have hf:=XH
 have h1:=aw1
 have h2:=aw2
 have h3:=aw3
 have h4:=aw4
 have h5:=aw5
 have h6:=aw6
 have h7:=aw7
 have hT:=Rh (q:=a0) (lb:=[]) (lt:=[]) (aq:=[]) hf (by simp) (by simp)
 generalize eT0:fT=T0 at *
 refine (ak.start w).nw fun p w1 H _=>H.HI 0 rfl (by kernel_rfl) fun w2 H=>?_
 have H:ak w [] w2 [.av p a0.cells kW]:=H
 refine ajC fun go bZ=>?_
 have main:∀ {pt pr:Nat} {er:Value} {w8:World} {s:dY} {ys zs:List ah} {fp fq:List Nat} {y z:ah},ak w [] w8 ([.av p a0.cells kW,.av pt ((dT a0 [] [] [] T0).cs s) aN,.av pr (dN 0 2 y z) bD,aD.err er 0] ++ iT s (dT a0 [] [] [] T0) ys zs fp fq)→go ⟨pt,0,none⟩ ⟨pr,0,none⟩ er w8:=by
  intro pt pr er w8 s ys zs fp fq y z K
  have hx:gL w8 s (dT a0 [] [] [] T0):=o7 (L:=[_,_,_,_]) K
  have htn:=hx.ten.len
  have CD:∀ w',Bytes w' ⟨none,0,0⟩ []:=fun w'=>Sl.nil w' 1
  refine bZ _ _ _ _ (K.bN 1 rfl (K.iX 0 rfl (aB (ux s (dT a0 [] [] [] T0) a0 [] [] ⟨none,0,0⟩ [] hT (by simp) w8 (hg.lU K (by simp)) hx (CD _) (CD _) (CD _)) ?_)))
  rintro _ w4 ⟨s2,jU,zs2,dZ,jV,y2,z2,TQ,rfl,G⟩
  rw [h4] at G ⊢
  have K:=K.join G
  generalize dT a0 [] [] [] (dT a0 [] [] [] T0)=T2 at *
  generalize (dR a0 [] [] [] (dT a0 [] [] [] T0))=R2 at *
  refine ⟨_,rfl,iN (nZ ⟨rfl,K.nw fun p1 w5 K _=>K.nw fun p2 w6 K _=>K.bI 21 rfl rfl fun w7 K=>K.bF 22 rfl rfl fun w8 K=>K.bN 1 rfl ?_⟩)⟩
  refine aB (agy s (dT a0 [] [] [] T0) 9 hT w8 (o7 (L:=[_,_,_,_]) (K.take 11))) ?_
  rintro _ w9 ⟨s3,ys3,zs3,fp3,fq3,Uk,rfl,G3⟩
  rw [h5] at G3
  rw [h6]
  have K:=K.join G3
  refine ⟨_,rfl,iN ⟨_,rfl,rfl,K.nw fun p3 cJ K _=>K.bI 31 rfl rfl fun cY K=>?_⟩⟩
  have e0:gm cY er 0:=K.ok 3 _ rfl
  have e2:gm cY TQ 8:=K.ok 20 _ rfl
  have e3:gm cY Uk 0:=K.ok 30 _ rfl
  refine e0.isNil (K.an 2 rfl (au pr 1) rfl (K.ax 1 rfl (au pt 2) rfl (ite_true ?_ (aB (NT TQ 8 cY (hg.lU K (by simp)) e2) ?_))))
  ·rw [show ((s.ten.n:Nat):Int)=2 by omega]; rfl
  rintro _ fP ⟨rfl,kI⟩
  have K:=K.frame kI
  refine ey (K.an 22 rfl (au p2 0) rfl (ite_true (by decide) ((e3.mod kI).isNil (K.an 31 rfl (au p3 0) rfl ⟨?_,K.mod⟩))))
  rw [h7]; rfl
 have fin:∀ {pt pr:Nat} {er:Value} {w5:World} {s:dY} {ys zs:List ah} {fp fq:List Nat} {y z:ah},ak w [] w5 [.av p a0.cells kW,.av pt (fV.cs sZ) aN,.av pr (dN 0 0 ⟨none,0,0⟩ ⟨none,0,0⟩) bD,aD.err er 0,.row bh 1 s.sec (bp (dT a0 [] [] [] T0).bS),.row dV 3 s.ten (iV (dT a0 [] [] [] T0).bY),.row cR 6 s.gr (e8 (dT a0 [] [] [] T0).bz),.row fR 5 s.aG (bA cB.cs (dT a0 [] [] [] T0).aG ys),.box fp fun w=>bB j8 w ys (dT a0 [] [] [] T0).aG,.row aZ 4 s.key (bA aV.cs (dT a0 [] [] [] T0).keys zs),.box fq fun w=>bB iD w zs (dT a0 [] [] [] T0).keys]→
   bI ⟨pt,0,none⟩ (dT a0 [] [] [] T0).clock s.sec s.ten s.aG s.key s.gr w5 fun w6=>bF ⟨pr,0,none⟩ 0 2 y z w6 fun w7=>go ⟨pt,0,none⟩ ⟨pr,0,none⟩ er w7:=fun {pt pr er w5 s ys zs fp fq y z} K=>
  K.bI 1 rfl rfl fun w6 K=>K.bF 2 rfl rfl fun w7 K=>main (ys:=ys) (zs:=zs) (fp:=fp) (fq:=fq) K
 have qk:∀ {w8:World} {M:List aD} {s:dY} {ys zs:List ah} {fp fq:List Nat},ak w [] w8 (M ++ iT s T0 ys zs fp fq)→Ok Pr gy [.agg ⟨T0.cs s⟩,.agg ⟨a0.cells⟩,.slice none 0 0] w8 fun v w'=>∃ s1 qU qV qW qX y z er,v=.tuple ⟨[.agg ⟨(dT a0 [] [] [] T0).cs s1⟩,.agg ⟨dN 0 2 y z⟩,er]⟩∧ak w [] w' (M ++ (iT s1 (dT a0 [] [] [] T0) qU qV qW qX ++ [.cut y (dR a0 [] [] [] T0).gw,.cut z (dR a0 [] [] [] T0).ex,aD.err er 0]))∧Mod [] w8 w':=by
  intro w8 M s ys zs fp fq K
  refine (ux s T0 a0 [] [] ⟨none,0,0⟩ [] hf (by simp) w8 (hg.lU K (by simp)) (o7 K) (Sl.nil _ 1) (Sl.nil _ 1) (Sl.nil _ 1)).mono ?_
  rintro v w' ⟨s1,qU,qV,qW,qX,y,z,er,rfl,G⟩
  rw [h1] at G ⊢
  rw [h2]
  refine ⟨s1,qU,qV,qW,qX,y,z,er,rfl,?_,G.mod⟩
  have K2:=(K.take M.length)
  rw [List.take_left] at K2
  exact K2.join G
 have D2:∀ {pt pr:Nat} {w8:World} {s:dY} {ys zs:List ah} {fp fq:List Nat},ak w [] w8 ([.av p a0.cells kW,.av pt (fV.cs sZ) aN,.av pr (dN 0 0 ⟨none,0,0⟩ ⟨none,0,0⟩) bD] ++ iT s T0 ys zs fp fq)→
   ay Pr gy [.agg ⟨T0.cs s⟩,.agg ⟨a0.cells⟩,.slice none 0 0] w8 fun v w9=>br.bC v fun vs=>aC vs fun v1 r=>dJ v1 fun t0 t1 t2 t3 t4 t5=>aC r fun v2 r2=>fF v2 fun c0 c1 c2 c3=>aC r2 fun v3 r3=>(r3=[]∧bI ⟨pt,0,none⟩ t0 t1 t2 t3 t4 t5 w9 fun w6=>bF ⟨pr,0,none⟩ c0 c1 c2 c3 w6 fun w7=>go ⟨pt,0,none⟩ ⟨pr,0,none⟩ v3 w7):=by
  intro pt pr w8 s ys zs fp fq K
  refine aB (qk K) ?_
  rintro _ w9 ⟨s1,qU,qV,qW,qX,y,z,er,rfl,G,m⟩
  refine ⟨_,rfl,iN (nZ ⟨rfl,fin (ys:=qU) (zs:=qV) (fp:=qW) (fq:=qX) ?_⟩)⟩
  exact G.dh [0,1,2,12,3,4,5,6,7,8,9] (by decide) rfl
 have D1t:∀ {pt:Nat} {w8:World} {s:dY} {ys zs:List ah} {fp fq:List Nat},ak w [] w8 ([.av p a0.cells kW,.av pt (fV.cs sZ) aN] ++ iT s T0 ys zs fp fq)→
   ay Pr gy [.agg ⟨T0.cs s⟩,.agg ⟨a0.cells⟩,.slice none 0 0] w8 fun v w9=>br.bC v fun vs=>aC vs fun v1 r=>dJ v1 fun t0 t1 t2 t3 t4 t5=>aC r fun v2 r2=>fF v2 fun c0 c1 c2 c3=>aC r2 fun v3 r3=>(r3=[]∧nw bD (dN 0 0 ⟨none,0,0⟩ ⟨none,0,0⟩) w9 fun pr cJ=>(kept ⟨p,0,none⟩ 14 w9 cJ∧bI ⟨pt,0,none⟩ t0 t1 t2 t3 t4 t5 cJ fun w6=>bF pr c0 c1 c2 c3 w6 fun w7=>go ⟨pt,0,none⟩ pr v3 w7)):=by
  intro pt w8 s ys zs fp fq K
  refine aB (qk K) ?_
  rintro _ w9 ⟨s1,qU,qV,qW,qX,y,z,er,rfl,G,m⟩
  refine ⟨_,rfl,iN (nZ ⟨rfl,G.gZ fun pr cJ G2 _=>⟨fS (G.av 0 rfl) (G2.av 0 rfl) 14,fin (ys:=qU) (zs:=qV) (fp:=qW) (fq:=qX) ?_⟩⟩)⟩
  exact G2.dh [0,1,12,11,2,3,4,5,6,7,8] (by decide) rfl
 have D1r:∀ {pr:Nat} {w8:World} {s:dY} {ys zs:List ah} {fp fq:List Nat},ak w [] w8 ([.av p a0.cells kW,.av pr (dN 0 0 ⟨none,0,0⟩ ⟨none,0,0⟩) bD] ++ iT s T0 ys zs fp fq)→
   ay Pr gy [.agg ⟨T0.cs s⟩,.agg ⟨a0.cells⟩,.slice none 0 0] w8 fun v w9=>br.bC v fun vs=>aC vs fun v1 r=>dJ v1 fun t0 t1 t2 t3 t4 t5=>aC r fun v2 r2=>fF v2 fun c0 c1 c2 c3=>aC r2 fun v3 r3=>(r3=[]∧nw aN (kV 0 ⟨none,0,0⟩ ⟨none,0,0⟩ ⟨none,0,0⟩ ⟨none,0,0⟩ ⟨none,0,0⟩) w9 fun pt cJ=>(kept ⟨p,0,none⟩ 14 w9 cJ∧bI pt t0 t1 t2 t3 t4 t5 cJ fun w6=>bF ⟨pr,0,none⟩ c0 c1 c2 c3 w6 fun w7=>go pt ⟨pr,0,none⟩ v3 w7)):=by
  intro pr w8 s ys zs fp fq K
  refine aB (qk K) ?_
  rintro _ w9 ⟨s1,qU,qV,qW,qX,y,z,er,rfl,G,m⟩
  refine ⟨_,rfl,iN (nZ ⟨rfl,G.gZ fun pt cJ G2 _=>⟨fS (G.av 0 rfl) (G2.av 0 rfl) 14,fin (ys:=qU) (zs:=qV) (fp:=qW) (fq:=qX) ?_⟩⟩)⟩
  exact G2.dh [0,12,1,11,2,3,4,5,6,7,8] (by decide) rfl
 have first:∀ w8,Ok Pr uw [] w8 fun v w'=>AT w8 w' v T0:=fun w8=>eT0 ▸ U4 w8
 have D:=H.drew
 refine D.iX 0 rfl ⟨?_,?_,?_⟩
 ·refine aB (first _) ?_
  rintro _ fE ⟨s,ys,zs,fp,fq,rfl,G⟩
  have K:=D.join G
  refine iN ⟨fS (D.av 0 rfl) (K.av 0 rfl) 14,?_,?_,?_⟩
  ·refine aB (qk K) ?_
   rintro _ w9 ⟨s1,qU,qV,qW,qX,y,z,er,rfl,G,m⟩
   refine ⟨_,rfl,iN (nZ ⟨rfl,G.gZ fun pt cJ G2 _=>⟨fS (G.av 0 rfl) (G2.av 0 rfl) 14,G2.gZ fun pr cY G3 _=>⟨fS (G2.av 0 rfl) (G3.av 0 rfl) 14,fin (ys:=qU) (zs:=qV) (fp:=qW) (fq:=qX) ?_⟩⟩,G.gZ fun pr cJ G2 _=>⟨fS (G.av 0 rfl) (G2.av 0 rfl) 14,G2.gZ fun pt cY G3 _=>⟨fS (G2.av 0 rfl) (G3.av 0 rfl) 14,fin (ys:=qU) (zs:=qV) (fp:=qW) (fq:=qX) ?_⟩⟩⟩)⟩
   ·exact G3.dh [0,11,12,10,1,2,3,4,5,6,7] (by decide) rfl
   ·exact G3.dh [0,12,11,10,1,2,3,4,5,6,7] (by decide) rfl
  ·refine K.gZ fun pt cJ K2 _=>⟨fS (K.av 0 rfl) (K2.av 0 rfl) 14,D1t (ys:=ys) (zs:=zs) (fp:=fp) (fq:=fq) (K2.dh [0,8,1,2,3,4,5,6,7] (by decide) rfl),K2.gZ fun pr cY K3 _=>⟨fS (K2.av 0 rfl) (K3.av 0 rfl) 14,D2 (ys:=ys) (zs:=zs) (fp:=fp) (fq:=fq) (K3.dh [0,8,9,1,2,3,4,5,6,7] (by decide) rfl)⟩⟩
  ·refine K.gZ fun pr cJ K2 _=>⟨fS (K.av 0 rfl) (K2.av 0 rfl) 14,D1r (ys:=ys) (zs:=zs) (fp:=fp) (fq:=fq) (K2.dh [0,8,1,2,3,4,5,6,7] (by decide) rfl),K2.gZ fun pt cY K3 _=>⟨fS (K2.av 0 rfl) (K3.av 0 rfl) 14,D2 (ys:=ys) (zs:=zs) (fp:=fp) (fq:=fq) (K3.dh [0,9,8,1,2,3,4,5,6,7] (by decide) rfl)⟩⟩
 ·refine D.gZ fun pt cJ sL _=>⟨fS (D.av 0 rfl) (sL.av 0 rfl) 14,?_,?_⟩
  ·refine aB (first _) ?_
   rintro _ fE ⟨s,ys,zs,fp,fq,rfl,G⟩
   have K:=sL.join G
   exact iN ⟨fS (sL.av 0 rfl) (K.av 0 rfl) 14,D1t (ys:=ys) (zs:=zs) (fp:=fp) (fq:=fq) K,K.gZ fun pr cY K3 _=>⟨fS (K.av 0 rfl) (K3.av 0 rfl) 14,D2 (ys:=ys) (zs:=zs) (fp:=fp) (fq:=fq) (K3.dh [0,1,9,2,3,4,5,6,7,8] (by decide) rfl)⟩⟩
  ·refine sL.gZ fun pr cY AE _=>⟨fS (sL.av 0 rfl) (AE.av 0 rfl) 14,aB (first _) ?_⟩
   rintro _ fE ⟨s,ys,zs,fp,fq,rfl,G⟩
   have K:=AE.join G
   exact iN ⟨fS (AE.av 0 rfl) (K.av 0 rfl) 14,D2 (ys:=ys) (zs:=zs) (fp:=fp) (fq:=fq) K⟩
 ·refine D.gZ fun pr cJ sL _=>⟨fS (D.av 0 rfl) (sL.av 0 rfl) 14,?_,?_⟩
  ·refine aB (first _) ?_
   rintro _ fE ⟨s,ys,zs,fp,fq,rfl,G⟩
   have K:=sL.join G
   exact iN ⟨fS (sL.av 0 rfl) (K.av 0 rfl) 14,D1r (ys:=ys) (zs:=zs) (fp:=fp) (fq:=fq) K,K.gZ fun pt cY K3 _=>⟨fS (K.av 0 rfl) (K3.av 0 rfl) 14,D2 (ys:=ys) (zs:=zs) (fp:=fp) (fq:=fq) (K3.dh [0,9,1,2,3,4,5,6,7,8] (by decide) rfl)⟩⟩
  ·refine sL.gZ fun pt cY AE _=>⟨fS (sL.av 0 rfl) (AE.av 0 rfl) 14,aB (first _) ?_⟩
   rintro _ fE ⟨s,ys,zs,fp,fq,rfl,G⟩
   have K:=AE.join G
   exact iN ⟨fS (AE.av 0 rfl) (K.av 0 rfl) 14,D2 (ys:=ys) (zs:=zs) (fp:=fp) (fq:=fq) (K.dh [0,2,1,3,4,5,6,7,8,9] (by decide) rfl)⟩
end Go.Proofs.YtgjoehgomjgckaaGreatDoor
end
section
set_option linter.unusedVariables false
set_option linter.unusedSimpArgs false
namespace Go.Proofs.YtgjoehgomjgckaaGreatDoor
open Go Go.Ev
set_option maxRecDepth 20000
set_option linter.unusedVariables false
structure fD where
 q:bH
 sd:ah
 tick:Bool
def ql:fD:=⟨a0,⟨none,0,0⟩,false⟩
def fD.cs (a:fD) (_:ah):List Value:=a.q.cells ++ [.slice a.sd.a a.sd.n a.sd.c,.bool a.tick]
theorem fD.cu (a:fD) (x:ah):(a.cs x).length=16:=rfl
def Ul (_:World) (_:ah) (_:fD):Prop:=True
def nL (w:World) (s:ah) (l:List fD):Prop:=Dv fD.cs 16 Ul w s l
theorem nL.aE {w w':World} {s:ah} {l:List fD} (h:nL w s l) (m:Mod [] w w'):nL w' s l:=Dv.aE (E:=Ul) (fun _ _=>trivial) h m
theorem nL.len {w:World} {s:ah} {l:List fD} (h:nL w s l):l.length=s.n:=Dv.len fD.cu (by omega) h
theorem nL.at {w:World} {s:ah} {l:List fD} (h:nL w s l) {i:Nat} (hi:i<l.length) :
  (s.a.isSome=true∧(0:Int)≤(i:Int)∧(i:Int)<(s.n:Int))∧∀ (j:Nat) (v:Value),((l.getD i ql).cs ⟨none,0,0⟩)[j]? = some v→w.cell? (Addr.add (Addr.add (base s.a) (Int.toNat (i:Int) * 16)) j)=some v:=by
 obtain ⟨h1,x,_,h2⟩:=Dv.at fD.cu (by omega) h (show l[i]? = some (l.getD i ql) by rw [List.getD_eq_getElem?_getD,List.getElem?_eq_getElem hi]; rfl)
 exact ⟨h1,h2⟩
def Eo (a:fD):Prop:=(a.q.name.size≤400∧a.q.gw.n≤3000∧a.q.tok.n≤200)∧a.sd.n≤100
theorem U5 (x:ah) (l:List fD) (oJ:Int) (hm:oJ≤1000000) (w:World) (hx:nL w x l):Ok Pr GU [.slice x.a x.n x.c,.int .i64 oJ] w fun v w'=>∃ b,v=.bool b∧Mod [] w w'∧(b=false→(l.length:Int)≤oJ∧∀ a∈l,Eo a):=by
 refine aed ?_
 unfold Nu
 have bT:=hx.len
 by_cases h8:(l.length:Int)≤oJ
 case neg=>
  refine yV (fun i w'=>Mod [] w w') (fun _ _=>0) (Mod.refl _ _) ?_
  intro again i w1 m aM
  refine ite_false ?_ ⟨_,rfl,m,fun h=>?_⟩
  ·rw [show decide ((x.n:Int)≤oJ)=false from decide_eq_false (by omega),Bool.and_false]
  ·rw [decide_eq_true (show oJ<(x.n:Int) by omega)] at h; cases h
 refine dw 0 l.length (fun i w'=>Mod [] w w'∧∀ j,j<i→Eo (l.getD j ql)) rfl (by omega) ⟨Mod.refl _ _,fun j h=>by omega⟩ ?_ ?_
 ·rintro again i w1 _ hi ⟨m,hl⟩ aM
  obtain ⟨k1,c1⟩:=(hx.aE m).at hi
  refine ite_true (by rw [decide_eq_true (show (i:Int)<(x.n:Int) by omega),decide_eq_true (show (x.n:Int)≤oJ by omega)]; rfl) ⟨k1,?_⟩
  refine Dh (fun j v hv=>?_) (aB (adS (l.getD i ql).q w1) ?_)
  ·rw [add_add,Nat.zero_add]
   refine c1 j v ?_
   have hj:j<(l.getD i ql).q.cells.length:=(List.getElem?_eq_some_iff.1 hv).1
   show ((l.getD i ql).q.cells ++ _)[j]? = some v
   rw [List.getElem?_append_left hj]
   exact hv
  rintro _ w2 ⟨b,rfl,m2,hb⟩
  refine bk ?_
  cases b with
  | true=>exact ite_true rfl ⟨true,rfl,m.trans m2,fun h=>by cases h⟩
  | false=>
   refine ite_false rfl ⟨k1,(l.getD i ql).sd,m2.o8 (c1 14 _ rfl),bU (fun h=>⟨true,rfl,m.trans m2,fun h=>by cases h⟩) fun h=>⟨⟨by omega,by omega⟩,aM _ ⟨m.trans m2,fun j hj=>?_⟩⟩⟩
   rcases Nat.lt_or_ge j i with h2 | h2
   ·exact hl j h2
   ·have:=of_decide_eq_false h
    rw [show j=i by omega]
    exact ⟨hb rfl,by omega⟩
 ·rintro again w1 ⟨m,hl⟩
  refine ite_false (by rw [decide_eq_false (show ¬ ((l.length:Nat):Int)<(x.n:Int) by omega),Bool.false_and]) ⟨_,rfl,m,fun _=>⟨h8,alm hl⟩⟩
end Go.Proofs.YtgjoehgomjgckaaGreatDoor
end
section
set_option linter.unusedVariables false
set_option linter.unusedSimpArgs false
namespace Go.Proofs.YtgjoehgomjgckaaGreatDoor
open Go Go.Ev
set_option maxRecDepth 100000
set_option linter.unusedVariables false
def g1:bO:=⟨1,1,2,1024,9,false⟩
end Go.Proofs.YtgjoehgomjgckaaGreatDoor
end
section
set_option linter.unusedVariables false
set_option linter.unusedSimpArgs false
namespace Go.Proofs.YtgjoehgomjgckaaGreatDoor
open Go Go.Ev
set_option maxRecDepth 20000
set_option linter.unusedVariables false
def tJ (w:World) (a:fD) (lb lt aq:List B8):Prop:=Bytes w a.q.gw lb∧Bytes w a.q.tok lt∧Bytes w a.sd aq
theorem tJ.aE {w w':World} {a:fD} {lb lt aq:List B8} (h:tJ w a lb lt aq) (m:Mod [] w w'):tJ w' a lb lt aq:=⟨h.1.aE m,h.2.1.aE m,h.2.2.aE m⟩
theorem YK {b:Nat} {a:fD} {z:ah} {w:World} (hb:bW w b (a.cs z) qp):∀ (j:Nat) (v:Value),a.q.cells[j]? = some v→w.cell? (Addr.add (Addr.add ⟨b,0,none⟩ 0) j)=some v:=fun j v hj=>by
 rw [add_add,au,Nat.zero_add,hb.cell]
 have hl:j<a.q.cells.length:=(List.getElem?_eq_some_iff.1 hj).1
 unfold fD.cs
 rw [List.getElem?_append_left hl]
 exact hj
end Go.Proofs.YtgjoehgomjgckaaGreatDoor
end
section
set_option linter.unusedVariables false
set_option linter.unusedSimpArgs false
namespace Go.Proofs.YtgjoehgomjgckaaGreatDoor
open Go Go.Ev
set_option maxRecDepth 20000
set_option linter.unusedVariables false
theorem XI {t:aS}:∀ n,lY t n=true↔∀ i,i<n→pL t i (t.aG.getD i fz)=true
 | 0=>⟨fun _ i h=>by omega,fun _=>rfl⟩
 | n+1=>by
  show (lY t n && pL t n (t.aG.getD n fz))=true↔_
  rw [Bool.and_eq_true,XI n]
  refine ⟨fun h i hi=>?_,fun h=>⟨fun i hi=>h i (by omega),h n (by omega)⟩⟩
  rcases Nat.lt_or_ge i n with e | e
  ·exact h.1 i e
  ·rw [show i=n by omega]; exact h.2
theorem XJ {t:aS}:∀ n,lZ t n=true↔∀ i,i<n→kC t i (t.keys.getD i kz)=true
 | 0=>⟨fun _ i h=>by omega,fun _=>rfl⟩
 | n+1=>by
  show (lZ t n && kC t n (t.keys.getD n kz))=true↔_
  rw [Bool.and_eq_true,XJ n]
  refine ⟨fun h i hi=>?_,fun h=>⟨fun i hi=>h i (by omega),h n (by omega)⟩⟩
  rcases Nat.lt_or_ge i n with e | e
  ·exact h.1 i e
  ·rw [show i=n by omega]; exact h.2
theorem YL {ts:List ct}:∀ n,mL ts n=true↔∀ i,i<n→nH ts i=true
 | 0=>⟨fun _ i h=>by omega,fun _=>rfl⟩
 | n+1=>by
  show (mL ts n && nH ts n)=true↔_
  rw [Bool.and_eq_true,YL n]
  refine ⟨fun h i hi=>?_,fun h=>⟨fun i hi=>h i (by omega),h n (by omega)⟩⟩
  rcases Nat.lt_or_ge i n with e | e
  ·exact h.1 i e
  ·rw [show i=n by omega]; exact h.2
structure rS (t:aS):Prop where
 clock:0≤t.clock∧t.clock≤1099511627776
 sec:t.bS.length=32
 aay:1≤t.bY.length
 ten:gJ t.bY=true
 Ct:1≤t.aG.length∧t.aG.length≤6
 Fl:t.keys.length≤6
 gr:gp t.bz=true
 aG:∀ (i:Nat) (p:cB),t.aG[i]? = some p→p.id=(i:Int)+1∧aP 1 (t.bY.length:Int) p.ten=true∧p.key.length=jD 1∧fO p.high p.used=true
 key:∀ (i:Nat) (k:aV),t.keys[i]? = some k→k.id=(i:Int)+1∧aP 1 (t.bY.length:Int) k.ten=true∧cS k=true
 bad:∀ g∈t.bz,g.n1≤(t.keys.length:Int)∧g.n2≤(t.aG.length:Int)
theorem Qu {t:aS}:fC t=true↔rS t:=by
 have w1:∀ {a b c:Int},aP a b c=true↔a≤c∧c≤b:=fun {a b c}=>by unfold aP; simp only [Bool.and_eq_true,decide_eq_true_eq]
 unfold fC zP
 simp only [Bool.and_eq_true,decide_eq_true_eq,Bool.not_eq_true',w1]
 rw [XI,XJ]
 have e1:(t.bz.any (pM t)=false)↔∀ g∈t.bz,g.n1≤(t.keys.length:Int)∧g.n2≤(t.aG.length:Int):=by
  rw [List.any_eq_false]
  refine forall_congr' fun g=>forall_congr' fun _=>?_
  unfold pM
  simp only [Bool.or_eq_true,decide_eq_true_eq]
  omega
 rw [e1]
 have e2:(∀ i,i<t.aG.length→pL t i (t.aG.getD i fz)=true)↔∀ (i:Nat) (p:cB),t.aG[i]? = some p→p.id=(i:Int)+1∧aP 1 (t.bY.length:Int) p.ten=true∧p.key.length=jD 1∧fO p.high p.used=true:=by
  refine ⟨fun h i p hp=>?_,fun h i hi=>?_⟩
  ·have:=h i (List.getElem?_eq_some_iff.1 hp).1
   rw [List.getD_eq_getElem?_getD,hp] at this
   unfold pL at this
   simpa only [Bool.and_eq_true,decide_eq_true_eq,Option.getD_some] using this
  ·have:=h i _ (List.getElem?_eq_getElem hi)
   rw [List.getD_eq_getElem?_getD,List.getElem?_eq_getElem hi]
   unfold pL
   simpa only [Bool.and_eq_true,decide_eq_true_eq,Option.getD_some] using this
 have e3:(∀ i,i<t.keys.length→kC t i (t.keys.getD i kz)=true)↔∀ (i:Nat) (k:aV),t.keys[i]? = some k→k.id=(i:Int)+1∧aP 1 (t.bY.length:Int) k.ten=true∧cS k=true:=by
  refine ⟨fun h i p hp=>?_,fun h i hi=>?_⟩
  ·have:=h i (List.getElem?_eq_some_iff.1 hp).1
   rw [List.getD_eq_getElem?_getD,hp] at this
   unfold kC at this
   simpa only [Bool.and_eq_true,decide_eq_true_eq,Option.getD_some] using this
  ·have:=h i _ (List.getElem?_eq_getElem hi)
   rw [List.getD_eq_getElem?_getD,List.getElem?_eq_getElem hi]
   unfold kC
   simpa only [Bool.and_eq_true,decide_eq_true_eq,Option.getD_some] using this
 rw [e2,e3]
 refine ⟨fun ⟨⟨⟨a1,a2⟩,a3,a4,a5,⟨a6,a7⟩,a8,a9⟩,b1,b2,b3⟩=>⟨⟨a1,a2⟩,a3,a4,a5,⟨by omega,by omega⟩,a8,a9,b1,b2,b3⟩,fun h=>⟨⟨h.clock,h.sec,h.aay,h.ten,⟨by have:=h.Ct; omega,by have:=h.Ct; omega⟩,h.Fl,h.gr⟩,h.aG,h.key,h.bad⟩⟩
theorem Ri {A:Type} {l:List A} {a b:A} {i:Nat} (h:(l ++ [a])[i]? = some b):(l[i]? = some b∧i<l.length)∨(i=l.length∧b=a):=by
 rcases Nat.lt_or_ge i l.length with e | e
 ·rw [List.getElem?_append_left e] at h; exact .inl ⟨h,e⟩
 ·rw [List.getElem?_append_right e] at h
  rcases Nat.eq_zero_or_pos (i - l.length) with e2 | e2
  ·rw [e2] at h; exact .inr ⟨by omega,(Option.some.inj h).symm⟩
  ·rw [List.getElem?_eq_none (by simp; omega)] at h; cases h
theorem RA {A:Type} {l:List A} {a b:A} {i j:Nat} (h:(l.set j a)[i]? = some b):(l[i]? = some b∧i≠j)∨(i=j∧b=a∧j<l.length):=by
 rw [List.getElem?_set] at h
 split at h
 ·rename_i e
  split at h
  ·rename_i e2; exact .inr ⟨e.symm,(Option.some.inj h).symm,by omega⟩
  ·cases h
 ·rename_i e; exact .inl ⟨h,fun e2=>e e2.symm⟩
theorem w2 {a b c:Int}:aP a b c=true↔a≤c∧c≤b:=by unfold aP; simp only [Bool.and_eq_true,decide_eq_true_eq]
theorem aki {ts:List ct} {par:Int} {name:ByteArray} (h:oG ts par name=0):gJ (rP ts par name)=true∧rP ts par name=ts ++ [⟨(ts.length:Int)+1,par,name⟩]:=by
 have e:rP ts par name=ts ++ [⟨(ts.length:Int)+1,par,name⟩]:=by unfold rP; rw [if_pos h]
 refine ⟨?_,e⟩
 rw [e]
 unfold oG at h
 split at h
 ·rename_i h1
  split at h
  ·rename_i h2
   split at h
   ·rename_i h3
    split at h
    ·omega
    ·rename_i h4
     split at h
     ·omega
     ·rename_i h5
      unfold gJ at h1 ⊢
      rw [Bool.and_eq_true,decide_eq_true_eq,YL] at h1 ⊢
      rw [w2] at h2
      refine ⟨by simp; omega,fun i hi=>?_⟩
      rw [List.length_append,List.length_singleton] at hi
      rcases Nat.lt_or_ge i ts.length with k | k
      ·have:=h1.2 i k
       unfold nH at this ⊢
       rw [List.getD_eq_getElem?_getD,List.getElem?_append_left k,← List.getD_eq_getElem?_getD,List.take_append_of_le_length (by omega)]
       exact this
      ·have:i=ts.length:=by omega
       subst this
       unfold nH
       rw [List.getD_eq_getElem?_getD,List.getElem?_append_right (Nat.le_refl _),Nat.sub_self,List.take_append_of_le_length (Nat.le_refl _),List.take_length]
       simp only [List.getElem?_cons_zero,Option.getD_some,decide_true,Bool.true_and,Bool.and_eq_true,decide_eq_true_eq,Bool.not_eq_true']
       exact ⟨by omega,by omega,h3,by simpa using h4⟩
   ·omega
  ·omega
 ·omega
theorem XK {high:Int} {u:aI} {n:Int} (h:lW high u n=0):fO (tI high u n) (xE high u n)=true∧lW (tI high u n) (xE high u n) n=8:=by
 have hH:tI high u n=if high<n then n else high:=by unfold tI; rw [if_pos h]
 have hU:xE high u n=if high<n then (u <<< (min (n - high) 64).toNat) ||| 1 else u ||| ((1:aI) <<< (high - n).toNat):=by unfold xE; rw [if_pos h]
 rw [hH,hU]
 unfold lW at h
 split at h
 case isFalse=>omega
 rename_i hm
 split at h
 case isFalse=>omega
 rename_i hf
 unfold mY at hf
 split at hf
 case isFalse=>cases hf
 rename_i hc
 obtain ⟨_,c1,c2,c3⟩:=hc
 have hr:=Re hm
 have key:fO (if high<n then n else high) (if high<n then (u <<< (min (n - high) 64).toNat) ||| 1 else u ||| ((1:aI) <<< (high - n).toNat))=true∧mY (if high<n then n else high) (if high<n then (u <<< (min (n - high) 64).toNat) ||| 1 else u ||| ((1:aI) <<< (high - n).toNat)) n=false:=by
  by_cases bX:high<n
  ·rw [if_pos bX,if_pos bX]
   have m1:fO n ((u <<< (min (n - high) 64).toNat) ||| 1)=true:=by
    unfold fO
    rw [if_neg (by omega),if_neg (by omega),Bool.and_eq_true,decide_eq_true_eq,decide_eq_true_eq]
    refine ⟨fun gV=>?_,?_⟩
    ·unfold fO at hm
     rw [if_neg (by omega)] at hm
     have hu:u >>> high.toNat=0:=by
      split at hm
      ·have:=of_decide_eq_true hm; rw [this]; simp
      ·rw [Bool.and_eq_true,decide_eq_true_eq] at hm; exact hm.1 (by omega)
     have e:(min (n - high) 64).toNat=n.toNat - high.toNat:=by omega
     rw [e]
     refine BitVec.eq_of_getLsbD_eq fun i hi=>?_
     have hg:=congrArg (fun v:aI=>v.getLsbD i) hu
     simp only [BitVec.getLsbD_ushiftRight,BitVec.getLsbD_zero] at hg
     simp only [BitVec.getLsbD_ushiftRight,BitVec.getLsbD_or,BitVec.getLsbD_shiftLeft,BitVec.getLsbD_zero,BitVec.getLsbD_one]
     have e2:n.toNat+i - (n.toNat - high.toNat)=high.toNat+i:=by omega
     rw [e2,hg]
     have:¬ (n.toNat+i=0):=by omega
     simp [this]
     omega
    ·refine BitVec.eq_of_getLsbD_eq fun i hi=>?_
     simp only [BitVec.getLsbD_and,BitVec.getLsbD_or,BitVec.getLsbD_one]
     by_cases e:i=0 <;> simp [e]
   refine ⟨m1,?_⟩
   unfold mY
   rw [if_pos ⟨m1,c1,c2,by omega⟩,decide_eq_false (by omega),Bool.false_or,decide_eq_false]
   intro hb
   have hg:=congrArg (fun v:aI=>v.getLsbD 0) hb
   unfold bt at hg
   simp at hg
  ·rw [if_neg bX,if_neg bX]
   rw [decide_eq_false bX,Bool.false_or,decide_eq_true_eq] at hf
   have m1:fO high (u ||| ((1:aI) <<< (high - n).toNat))=true:=by
    unfold fO at hm ⊢
    rw [if_neg (by omega)] at hm ⊢
    rw [if_neg (by omega)] at hm ⊢
    rw [Bool.and_eq_true,decide_eq_true_eq,decide_eq_true_eq] at hm ⊢
    refine ⟨fun gV=>?_,?_⟩
    ·refine BitVec.eq_of_getLsbD_eq fun i hi=>?_
     have hg:=congrArg (fun v:aI=>v.getLsbD i) (hm.1 gV)
     simp only [BitVec.getLsbD_ushiftRight,BitVec.getLsbD_zero] at hg
     simp only [BitVec.getLsbD_ushiftRight,BitVec.getLsbD_or,BitVec.getLsbD_shiftLeft,BitVec.getLsbD_zero,BitVec.getLsbD_one,hg]
     have:¬ (high.toNat+i - (high - n).toNat=0):=by omega
     simp [this]
    ·refine BitVec.eq_of_getLsbD_eq fun i hi=>?_
     have hg:=congrArg (fun v:aI=>v.getLsbD i) hm.2
     simp only [BitVec.getLsbD_and,BitVec.getLsbD_one] at hg
     simp only [BitVec.getLsbD_and,BitVec.getLsbD_or,BitVec.getLsbD_one]
     by_cases e:i=0
     ·subst e
      simp at hg
      simp [hg]
     ·simp [e]
   refine ⟨m1,?_⟩
   unfold mY
   rw [if_pos ⟨m1,c1,c2,c3⟩,decide_eq_false bX,Bool.false_or,decide_eq_false]
   intro hb
   have hg:=congrArg (fun v:aI=>v.getLsbD 0) hb
   unfold bt at hg
   have gV:(high - n).toNat<64:=by omega
   simp [gV] at hg
 refine ⟨key.1,?_⟩
 unfold lW
 rw [if_pos key.1,if_neg (by rw [key.2]; decide)]
theorem akj {q:bH} {t:aS} (h:rS t) (hw:aP 1 (t.aG.length:Int) q.n0=true) (hu:lW (dI q t).high (dI q t).used q.n1=0):rS (gB q t):=by
 have hl:(gB q t).aG.length=t.aG.length:=by show (t.aG.set _ _).length=_; rw [List.length_set]
 rw [w2] at hw
 refine { h with Ct:=by rw [hl]; exact h.Ct,aG:=fun i p hp=>?_,bad:=fun g hg=>by rw [hl]; exact h.bad g hg }
 rcases RA (show (t.aG.set _ _)[i]? = some p from hp) with ⟨h1,_⟩ | ⟨e,h1,h2⟩
 ·exact h.aG i p h1
 ·have hi:t.aG[i]? = some (dI q t):=by
   unfold dI
   rw [e,List.getD_eq_getElem?_getD,List.getElem?_eq_getElem h2]; rfl
  obtain ⟨a1,a2,a3,a4⟩:=h.aG i _ hi
  rw [h1]
  exact ⟨a1,a2,a3,(XK hu).1⟩
end Go.Proofs.YtgjoehgomjgckaaGreatDoor
end
section
set_option linter.unusedVariables false
set_option linter.unusedSimpArgs false
namespace Go.Proofs.YtgjoehgomjgckaaGreatDoor
open Go Go.Ev
set_option maxRecDepth 20000
set_option linter.unusedVariables false
theorem alr {k:aV} (h:(1≤k.id∧k.id≤6)∧(1≤k.ten∧k.ten≤8)∧(1≤k.set∧k.set≤3)∧(1≤k.aH.length∧k.aH.length≤5)∧∀ i,i<k.aH.length→gA (k.aH.getD i vz) ((i:Int)+1)=true):cS k=true:=by
 obtain ⟨a1,a2,a3,a4,a5⟩:=h
 unfold cS
 rw [Bool.and_eq_true,Bool.and_eq_true,Bool.and_eq_true,Bool.and_eq_true,w2,w2,w2,w2]
 exact ⟨a1,a2,a3,by omega,RT _ a5⟩
theorem akk {k:aV} {op bq dX clock:Int} (h:vh k op bq dX clock=0):cS (pK k op bq dX clock)=true∧(pK k op bq dX clock).id=k.id∧(pK k op bq dX clock).ten=k.ten∧(pK k op bq dX clock).set=k.set:=by
 have e:pK k op bq dX clock=⟨k.id,k.ten,k.set,k.aH.set (bq - 1).toNat (BK k op bq dX)⟩:=by unfold pK; rw [if_pos h]
 rw [e]
 refine ⟨?_,rfl,rfl,rfl⟩
 unfold vh at h
 split at h
 case isFalse=>omega
 rename_i hm
 obtain ⟨hm,CM⟩:=hm
 split at h
 case h_1=>omega
 rename_i v hf
 obtain ⟨_,f1,f2,f3,f4⟩:=Qr hf
 split at h
 case h_1=>omega
 rename_i s hn
 split at h
 case isTrue=>omega
 rename_i hd
 obtain ⟨a1,a2,a3,a4,a5⟩:=wS hm
 refine alr ⟨a1,a2,a3,by show 1≤(k.aH.set _ _).length∧(k.aH.set _ _).length≤5; rw [List.length_set]; exact a4,fun i hi=>?_⟩
 have hi:i<k.aH.length:=by have:i<(k.aH.set _ _).length:=hi; rwa [List.length_set] at this
 show gA ((k.aH.set (bq - 1).toNat (BK k op bq dX)).getD i vz) _=true
 rw [List.getD_eq_getElem?_getD,List.getElem?_set]
 by_cases e2:(bq - 1).toNat=i
 ·rw [if_pos e2,if_pos (by omega),Option.getD_some]
  have hv:=Rr f4
  obtain ⟨g1,g2,g3,g4,g5,g6,g7⟩:=hv
  unfold BK gA
  rw [← f3,hn,Option.getD_some]
  have nO:s=1∨s=2∨s=3:=by
   unfold kM at hn
   split at hn
   ·split at hn
    ·injection hn with hn; omega
    ·cases hn
   split at hn
   ·split at hn
    ·injection hn with hn; omega
    ·cases hn
   split at hn
   ·split at hn
    ·injection hn with hn; omega
    ·cases hn
   split at hn
   ·split at hn
    ·injection hn with hn; omega
    ·cases hn
   ·cases hn
  have h3:s=3↔op=7:=by
   unfold kM at hn
   split at hn
   ·split at hn
    ·injection hn with hn; omega
    ·cases hn
   split at hn
   ·split at hn
    ·injection hn with hn; omega
    ·cases hn
   split at hn
   ·split at hn
    ·injection hn with hn; omega
    ·cases hn
   split at hn
   ·split at hn
    ·injection hn with hn; omega
    ·cases hn
   ·cases hn
  have h4:v.st≠4:=by
   intro e4
   unfold kM at hn
   rw [e4] at hn
   split at hn
   ·cases hn
   split at hn
   ·cases hn
   split at hn
   ·cases hn
   split at hn <;> cases hn
  have gV:=g5 h4
  have arB:bq=(i:Int)+1:=by omega
  rw [Bool.and_eq_true]
  refine ⟨by simp only [decide_eq_true_eq]; omega,?_⟩
  by_cases h7:op=7
  ·rw [if_pos (h3.2 h7)]
   simp only [Bool.and_eq_true,decide_eq_true_eq]
   rw [if_pos h7]
   refine ⟨?_,gV⟩
   have:¬ (dX≤clock∨aP 1 1099511627776 dX=false):=fun hx=>hd ⟨h7,hx⟩
   cases hb:aP 1 1099511627776 dX with
   | true=>rfl
   | false=>exact absurd (.inr hb) this
  ·have n3:¬ s=3:=fun hx=>h7 (h3.1 hx)
   rw [if_neg n3,if_neg (show ¬ s=4 by omega),if_pos (show s=1∨s=2 by omega)]
   simp only [Bool.and_eq_true,decide_eq_true_eq]
   rw [if_neg h7]
   exact ⟨rfl,gV⟩
 ·rw [if_neg e2,← List.getD_eq_getElem?_getD]
  exact a5 i hi
theorem WU (l:List bO):∀ k,pJ l k=true↔∀ i,i<k→(l.getD i gz).n0=(i:Int)+1∧kY (l.getD i gz)=true
 | 0=>⟨fun _ i h=>by omega,fun _=>rfl⟩
 | n+1=>by
  show (pJ l n && _)=true↔_
  rw [Bool.and_eq_true,WU l n,Bool.and_eq_true,decide_eq_true_eq]
  refine ⟨fun h i hi=>?_,fun h=>⟨fun i hi=>h i (by omega),h n (by omega)⟩⟩
  rcases Nat.lt_or_ge i n with e | e
  ·exact h.1 i e
  ·rw [show i=n by omega]; exact h.2
theorem Iu {l:List bO}:gp l=true↔l.length≤8∧∀ (i:Nat) (g:bO),l[i]? = some g→g.n0=(i:Int)+1∧kY g=true:=by
 unfold gp
 rw [Bool.and_eq_true,decide_eq_true_eq,WU,and_comm]
 refine and_congr_right fun _=>⟨fun h i g hg=>?_,fun h i hi=>?_⟩
 ·have:=h i (List.getElem?_eq_some_iff.1 hg).1
  rw [List.getD_eq_getElem?_getD,hg] at this
  exact this
 ·rw [List.getD_eq_getElem?_getD,List.getElem?_eq_getElem hi]
  exact h i _ (List.getElem?_eq_getElem hi)
theorem akl {l:List bO} {g:bO} (h:oH l g=0):gp (k6 l g)=true∧k6 l g=l ++ [nI l g]:=by
 have e:k6 l g=l ++ [nI l g]:=by unfold k6; rw [if_pos h]
 rw [e]
 refine ⟨?_,rfl⟩
 unfold oH at h
 split at h
 case isFalse=>omega
 rename_i hm
 split at h
 case isTrue=>omega
 rename_i h8
 obtain ⟨h1,h2⟩:=Iu.1 hm.1
 refine Iu.2 ⟨by simp; omega,fun i x hx=>?_⟩
 rcases Ri hx with ⟨k,_⟩ | ⟨k,rfl⟩
 ·exact h2 i x k
 ·exact ⟨by rw [k]; rfl,hm.2⟩
theorem akm {l:List bO} {id:Int} (h:oI l id=0):gp (lX l id)=true∧lX l id=l.set (id - 1).toNat (xF (l.getD (id - 1).toNat gz))∧(id - 1).toNat<l.length:=by
 have e:lX l id=l.set (id - 1).toNat (xF (l.getD (id - 1).toNat gz)):=by unfold lX; rw [if_pos h]
 rw [e]
 unfold oI at h
 split at h
 case isFalse=>omega
 rename_i hm
 split at h
 case isFalse=>omega
 rename_i CQ
 obtain ⟨h1,h2⟩:=Iu.1 hm
 have bX:(id - 1).toNat<l.length:=by omega
 refine ⟨Iu.2 ⟨by rw [List.length_set]; exact h1,fun i x hx=>?_⟩,rfl,bX⟩
 rcases RA hx with ⟨k,_⟩ | ⟨k,rfl,_⟩
 ·exact h2 i x k
 ·have:=h2 _ _ (List.getElem?_eq_getElem bX)
  rw [List.getD_eq_getElem?_getD,List.getElem?_eq_getElem bX,k]
  exact this
theorem rS.ZE {t:aS} (h:rS t) {i:Nat} {k:aV} (hi:i<t.keys.length) (hm:cS k=true) (h1:k.id=(t.keys.getD i kz).id) (h2:k.ten=(t.keys.getD i kz).ten):rS { t with keys:=t.keys.set i k }:=by
 refine { h with Fl:=by show (t.keys.set i k).length≤6; rw [List.length_set]; exact h.Fl,key:=fun j x hx=>?_,bad:=fun g hg=>by show _≤((t.keys.set i k).length:Int)∧_; rw [List.length_set]; exact h.bad g hg }
 rcases RA hx with ⟨e,_⟩ | ⟨e,rfl,_⟩
 ·exact h.key j x e
 ·obtain ⟨b1,b2,_⟩:=h.key i _ (List.getElem?_eq_getElem hi)
  rw [List.getD_eq_getElem?_getD,List.getElem?_eq_getElem hi,Option.getD_some] at h1 h2
  subst e
  exact ⟨h1.trans b1,by rw [h2]; exact b2,hm⟩
theorem aij {q:bH} {t:aS} (h:gS q t=true) (hm:jx q.n2=true):aP 1 (t.bY.length:Int) q.n3=true:=by
 unfold gS at h; rwa [if_pos hm] at h
theorem ai9 {q:bH} {t:aS} (h:gS q t=true) (hm:jx q.n2=false):aP 1 (t.keys.length:Int) (fZ q t)=true∧(q.n2=12→aP 1 (t.aG.length:Int) q.n8=true):=by
 unfold gS at h
 rw [if_neg (by rw [hm]; decide),Bool.and_eq_true,Bool.and_eq_true] at h
 refine ⟨h.2.1,fun jA=>?_⟩
 have:=h.2.2
 rw [if_neg (by rw [jA]; decide),Bool.or_eq_true,decide_eq_true_eq] at this
 rcases this with h | h
 ·exact absurd jA h
 ·exact h
theorem als {q:bH} {lb aq:List B8} {t:aS} (h:rS t) (vZ:jx q.n2=true→aP 1 (t.bY.length:Int) q.n3=true)
  (hky:jx q.n2=false→aP 1 (t.keys.length:Int) q.n4=true∧(q.n2=12→aP 1 (t.aG.length:Int) q.n8=true)) (h0:qk q lb aq t=0):rS (mh q lb aq t):=by
 unfold qk at h0
 unfold mh
 split at h0
 ·rename_i e
  rw [if_pos e]
  obtain ⟨a1,a2⟩:=aki h0
  have hl:(Cm q t).bY.length=t.bY.length+1:=by show (rP _ _ _).length=_; rw [a2]; simp
  have hw:∀ {x:Int},aP 1 (t.bY.length:Int) x=true→aP 1 ((Cm q t).bY.length:Int) x=true:=fun {x} hx=>by rw [w2] at *; omega
  exact { h with aay:=by rw [hl]; omega,ten:=a1,aG:=fun i p hp=>(h.aG i p hp).imp_right fun k=>k.imp_left hw,key:=fun i p hp=>(h.key i p hp).imp_right fun k=>k.imp_left hw }
 rename_i e1
 rw [if_neg e1]
 split at h0
 ·rename_i e
  rw [if_pos e]
  unfold Cn at h0
  split at h0
  case isFalse=>omega
  rename_i hk
  split at h0
  case isTrue=>omega
  rename_i h6
  have hp6:=h.Ct
  have hl:(qI q lb t).aG.length=t.aG.length+1:=by show (t.aG ++ [_]).length=_; simp
  refine { h with Ct:=by rw [hl]; omega,aG:=fun i p hp=>?_,bad:=fun g hg=>by rw [hl]; have:=h.bad g hg; exact ⟨this.1,by omega⟩ }
  rcases Ri (show (t.aG ++ [rQ q lb t])[i]? = some p from hp) with ⟨k,_⟩ | ⟨k,rfl⟩
  ·exact h.aG i p k
  ·exact ⟨by rw [k]; rfl,vZ (by rw [e]; rfl),hk,by rfl⟩
 rename_i e2
 rw [if_neg e2]
 split at h0
 ·rename_i e
  rw [if_pos e]
  unfold Co at h0
  split at h0
  case isFalse=>omega
  split at h0
  case isFalse=>omega
  split at h0
  case isTrue=>omega
  rename_i h6
  split at h0
  case isFalse=>rename_i hn; exact absurd h0 hn
  rename_i hn
  have hm:cK q aq t=zO ((t.keys.length:Int)+1) q.n3 q.n6 aq:=by unfold cK qH; rw [if_pos hn]
  have aou:cS (cK q aq t)=true:=by
   rw [hm]
   unfold mz at hn
   split at hn
   ·assumption
   ·omega
  have hk6:=h.Fl
  have hl:(rR q aq t).keys.length=t.keys.length+1:=by show (t.keys ++ [_]).length=_; simp
  refine { h with Fl:=by rw [hl]; omega,key:=fun i p hp=>?_,bad:=fun g hg=>by rw [hl]; have:=h.bad g hg; exact ⟨by omega,this.2⟩ }
  rcases Ri (show (t.keys ++ [cK q aq t])[i]? = some p from hp) with ⟨k,_⟩ | ⟨k,rfl⟩
  ·exact h.key i p k
  ·exact ⟨by rw [k,hm]; rfl,by rw [hm]; exact vZ (by rw [e]; rfl),aou⟩
 rename_i e3
 rw [if_neg e3]
 have hnm:jx q.n2=false:=by unfold jx; rw [decide_eq_false e1,decide_eq_false e2,decide_eq_false e3]; rfl
 obtain ⟨hk,hp8⟩:=hky hnm
 split at h0
 ·rename_i e; rw [if_pos e]; exact h
 rename_i e4
 rw [if_neg e4]
 split at h0
 ·rename_i e
  rw [if_pos e]
  unfold Cs at h0
  unfold xI
  split at h0
  ·rename_i CT
   rw [if_pos CT]
   obtain ⟨r1,r2,r3⟩:=akm h0
   refine { h with gr:=r1,bad:=fun g hg=>?_ }
   have hg:g∈lX t.bz q.n7:=hg
   rw [r2] at hg
   rcases List.mem_or_eq_of_mem_set hg with k | k
   ·exact h.bad g k
   ·rw [k,List.getD_eq_getElem?_getD,List.getElem?_eq_getElem r3]
    have:=h.bad _ (List.getElem_mem r3)
    exact this
  ·rename_i CT
   rw [if_neg CT]
   split at h0
   case isTrue=>omega
   obtain ⟨r1,r2⟩:=akl h0
   refine { h with gr:=r1,bad:=fun g hg=>?_ }
   have hg:g∈k6 t.bz (iW q):=hg
   rw [r2] at hg
   rcases List.mem_append.1 hg with k | k
   ·exact h.bad g k
   ·rw [List.mem_singleton.1 k]
    rw [w2] at hk
    have h8:=hp8 (by rcases e with e | e; exact e; exact absurd e CT)
    rw [w2] at h8
    exact ⟨hk.2,h8.2⟩
 ·rename_i e
  rw [if_neg e]
  rw [w2] at hk
  have hi:(q.n4 - 1).toNat<t.keys.length:=by omega
  unfold Cq at h0
  unfold zS Cr
  split at h0
  ·rename_i e4
   rw [if_pos e4]
   split at h0
   case isFalse=>rename_i hn; exact absurd h0 hn
   rename_i hr
   obtain ⟨m1,_⟩:=XG hr
   have er:iS (cv q t) aq=⟨(cv q t).id,(cv q t).ten,(cv q t).set,(cv q t).aH ++ [⟨((cv q t).aH.length:Int)+1,1,0,aq⟩]⟩:=by unfold iS; rw [if_pos hr]
   exact h.ZE hi m1 (by rw [er]; rfl) (by rw [er]; rfl)
  ·rename_i e4
   rw [if_neg e4]
   obtain ⟨m1,m2,m3,_⟩:=akk h0
   exact h.ZE hi m1 m2 m3
theorem ZF {q:bH} {lb lt aq:List B8} {t:aS} (h0:dC q lb lt aq t=0):rS (dT q lb lt aq t)∧rS t:=by
 have hC:=h0
 unfold dC at h0
 split at h0
 case isFalse=>rename_i hn; exact absurd h0 hn
 rename_i hb
 obtain ⟨b1,b2,b3,b4,b5,b6⟩:=Ik hb
 have hm:=Qu.1 b1
 refine ⟨?_,hm⟩
 unfold dT
 rw [if_pos hC]
 refine als (akj hm b3 b4) (fun vZ=>(aij b5 vZ:aP 1 (t.bY.length:Int) q.n3=true)) (fun vZ=>?_) h0
 obtain ⟨c1,c2⟩:=ai9 b5 vZ
 refine ⟨c1,fun jA=>?_⟩
 show aP 1 (((gB q t).aG.length:Nat):Int) q.n8=true
 rw [show (gB q t).aG.length=t.aG.length from List.length_set]
 exact c2 jA
end Go.Proofs.YtgjoehgomjgckaaGreatDoor
end
section
set_option linter.unusedVariables false
set_option linter.unusedSimpArgs false
namespace Go.Proofs.YtgjoehgomjgckaaGreatDoor
open Go Go.Ev
set_option maxRecDepth 20000
set_option linter.unusedVariables false
theorem aja {w0 w w':World} (m:Mod [] w0 w) (m':Mod [] w0 w') {a:Addr} {n:Nat} (ha:a.block<w0.heap.size):kept a n w w':=fun j hj=>((DT m' ha (by simp):kept a n w0 w') j hj).trans ((DT m ha (by simp):kept a n w0 w) j hj).symm
theorem nL.kept {w0 w w':World} {s:ah} {l:List fD} (h:nL w0 s l) (m:Mod [] w0 w) (m':Mod [] w0 w') {i:Nat} (hi:i<l.length) (k n:Nat):kept (Addr.add (Addr.add (base s.a) (Int.toNat (i:Int) * 16)) k) n w w':=
 aja m m' (World.block_lt_of_cell? _ _ ((h.at hi).2 14 _ rfl) |> fun h=>by
  have e:∀ (a:Addr) (j:Nat),(a.add j).block=a.block:=fun a j=>by unfold Addr.add; split <;> rfl
  rw [e] at h ⊢
  exact h)
theorem amg {ad:Addr} {w:World} {a:fD} (h:∀ (j:Nat) (v:Value),(a.cs ⟨none,0,0⟩)[j]? = some v→w.cell? (Addr.add ad j)=some v) {K:Int→Int→Int→Int→Int→Int→Int→Int→Int→Int→Int→ByteArray→ah→ah→ah→Bool→Prop}
  (hK:K a.q.n0 a.q.n1 a.q.n2 a.q.n3 a.q.n4 a.q.n5 a.q.n6 a.q.n7 a.q.n8 a.q.n9 a.q.nX a.q.name a.q.gw a.q.tok a.sd a.tick):NK ad w K:=aen h hK
theorem akn {w:World} {b:Nat} {a:fD} (h:bW w b (a.cs ⟨none,0,0⟩) qp):nL w ⟨some ⟨b,0,none⟩,1,1⟩ [a]:=by
 refine ⟨[⟨none,0,0⟩],?_,rfl,fun _ _ _ _ _=>trivial⟩
 have:=h.sl 16 1 1 (by rw [fD.cu]; omega) (Nat.le_refl _)
 rw [List.take_of_length_le (by rw [fD.cu]; omega)] at this
 rw [wO]
 exact this
theorem Eo.bounds {a:fD} {w:World} {lb lt aq:List B8} (h:Eo a) (r:tJ w a lb lt aq):lb.length≤1000000∧aq.length≤1000000:=by
 have h1:=r.1.len
 have h2:=r.2.2.len
 obtain ⟨⟨_,h3,_⟩,h4⟩:=h
 omega
theorem amh:fC fT=true:=by kernel_rfl
def Sv (w:World) (l:List fD):Prop:=∀ a∈l,∃ lb lt aq,tJ w a lb lt aq
theorem YM {A:Type} {l:List A} {i:Nat} {d:A} (h:i<l.length):l.getD i d∈l:=by
 rw [List.getD_eq_getElem?_getD,List.getElem?_eq_getElem h]
 exact List.getElem_mem h
end Go.Proofs.YtgjoehgomjgckaaGreatDoor
end
section
set_option linter.unusedVariables false
set_option linter.unusedSimpArgs false
namespace Go.Proofs.YtgjoehgomjgckaaGreatDoor
open Go Go.Ev
set_option maxRecDepth 20000
set_option linter.unusedVariables false
def Sw (x:ah) (p:Addr) (i:Int) (w:World) (go:Addr→Value→World→Prop):Prop:=
 bN p (World.drew w) fun EB nx ny nB nC nD=>
 aQ x.a i x.n
 (iX (Addr.add (Addr.add (base x.a) (Int.toNat i * 16)) 0) (World.drew w) fun EC ED EE EF EG EH EI EJ EL EM Ep Er mZ nh=>
 aQ x.a i x.n
 (ax (Addr.add (Addr.add (base x.a) (Int.toNat i * 16)) 14) (World.drew w) fun t42=>
 ((ay Pr gy [.agg ⟨[.int .i64 EB,.slice nx.a nx.n nx.c,.slice ny.a ny.n ny.c,.slice nB.a nB.n nB.c,.slice nC.a nC.n nC.c,.slice nD.a nD.n nD.c]⟩,.agg ⟨[.int .i64 EC,.int .i64 ED,.int .i64 EE,.int .i64 EF,.int .i64 EG,.int .i64 EH,.int .i64 EI,.int .i64 EJ,.int .i64 EL,.int .i64 EM,.int .i64 Ep,.string Er,.slice mZ.a mZ.n mZ.c,.slice nh.a nh.n nh.c]⟩,.slice t42.a t42.n t42.c] (World.drew w) fun T6 w9=>
 br.bC T6 fun vs=>
 aC vs fun T7 r=>
 dJ T7 fun t43 Z2 Z3 Z4 Z5 Z6=>
 aC r fun FV T8=>
 fF FV fun Z7 Z8 Z9 aac=>
 aC T8 fun v_4 r_2=>
 (r_2=[]∧
 ((nw aN (zc Pr aN) w9 fun p_2 cJ=>
 (kept (Addr.add (Addr.add (base x.a) (Int.toNat i * 16)) 14) 1 w9 cJ∧
 (kept (Addr.add (Addr.add (base x.a) (Int.toNat i * 16)) 0) 14 w9 cJ∧
 (kept p 6 w9 cJ∧
 nw bD (zc Pr bD) cJ fun p_3 cY=>
 (kept (Addr.add (Addr.add (base x.a) (Int.toNat i * 16)) 14) 1 cJ cY∧
 (kept (Addr.add (Addr.add (base x.a) (Int.toNat i * 16)) 0) 14 cJ cY∧
 (kept p 6 cJ cY∧
 bI p_2 t43 Z2 Z3 Z4 Z5 Z6 cY fun fP=>
 bF p_3 Z7 Z8 Z9 aac fP fun fE=>
 go p_2 v_4 fE)))))))∧
 (nw bD (zc Pr bD) w9 fun TC fQ=>
 (kept (Addr.add (Addr.add (base x.a) (Int.toNat i * 16)) 14) 1 w9 fQ∧
 (kept (Addr.add (Addr.add (base x.a) (Int.toNat i * 16)) 0) 14 w9 fQ∧
 (kept p 6 w9 fQ∧
 nw aN (zc Pr aN) fQ fun p_5 jT=>
 (kept (Addr.add (Addr.add (base x.a) (Int.toNat i * 16)) 14) 1 fQ jT∧
 (kept (Addr.add (Addr.add (base x.a) (Int.toNat i * 16)) 0) 14 fQ jT∧
 (kept p 6 fQ jT∧
 bI p_5 t43 Z2 Z3 Z4 Z5 Z6 jT fun l8=>
 bF TC Z7 Z8 Z9 aac l8 fun xR=>
 go p_5 v_4 xR))))))))))∧
 (((nw aN (zc Pr aN) (World.drew w) fun Kf kH=>
 (kept (Addr.add (Addr.add (base x.a) (Int.toNat i * 16)) 14) 1 (World.drew w) kH∧
 (kept (Addr.add (Addr.add (base x.a) (Int.toNat i * 16)) 0) 14 (World.drew w) kH∧
 (kept p 6 (World.drew w) kH∧
 ((ay Pr gy [.agg ⟨[.int .i64 EB,.slice nx.a nx.n nx.c,.slice ny.a ny.n ny.c,.slice nB.a nB.n nB.c,.slice nC.a nC.n nC.c,.slice nD.a nD.n nD.c]⟩,.agg ⟨[.int .i64 EC,.int .i64 ED,.int .i64 EE,.int .i64 EF,.int .i64 EG,.int .i64 EH,.int .i64 EI,.int .i64 EJ,.int .i64 EL,.int .i64 EM,.int .i64 Ep,.string Er,.slice mZ.a mZ.n mZ.c,.slice nh.a nh.n nh.c]⟩,.slice t42.a t42.n t42.c] kH fun v_5 pZ=>
 br.bC v_5 fun aov=>
 aC aov fun v_6 r_3=>
 dJ v_6 fun ami amj amk aml amm amn=>
 aC r_3 fun v_7 r_4=>
 fF v_7 fun amo amq amr ams=>
 aC r_4 fun v_8 r_5=>
 (r_5=[]∧
 nw bD (zc Pr bD) pZ fun p_7 As=>
 (kept (Addr.add (Addr.add (base x.a) (Int.toNat i * 16)) 14) 1 pZ As∧
 (kept (Addr.add (Addr.add (base x.a) (Int.toNat i * 16)) 0) 14 pZ As∧
 (kept p 6 pZ As∧
 bI Kf ami amj amk aml amm amn As fun F5=>
 bF p_7 amo amq amr ams F5 fun Gu=>
 go Kf v_8 Gu)))))∧
 (nw bD (zc Pr bD) kH fun p_8 ym=>
 (kept (Addr.add (Addr.add (base x.a) (Int.toNat i * 16)) 14) 1 kH ym∧
 (kept (Addr.add (Addr.add (base x.a) (Int.toNat i * 16)) 0) 14 kH ym∧
 (kept p 6 kH ym∧
 ay Pr gy [.agg ⟨[.int .i64 EB,.slice nx.a nx.n nx.c,.slice ny.a ny.n ny.c,.slice nB.a nB.n nB.c,.slice nC.a nC.n nC.c,.slice nD.a nD.n nD.c]⟩,.agg ⟨[.int .i64 EC,.int .i64 ED,.int .i64 EE,.int .i64 EF,.int .i64 EG,.int .i64 EH,.int .i64 EI,.int .i64 EJ,.int .i64 EL,.int .i64 EM,.int .i64 Ep,.string Er,.slice mZ.a mZ.n mZ.c,.slice nh.a nh.n nh.c]⟩,.slice t42.a t42.n t42.c] ym fun v_9 w24=>
 br.bC v_9 fun aow=>
 aC aow fun aox r_6=>
 dJ aox fun amt amu amv amw amx amy=>
 aC r_6 fun aoy r_7=>
 fF aoy fun amz amA amB amC=>
 aC r_7 fun aoz r_8=>
 (r_8=[]∧
 bI Kf amt amu amv amw amx amy w24 fun w25=>
 bF p_8 amz amA amB amC w25 fun w26=>
 go Kf aoz w26))))))))))∧
 (nw bD (zc Pr bD) (World.drew w) fun p_9 yp=>
 (kept (Addr.add (Addr.add (base x.a) (Int.toNat i * 16)) 14) 1 (World.drew w) yp∧
 (kept (Addr.add (Addr.add (base x.a) (Int.toNat i * 16)) 0) 14 (World.drew w) yp∧
 (kept p 6 (World.drew w) yp∧
 ((ay Pr gy [.agg ⟨[.int .i64 EB,.slice nx.a nx.n nx.c,.slice ny.a ny.n ny.c,.slice nB.a nB.n nB.c,.slice nC.a nC.n nC.c,.slice nD.a nD.n nD.c]⟩,.agg ⟨[.int .i64 EC,.int .i64 ED,.int .i64 EE,.int .i64 EF,.int .i64 EG,.int .i64 EH,.int .i64 EI,.int .i64 EJ,.int .i64 EL,.int .i64 EM,.int .i64 Ep,.string Er,.slice mZ.a mZ.n mZ.c,.slice nh.a nh.n nh.c]⟩,.slice t42.a t42.n t42.c] yp fun aoA Kg=>
 br.bC aoA fun aoB=>
 aC aoB fun aoC r_9=>
 dJ aoC fun amD amE amF amG amH amI=>
 aC r_9 fun aoD aoE=>
 fF aoD fun amJ amK amL amM=>
 aC aoE fun aoF aoG=>
 (aoG=[]∧
 nw aN (zc Pr aN) Kg fun aaz Kh=>
 (kept (Addr.add (Addr.add (base x.a) (Int.toNat i * 16)) 14) 1 Kg Kh∧
 (kept (Addr.add (Addr.add (base x.a) (Int.toNat i * 16)) 0) 14 Kg Kh∧
 (kept p 6 Kg Kh∧
 bI aaz amD amE amF amG amH amI Kh fun w30=>
 bF p_9 amJ amK amL amM w30 fun AF=>
 go aaz aoF AF)))))∧
 (nw aN (zc Pr aN) yp fun aaA ur=>
 (kept (Addr.add (Addr.add (base x.a) (Int.toNat i * 16)) 14) 1 yp ur∧
 (kept (Addr.add (Addr.add (base x.a) (Int.toNat i * 16)) 0) 14 yp ur∧
 (kept p 6 yp ur∧
 ay Pr gy [.agg ⟨[.int .i64 EB,.slice nx.a nx.n nx.c,.slice ny.a ny.n ny.c,.slice nB.a nB.n nB.c,.slice nC.a nC.n nC.c,.slice nD.a nD.n nD.c]⟩,.agg ⟨[.int .i64 EC,.int .i64 ED,.int .i64 EE,.int .i64 EF,.int .i64 EG,.int .i64 EH,.int .i64 EI,.int .i64 EJ,.int .i64 EL,.int .i64 EM,.int .i64 Ep,.string Er,.slice mZ.a mZ.n mZ.c,.slice nh.a nh.n nh.c]⟩,.slice t42.a t42.n t42.c] ur fun aoH w33=>
 br.bC aoH fun aoI=>
 aC aoI fun aoJ aoK=>
 dJ aoJ fun amN amO amP amQ amR amS=>
 aC aoK fun aoL aoM=>
 fF aoL fun amT amU amV amW=>
 aC aoM fun aoN aoO=>
 (aoO=[]∧
 bI aaA amN amO amP amQ amR amS w33 fun w34=>
 bF p_9 amT amU amV amW w34 fun w35=>
 go aaA aoN w35)))))))))))))))
theorem aik {ad:Addr} {w:World} {a:fD} (h:∀ (j:Nat) (v:Value),(a.cs ⟨none,0,0⟩)[j]? = some v→w.cell? (Addr.add ad j)=some v):∀ (j:Nat) (v:Value),a.q.cells[j]? = some v→w.cell? (Addr.add (Addr.add ad 0) j)=some v:=fun j v hj=>by
 rw [add_add,Nat.zero_add]
 have hl:j<a.q.cells.length:=(List.getElem?_eq_some_iff.1 hj).1
 refine h j v ?_
 unfold fD.cs
 rw [List.getElem?_append_left hl]
 exact hj
theorem ako {w w6:World} {p:Nat} {x:ah} {l:List fD} {i:Nat} {a:fD} {lb lt aq:List B8} {s:dY} {t:aS} {ys zs:List ah} {fp fq:List Nat} (hg:Laid w) (hx:nL w x l) (hi:i<l.length) (ha:l.getD i ql=a) (r:tJ w a lb lt aq) (dS:aq.length≤1000000) (hs:t.small)
  {m:aD} (K:ak w [] w6 ([.av p (t.cs s) aN] ++ iT s t ys zs fp fq ++ [m])) {go:Addr→Value→World→Prop}
  (fin:∀ {w7:World} {p1:Nat} {er:Value} {s2:dY} {jU zs2:List ah} {dZ jV:List Nat},ak w [] w7 ([.av p (t.cs s) aN,.row bh 1 s.sec (bp t.bS),.row dV 3 s.ten (iV t.bY),.row cR 6 s.gr (e8 t.bz),.row fR 5 s.aG (bA cB.cs t.aG ys),.box fp fun w=>bB j8 w ys t.aG,.row aZ 4 s.key (bA aV.cs t.keys zs),.box fq fun w=>bB iD w zs t.keys,m,.av p1 ((dT a.q lb lt aq t).cs s2) aN,aD.err er (dC a.q lb lt aq t)] ++ iT s2 (dT a.q lb lt aq t) jU zs2 dZ jV)→go ⟨p1,0,none⟩ er w7):Sw x ⟨p,0,none⟩ i w6 go:=by
 unfold Sw
 rw [uH,rm]
 have D:=K.drew
 obtain ⟨k1,c1⟩:=(hx.aE D.mod).at hi
 rw [ha] at c1
 have kp:∀ {u u':World},Mod [] w u→Mod [] w u'→Ev.kept (Addr.add (Addr.add (base x.a) (Int.toNat (i:Int) * 16)) 14) 1 u u':=fun m m'=>hx.kept m m' hi 14 1
 have kq:∀ {u u':World},Mod [] w u→Mod [] w u'→Ev.kept (Addr.add (Addr.add (base x.a) (Int.toNat (i:Int) * 16)) 0) 14 u u':=fun m m'=>hx.kept m m' hi 0 14
 refine D.bN 0 rfl ⟨k1,Dh (aik c1) ⟨k1,a.sd,c1 14 _ rfl,⟨?_,⟨?_,?_⟩⟩⟩⟩
 ·refine aB (ux s t a.q lb lt a.sd aq hs dS _ (hg.lU D (by simp)) (o7 (L:=[_]) (D.take 8)) (r.aE D.mod).1 (r.aE D.mod).2.1 (r.aE D.mod).2.2) ?_
  rintro _ cY ⟨s2,jU,zs2,dZ,jV,y2,z2,er,rfl,G⟩
  have E:=D.join G
  exact ⟨_,rfl,iN (nZ ⟨rfl,⟨E.nw fun p1 Gu E2 _=>⟨kp E.mod E2.mod,kq E.mod E2.mod,fS (E.av 0 rfl) (E2.av 0 rfl) 6,E2.nw fun p2 ym E3 _=>⟨kp E2.mod E3.mod,kq E2.mod E3.mod,fS (E2.av 0 rfl) (E3.av 0 rfl) 6,E3.bI 19 rfl rfl fun AF F=>F.bF 20 rfl rfl fun ur F=>fin (jU:=jU) (zs2:=zs2) (dZ:=dZ) (jV:=jV) (F.dh [0,1,2,3,4,5,6,7,8,19,18,9,10,11,12,13,14,15] (by decide) rfl)⟩⟩,E.nw fun p2 Gu E2 _=>⟨kp E.mod E2.mod,kq E.mod E2.mod,fS (E.av 0 rfl) (E2.av 0 rfl) 6,E2.nw fun p1 ym E3 _=>⟨kp E2.mod E3.mod,kq E2.mod E3.mod,fS (E2.av 0 rfl) (E3.av 0 rfl) 6,E3.bI 20 rfl rfl fun AF F=>F.bF 19 rfl rfl fun ur F=>fin (jU:=jU) (zs2:=zs2) (dZ:=dZ) (jV:=jV) (F.dh [0,1,2,3,4,5,6,7,8,20,18,9,10,11,12,13,14,15] (by decide) rfl)⟩⟩⟩⟩)⟩
 ·refine D.nw fun p1 F5 E1 _=>⟨kp D.mod E1.mod,kq D.mod E1.mod,fS (D.av 0 rfl) (E1.av 0 rfl) 6,⟨?_,?_⟩⟩
  ·refine aB (ux s t a.q lb lt a.sd aq hs dS _ (hg.lU E1 (by simp)) (o7 (L:=[_]) (E1.take 8)) (r.aE E1.mod).1 (r.aE E1.mod).2.1 (r.aE E1.mod).2.2) ?_
   rintro _ cY ⟨s2,jU,zs2,dZ,jV,y2,z2,er,rfl,G⟩
   have E2:=E1.join G
   exact ⟨_,rfl,iN (nZ ⟨rfl,E2.nw fun p2 ym E3 _=>⟨kp E2.mod E3.mod,kq E2.mod E3.mod,fS (E2.av 0 rfl) (E3.av 0 rfl) 6,E3.bI 9 rfl rfl fun AF F=>F.bF 20 rfl rfl fun ur F=>fin (jU:=jU) (zs2:=zs2) (dZ:=dZ) (jV:=jV) (F.dh [0,1,2,3,4,5,6,7,8,9,19,10,11,12,13,14,15,16] (by decide) rfl)⟩⟩)⟩
  ·refine E1.nw fun p2 Gu E2 _=>⟨kp E1.mod E2.mod,kq E1.mod E2.mod,fS (E1.av 0 rfl) (E2.av 0 rfl) 6,aB (ux s t a.q lb lt a.sd aq hs dS _ (hg.lU E2 (by simp)) (o7 (L:=[_]) (E2.take 8)) (r.aE E2.mod).1 (r.aE E2.mod).2.1 (r.aE E2.mod).2.2) ?_⟩
   rintro _ cY ⟨s2,jU,zs2,dZ,jV,y2,z2,er,rfl,G⟩
   have E3:=E2.join G
   exact ⟨_,rfl,iN (nZ ⟨rfl,E3.bI 9 rfl rfl fun AF F=>F.bF 10 rfl rfl fun ur F=>fin (jU:=jU) (zs2:=zs2) (dZ:=dZ) (jV:=jV) (F.dh [0,1,2,3,4,5,6,7,8,9,20,11,12,13,14,15,16,17] (by decide) rfl)⟩)⟩
 ·refine D.nw fun p2 F5 E1 _=>⟨kp D.mod E1.mod,kq D.mod E1.mod,fS (D.av 0 rfl) (E1.av 0 rfl) 6,⟨?_,?_⟩⟩
  ·refine aB (ux s t a.q lb lt a.sd aq hs dS _ (hg.lU E1 (by simp)) (o7 (L:=[_]) (E1.take 8)) (r.aE E1.mod).1 (r.aE E1.mod).2.1 (r.aE E1.mod).2.2) ?_
   rintro _ cY ⟨s2,jU,zs2,dZ,jV,y2,z2,er,rfl,G⟩
   have E2:=E1.join G
   exact ⟨_,rfl,iN (nZ ⟨rfl,E2.nw fun p1 ym E3 _=>⟨kp E2.mod E3.mod,kq E2.mod E3.mod,fS (E2.av 0 rfl) (E3.av 0 rfl) 6,E3.bI 20 rfl rfl fun AF F=>F.bF 9 rfl rfl fun ur F=>fin (jU:=jU) (zs2:=zs2) (dZ:=dZ) (jV:=jV) (F.dh [0,1,2,3,4,5,6,7,8,20,19,10,11,12,13,14,15,16] (by decide) rfl)⟩⟩)⟩
  ·refine E1.nw fun p1 Gu E2 _=>⟨kp E1.mod E2.mod,kq E1.mod E2.mod,fS (E1.av 0 rfl) (E2.av 0 rfl) 6,aB (ux s t a.q lb lt a.sd aq hs dS _ (hg.lU E2 (by simp)) (o7 (L:=[_]) (E2.take 8)) (r.aE E2.mod).1 (r.aE E2.mod).2.1 (r.aE E2.mod).2.2) ?_⟩
   rintro _ cY ⟨s2,jU,zs2,dZ,jV,y2,z2,er,rfl,G⟩
   have E3:=E2.join G
   exact ⟨_,rfl,iN (nZ ⟨rfl,E3.bI 10 rfl rfl fun AF F=>F.bF 9 rfl rfl fun ur F=>fin (jU:=jU) (zs2:=zs2) (dZ:=dZ) (jV:=jV) (F.dh [0,1,2,3,4,5,6,7,8,10,20,11,12,13,14,15,16,17] (by decide) rfl)⟩)⟩
end Go.Proofs.YtgjoehgomjgckaaGreatDoor
end
section
set_option linter.unusedVariables false
set_option linter.unusedSimpArgs false
namespace Go.Proofs.YtgjoehgomjgckaaGreatDoor
open Go Go.Ev
set_option maxRecDepth 20000
set_option linter.unusedVariables false
theorem YN (q:bH) (lb aq:List B8) (t:aS):(mh q lb aq t).clock=t.clock∧(mh q lb aq t).bS=t.bS∧∀ i,i<t.aG.length→(mh q lb aq t).aG[i]? = t.aG[i]?:=by
 unfold mh
 split
 ·exact ⟨rfl,rfl,fun _ _=>rfl⟩
 split
 ·exact ⟨rfl,rfl,fun i hi=>List.getElem?_append_left hi⟩
 split
 ·exact ⟨rfl,rfl,fun _ _=>rfl⟩
 split
 ·exact ⟨rfl,rfl,fun _ _=>rfl⟩
 split
 ·exact ⟨rfl,rfl,fun _ _=>rfl⟩
 ·exact ⟨rfl,rfl,fun _ _=>rfl⟩
theorem aad {q:bH} {lb lt aq:List B8} {t:aS} (h0:dC q lb lt aq t=0):dT q lb lt aq t=mh (qK q t) lb aq (gB q t)∧mB q lt t=0∧qk (qK q t) lb aq (gB q t)=0:=by
 refine ⟨by unfold dT; rw [if_pos h0],?_⟩
 unfold dC at h0
 split at h0
 ·rename_i hb; exact ⟨hb,h0⟩
 ·rename_i hb; exact absurd h0 hb
theorem akp {q:bH} {lb lt aq:List B8} {t:aS} (h0:dC q lb lt aq t=0):(dT q lb lt aq t).clock=t.clock:=by
 rw [(aad h0).1]; exact (YN _ _ _ _).1
theorem ahF {q:bH} {lb lt aq:List B8} {t:aS} (h0:dC q lb lt aq t=0):dC q lb lt aq (dT q lb lt aq t)=8:=by
 obtain ⟨hm,_⟩:=ZF h0
 obtain ⟨e,hb,_⟩:=aad h0
 obtain ⟨b1,b2,b3,b4,b5,b6⟩:=Ik hb
 rw [w2] at b3
 have hp:=alj (qK q t) lb aq (gB q t)
 have mD:(gB q t).aG.length=t.aG.length:=List.length_set
 have bX:(q.n0 - 1).toNat<(gB q t).aG.length:=by omega
 have hw:dI q (dT q lb lt aq t)=xH q (dI q t):=by
  rw [e]
  unfold dI
  rw [List.getD_eq_getElem?_getD,(YN _ _ _ _).2.2 _ bX]
  show ((t.aG.set (q.n0 - 1).toNat (xH q (dI q t)))[(q.n0 - 1).toNat]?).getD fz=_
  rw [List.getElem?_set_self (by omega)]
  rfl
 have h8:mB q lt (dT q lb lt aq t)=8:=by
  unfold mB
  rw [if_pos (by rw [Qu.2 hm,b2]; rfl),if_pos (w2.2 (by rw [e]; omega)),hw]
  have:lW (xH q (dI q t)).high (xH q (dI q t)).used q.n1=8:=(XK b4).2
  rw [if_neg (by rw [this]; decide)]
 unfold dC
 rw [if_neg (by rw [h8]; decide),h8]
theorem anL {q:bH} {lb lt aq:List B8} {t:aS} (h0:dC q lb lt aq t≠0):dR q lb lt aq t=⟨0,[],[]⟩∧dT q lb lt aq t=fV:=⟨by unfold dR; rw [if_neg h0],by unfold dT; rw [if_neg h0]⟩
def Jj (w w':World) (p:Nat) (m:aD):Prop:=∃ (t:aS) (s:dY) (ys zs:List ah) (fp fq:List Nat),rS t∧t.small∧t.clock=0∧ak w [] w' ([.av p (t.cs s) aN] ++ iT s t ys zs fp fq ++ [m])
def anM (p:Nat) (again:World→Prop):Addr→Value→World→Prop:=fun u e w7=>fB e fun nil=>aA nil (bN u w7 fun f0 f1 f2 f3 f4 f5=>bI ⟨p,0,none⟩ f0 f1 f2 f3 f4 f5 w7 fun w8=>again w8) (again w7)
theorem ajb {w w6:World} {p i:Nat} {x:ah} {l:List fD} {m:aD} (hg:Laid w) (hx:nL w x l) (hi:i<l.length) (hr:Sv w l) (Cj:∀ a∈l,Eo a) (H:Jj w w6 p m) {again:World→Prop} (aM:∀ w8,Jj w w8 p m→again w8)
  {go:Addr→Value→World→Prop} (bZ:∀ u e w7,anM p again u e w7→go u e w7):Sw x ⟨p,0,none⟩ i w6 go:=by
 obtain ⟨t,s,ys,zs,fp,fq,hm,hs,hc,K⟩:=H
 obtain ⟨lb,lt,aq,r⟩:=hr _ (YM (d:=ql) hi)
 obtain ⟨hl,dS⟩:=(Cj _ (YM (d:=ql) hi)).bounds r
 refine ako hg hx hi rfl r dS hs K fun {w7 p1 er s2 jU zs2 dZ jV} K=>bZ _ _ _ ?_
 have Um:=Rh (q:=(l.getD i ql).q) (lt:=lt) hs hl dS
 have he:gm w7 er (dC (l.getD i ql).q lb lt aq t):=K.ok 10 _ rfl
 refine he.isNil ?_
 by_cases hC:dC (l.getD i ql).q lb lt aq t=0
 ·refine ite_true (decide_eq_true hC) (K.bN 9 rfl (K.bI 0 rfl rfl fun w8 K=>aM w8 ⟨_,s2,jU,zs2,dZ,jV,(ZF hC).1,Um,(akp hC).trans hc,K.dh [0,11,12,13,14,15,16,17,8] (by decide) rfl⟩))
 ·exact ite_false (decide_eq_false hC) (aM w7 ⟨t,s,ys,zs,fp,fq,hm,hs,hc,K.take 9⟩)
theorem aoP (w:World):gL w sZ fV:=⟨Sl.nil w 1,Dv.nil w,Dv.nil w,Dv.nil w,Sl.nil w 6⟩
theorem ag6 (x:ah) (l:List fD) (a:fD) (lb lt aq:List B8) (w:World) (hg:Laid w) (hx:nL w x l) (hr:Sv w l) (ra:tJ w a lb lt aq) :
  Ok Pr Uz [.slice x.a x.n x.c,.agg ⟨a.cs ⟨none,0,0⟩⟩] w fun v w'=>v=.bool true∧Mod [] w w':=by
 refine acw ?_
 unfold Lv
 have bT:=hx.len
 have Sx:∀ {w3:World},Mod [] w w3→Ok Pr AI [] w3 fun v w4=>v=.bool true∧Mod [] w w4:=fun {w3} m=>
  (afB w3 (hg.lU ((ak.start w).frame m) (by simp))).mono fun v w4 h=>⟨h.1,m.trans h.2⟩
 refine (ak.start w).nw fun p w1 H _=>?_
 have H:ak w [] w1 [.av p (a.cs ⟨none,0,0⟩) qp]:=H
 refine ku fun go bZ=>jv fun jC iw=>?_
 have stop:∀ {w3:World},Mod [] w w3→jC true w3:=fun {w3} m=>iw _ _ (ite_true rfl (aB (Sx m) fun v w4 h=>by obtain ⟨rfl,m⟩:=h; exact bk ⟨rfl,m⟩))
 refine aB (U5 x l 6 (by omega) w1 (hx.aE H.mod)) ?_
 rintro _ w2 ⟨b,rfl,m2,hb⟩
 have H:=H.frame m2
 refine bk (amg (fun j v hj=>by rw [au,(H.av 0 rfl).cell]; exact hj) ?_)
 cases b with
 | true=>exact ite_true rfl (stop H.mod)
 | false=>
 obtain ⟨hlen,Cj⟩:=hb rfl
 refine ite_false rfl (H.nw fun p4 w3 H _=>?_)
 refine aB (U5 ⟨some ⟨p4,0,none⟩,1,1⟩ [a] 1 (by omega) w3 (akn (H.av 1 rfl))) ?_
 rintro _ w4 ⟨b,rfl,m4,j7⟩
 have H:=H.frame m4
 refine bk ?_
 cases b with
 | true=>exact stop H.mod
 | false=>
 obtain ⟨sx,S7⟩:=((j7 rfl).2 a (by simp)).bounds ra
 refine iw _ _ (ite_false rfl (bZ _ (aB (U4 w4) ?_)))
 rintro _ w5 ⟨s,ys,zs,fp,fq,rfl,G⟩
 have H:ak w [] w5 ([.av p (a.cs ⟨none,0,0⟩) qp] ++ iT s fT ys zs fp fq):=(H.take 1).join G
 rw [uH]
 refine iN (H.nw fun p1 w6 H _=>H.bI 8 rfl rfl fun w7 H=>?_)
 have h0:Jj w w7 p1 (.av p (a.cs ⟨none,0,0⟩) qp):=⟨fT,s,ys,zs,fp,fq,Qu.1 amh,XH,rfl,H.dh [8,1,2,3,4,5,6,7,0] (by decide) rfl⟩
 refine dw 0 l.length (fun i w'=>Jj w w' p1 (.av p (a.cs ⟨none,0,0⟩) qp)) rfl (by omega) h0 ?_ ?_
 ·rintro again i w8 _ hi H aM
  exact ite_true (decide_eq_true (by omega)) (wM fun go bZ=>ajb hg hx hi hr Cj H (again:=fun w=>aF ((i:Int)+1)∧again ((i:Int)+1) w) (fun w9 H=>⟨⟨by omega,by omega⟩,aM w9 H⟩) fun u e w9 h=>bZ u e w9 h)
 ·rintro again w8 ⟨t,s,ys,zs,fp,fq,hm,hs,hc,K⟩
  refine ite_false (decide_eq_false (by omega)) ?_
  have r:=ra.aE K.mod
  refine K.bN 0 rfl (Dh (YK (K.av 8 rfl)) (K.ax 8 rfl (au p 14) rfl (aB (ux s t a.q lb lt a.sd aq hs S7 _ (hg.lU K (by simp)) (o7 (L:=[_]) (K.take 8)) r.1 r.2.1 r.2.2) ?_)))
  rintro _ w9 ⟨s2,jU,zs2,dZ,jV,y2,z2,er,rfl,G⟩
  have K:=K.join G
  rw [rm]
  refine ⟨_,rfl,iN (nZ ⟨rfl,K.nw fun p2 cJ K _=>K.nw fun p3 cY K _=>K.bI 19 rfl rfl fun fP K=>K.bF 20 rfl rfl fun fE K=>?_⟩)⟩
  have he:gm fE er (dC a.q lb lt aq t):=K.ok 18 _ rfl
  refine he.isNil ?_
  by_cases hC:dC a.q lb lt aq t=0
  ·refine ite_false (by rw [decide_eq_true hC]; rfl) ?_
   have r:=ra.aE K.mod
   have h8:=ahF hC
   have Um:=Rh (q:=a.q) (lt:=lt) hs sx S7
   have rT:gL fE s2 (dT a.q lb lt aq t):=o7 (L:=[_,_,_,_,_,_,_,_,_]) (K.take 16)
   refine K.bN 19 rfl (Dh (YK (K.av 8 rfl)) (K.ax 8 rfl (au p 14) rfl (aB (ux s2 (dT a.q lb lt aq t) a.q lb lt a.sd aq Um S7 _ (hg.lU K (by simp)) rT r.1 r.2.1 r.2.2) ?_)))
   rintro _ fQ ⟨s3,ys3,zs3,fp3,fq3,y3,z3,Uk,rfl,G3⟩
   rw [h8] at G3 ⊢
   rw [hC] at K
   have K:=K.join G3
   refine ⟨_,rfl,iN (nZ ⟨rfl,K.nw fun p5 jT K _=>K.nw fun p6 l8 K _=>K.bI 31 rfl rfl fun xR K=>K.bF 32 rfl rfl fun kH K=>?_⟩)⟩
   refine aB (NT Uk 8 kH (hg.lU K (by simp)) (K.ok 30 _ rfl)) ?_
   rintro _ pZ ⟨rfl,TD⟩
   have K:=K.frame TD
   refine ey (K.an 32 rfl (au p6 0) rfl (K.an 20 rfl (au p3 0) rfl (ite_true rfl (aB (Sx K.mod) fun v w4 h=>?_))))
   obtain ⟨rfl,m⟩:=h
   exact bk ⟨rfl,m⟩
  ·refine ite_true (by rw [decide_eq_false hC]; rfl) ?_
   obtain ⟨e1,e2⟩:=anL hC
   rw [e1,e2] at K
   generalize dC a.q lb lt aq t=C at *
   have D:=K.drew
   have rT:gL fE.drew s2 fV:=o7 (L:=[_,_,_,_,_,_,_,_,_]) (D.take 16)
   refine D.bN 19 rfl (aB (acR s2 sZ fV Wl _ rT (aoP _)) ?_)
   rintro _ fQ ⟨rfl,p8⟩
   have E:=D.frame p8
   refine bk (E.cz 20 rfl (ite_true rfl (aB (NT er C fQ (hg.lU E (by simp)) (E.ok 18 _ rfl)) ?_)))
   rintro _ jT ⟨rfl,vN⟩
   have F:=E.frame vN
   refine ey ⟨fS (E.av 20 rfl) (F.av 20 rfl) 4,aB (acQ C 0 y2 z2 ⟨none,0,0⟩ ⟨none,0,0⟩ [] [] (by simp) (by simp) jT (Cut.bytes (F.ok 16 _ rfl)) (Cut.bytes (F.ok 17 _ rfl)) (Sl.nil _ 1) (Sl.nil _ 1)) ?_⟩
   rintro _ l8 ⟨rfl,TO⟩
   have F:=F.frame TO
   refine bk (ite_true rfl (aB (Sx F.mod) fun v w4 h=>?_))
   obtain ⟨rfl,m⟩:=h
   exact bk ⟨rfl,m⟩
end Go.Proofs.YtgjoehgomjgckaaGreatDoor
end
section
set_option linter.unusedVariables false
set_option linter.unusedSimpArgs false
namespace Go.Ev
open Go Go.RowKit Go.ChangeShapes Go.WideShapes Go.ChangeAt Go.Deep
variable {H:Type} {enc:TypeId×Value→H} {P:Program} {w:World} {held:Bool}
inductive Lk where
 | int (k:IntKind) | str | bool | bytes
def Fm (w:World):Lk→Value→Prop
 | .int k,v=>∃ z,v=.int k z∧k.min≤z∧z≤k.max
 | .str,v=>∃ s:ByteArray,v=.string s∧s.size≤9223372036854775807
 | .bool,v=>∃ b,v=.bool b
 | .bytes,v=>∃ (s:ah) (l:List B8),v=.slice s.a s.n s.c∧Bytes w s l∧s.n≤9223372036854775807
def uR (P:Program) (t:TypeId):Lk→Bool
 | .int k=>match P.underlying t with | some (.int k')=>decide (k'=k) | _=>false
 | .str=>match P.underlying t with | some .string=>true | _=>false
 | .bool=>match P.underlying t with | some .bool=>true | _=>false
 | .bytes=>match P.underlying t with | some (.slice e)=>(match P.underlying e with | some (.int .u8)=>decide (P.cellsOf e=1) | _=>false) | _=>false
theorem WV {t:TypeId} {k:Lk} {c:Value} {n:Nat} {x:DataW H×List MemPlace} (hk:uR P t k=true) (h:DataW.trod enc P w 0 (fun _=>true) held n t [c]=some x):Fm w k c:=by
 cases k with
 | int k=>
  simp only [uR] at hk
  split at hk
  ·rename_i k' hu
   have:k'=k:=of_decide_eq_true hk
   subst this
   obtain ⟨z,hz,_,hw⟩:=DataW.trod_int hu h
   have hz:c=.int k' z:=by simpa using hz
   have:=Y5 hw
   exact ⟨z,hz,this.1,this.2⟩
  ·cases hk
 | str=>
  simp only [uR] at hk
  split at hk
  ·rename_i hu
   obtain ⟨s,hs,_,hm⟩:=DataW.trod_string hu h
   have hs:c=.string s:=by simpa using hs
   exact ⟨s,hs,by simp only [maxLen] at hm; omega⟩
  ·cases hk
 | bool=>
  simp only [uR] at hk
  split at hk
  ·rename_i hu
   obtain ⟨b,hb,_⟩:=DataW.trod_bool hu h
   exact ⟨b,by simpa using hb⟩
  ·cases hk
 | bytes=>
  simp only [uR] at hk
  split at hk
  ·rename_i e hu
   split at hk
   ·rename_i he
    have hc:P.cellsOf e=1:=of_decide_eq_true hk
    rcases open_ints hu he hc h with ⟨jm,-⟩ | ⟨a,len,cap,zs,jm,-,hl,hm,hz,-,nt,hw⟩
    ·exact ⟨⟨none,0,0⟩,[],by simpa using jm,Bytes.nil w,by show 0≤_; omega⟩
    ·simp only [if_true] at hz
     have hI:aah w ⟨some a,len,cap⟩ .u8 (zs.take len):=by
      refine ⟨⟨?_,hl,fun _=>rfl,fun i x hx=>?_⟩,fun x hx=>Y5 (hw x (List.mem_of_mem_take hx))⟩
      ·simp only [List.length_map,List.length_take,Nat.mul_one]; omega
      ·rw [List.getElem?_map,List.getElem?_take] at hx
       split at hx
       ·rename_i hi
        have:=nt i (by omega)
        rw [List.getD_eq_getElem?_getD] at this
        cases hzi:zs[i]? with
        | none=>rw [hzi] at hx; cases hx
        | some z=>
         rw [hzi] at hx this
         simp only [Option.map_some,Option.some.injEq] at hx
         subst hx
         exact this
       ·cases hx
     exact ⟨⟨some a,len,cap⟩,_,by simpa using jm,afO hI,by simp only [maxLen] at hm; show len≤_; omega⟩
   ·cases hk
  ·cases hk
def rE (w:World):List Lk→List Value→Prop
 | [],[]=>True
 | k :: ks,c :: cs=>Fm w k c∧rE w ks cs
 | _,_=>False
theorem rE.cons {w:World} {k:Lk} {ks:List Lk} {cs:List Value} (h:rE w (k :: ks) cs):∃ c r,cs=c :: r∧Fm w k c∧rE w ks r:=by
 cases cs with
 | nil=>exact h.elim
 | cons c r=>exact ⟨c,r,rfl,h.1,h.2⟩
theorem rE.nil {w:World} {cs:List Value} (h:rE w [] cs):cs=[]:=by
 cases cs with
 | nil=>rfl
 | cons c r=>exact h.elim
def rU (P:Program) (t:TypeId):Array Field:=match P.underlying t with | some (.struct fs)=>fs | _=>#[]
def DR (P:Program) (t:TypeId):Bool:=match P.underlying t with | some (.struct _)=>true | _=>false
def RU (P:Program) (fs:List Field):List Lk→Bool:=go fs
where
 go:List Field→List Lk→Bool
  | [],[]=>true
  | f :: fs,k :: ks=>uR P f.type k && go fs ks
  | _,_=>false
def IK (P:Program) (t:TypeId) (ks:List Lk):Bool:=DR P t && (oneCellFields P (rU P t) && (decide (P.cellsOf t=ks.length) && (decide ((rU P t).size=ks.length) && RU P (rU P t).toList ks)))
theorem RV {t:TypeId} (h:DR P t=true):P.underlying t=some (.struct (rU P t)):=by
 unfold DR at h
 unfold rU
 split at h
 ·rename_i fs hu; rw [hu]
 ·cases h
theorem XL:∀ (fs:List Field) (ks:List Lk) (cs:List Value),RU P fs ks=true→cs.length=ks.length→(∀ (i:Nat) (f:Field) (c:Value),fs[i]? = some f→cs[i]? = some c→∃ n x,DataW.trod enc P w 0 (fun _=>true) held n f.type [c]=some x)→rE w ks cs
 | [],[],[],_,_,_=>trivial
 | [],[],_ :: _,_,h,_=>by simp at h
 | [],_ :: _,_,h,_,_=>by cases h
 | _ :: _,[],_,h,_,_=>by cases h
 | _ :: _,_ :: _,[],_,h,_=>by simp at h
 | f :: fs,k :: ks,c :: cs,h,hl,hc=>by
  have h:(uR P f.type k && RU P fs ks)=true:=h
  simp only [Bool.and_eq_true] at h
  obtain ⟨n,x,hx⟩:=hc 0 f c rfl rfl
  exact ⟨WV h.1 hx,XL fs ks cs h.2 (by simpa using hl) fun i f' c' hf vv=>hc (i+1) f' c' (by simpa using hf) (by simpa using vv)⟩
theorem ail {t:TypeId} {ks:List Lk} {cs:List Value} {n:Nat} {x:DataW H×List MemPlace} (hs:IK P t ks=true) (h:DataW.trod enc P w 0 (fun _=>true) held n t cs=some x):rE w ks cs∧cs.length=ks.length:=by
 unfold IK at hs
 simp only [Bool.and_eq_true,decide_eq_true_eq] at hs
 obtain ⟨h1,h2,h3,h4,h5⟩:=hs
 obtain ⟨xs,m,_,_,hl,bT,hf⟩:=DataW.trod_struct (RV h1) h
 refine ⟨XL (enc:=enc) (held:=held) _ ks cs h5 (by omega) fun i f c hfi nP=>?_,by omega⟩
 have S8:(rU P t)[i]? = some f:=by simpa using hfi
 have hi:i<(rU P t).size:=(Array.getElem?_eq_some_iff.1 S8).1
 obtain ⟨ho,TE⟩:=hone_of h2 i f S8
 have:=hf i f S8
 rw [ho,TE,take1_drop cs i undef (by omega),List.getElem?_eq_getElem (by omega)] at this
 have vq:cs.getD i undef=c:=by simp [List.getD_eq_getElem?_getD,nP]
 rw [vq] at this
 exact ⟨m,_,this⟩
end Go.Ev
end
section
set_option linter.unusedVariables false
set_option linter.unusedSimpArgs false
namespace Go.Ev
open Go Go.RowKit Go.ChangeShapes Go.WideShapes Go.ChangeAt Go.Deep
variable {P:Program}
def Reads (P:Program) (t:TypeId) (n:Nat) (Q:World→List Value→Prop):Prop:=
 ∀ {H:Type} {enc:TypeId×Value→H} {w:World} {held:Bool} {fuel:Nat} {cs:List Value} {x:DataW H×List MemPlace},DataW.trod enc P w 0 (fun _=>true) held fuel t cs=some x→Q w cs∧cs.length=n
theorem ahG {t:TypeId} {ks:List Lk} (hs:IK P t ks=true):Reads P t ks.length (fun w cs=>rE w ks cs):=fun h=>ail hs h
theorem akq {H:Type} {enc:TypeId×Value→H} {w:World} {held:Bool} {t:TypeId} {k:Lk} {n:Nat} {cs:List Value} {x:DataW H×List MemPlace} (hk:uR P t k=true) (h1:cs.length=1) (h:DataW.trod enc P w 0 (fun _=>true) held n t cs=some x):∃ c,cs=[c]∧Fm w k c:=by
 match cs,h1 with
 | [c],_=>exact ⟨c,rfl,WV hk h⟩
def Sy (k:Lk):World→List Value→Prop:=fun w cs=>∃ c,cs=[c]∧Fm w k c
def Es:List (TypeId×Nat×(World→List Value→Prop))→World→List Value→Prop
 | [],_,cs=>cs=[]
 | (_,n,Q) :: r,w,cs=>∃ a b,cs=a ++ b∧Q w a∧a.length=n∧Es r w b
def IL (P:Program):List Field→Nat→List (TypeId×Nat)→Bool
 | [],_,[]=>true
 | f :: fs,o,(t,n) :: l=>decide (f.type=t) && (decide (f.offset=o) && (decide (P.cellsOf t=n) && IL P fs (o+n) l))
 | _,_,_=>false
def ZG (P:Program) (t:TypeId) (l:List (TypeId×Nat)):Bool:=DR P t && (decide (P.cellsOf t=(l.map (·.2)).sum) && IL P (rU P t).toList 0 l)
def Part (P:Program) (x:TypeId×Nat×(World→List Value→Prop)):Prop:=
 ∀ {H:Type} {enc:TypeId×Value→H} {w:World} {held:Bool} {fuel:Nat} {cs:List Value} {y:DataW H×List MemPlace},cs.length=x.2.1→DataW.trod enc P w 0 (fun _=>true) held fuel x.1 cs=some y→x.2.2 w cs
theorem Part.leaf {t:TypeId} {k:Lk} (hk:uR P t k=true):Part P (t,1,Sy k):=fun hl h=>akq hk hl h
theorem Part.of {t:TypeId} {n:Nat} {Q:World→List Value→Prop} (h:Reads P t n Q):Part P (t,n,Q):=fun _ k=>(h k).1
theorem XM {H:Type} {enc:TypeId×Value→H} {w:World} {held:Bool} {m:Nat} {cs:List Value}:∀ (l:List (TypeId×Nat×(World→List Value→Prop))) (fs:List Field) (o:Nat),IL P fs o (l.map fun x=>(x.1,x.2.1))=true→(∀ x∈l,Part P x)→
  cs.length=o+(l.map (·.2.1)).sum→(∀ f∈fs,∃ y,DataW.trod enc P w 0 (fun _=>true) held m f.type ((cs.drop f.offset).take (P.cellsOf f.type))=some y)→Es l w (cs.drop o)
 | [],[],o,_,_,hl,_=>by
  show cs.drop o=[]
  exact List.drop_eq_nil_of_le (by rw [hl]; simp)
 | [],_ :: _,_,h,_,_,_=>by cases h
 | _ :: _,[],_,h,_,_,_=>by cases h
 | (t,n,Q) :: l,f :: fs,o,h,hp,hl,hf=>by
  have h:(decide (f.type=t) && (decide (f.offset=o) && (decide (P.cellsOf t=n) && IL P fs (o+n) (l.map fun x=>(x.1,x.2.1)))))=true:=h
  simp only [Bool.and_eq_true,decide_eq_true_eq] at h
  obtain ⟨h1,h2,h3,h4⟩:=h
  have hl:cs.length=o+(n+(l.map (·.2.1)).sum):=hl
  obtain ⟨y,hy⟩:=hf f (List.mem_cons_self ..)
  rw [h1,h2,h3] at hy
  have sx:((cs.drop o).take n).length=n:=by rw [List.length_take,List.length_drop]; omega
  refine ⟨(cs.drop o).take n,cs.drop (o+n),?_,hp (t,n,Q) (List.mem_cons_self ..) sx hy,sx,XM l fs (o+n) h4 (fun x hx=>hp x (List.mem_cons_of_mem _ hx)) (by omega) fun g hg=>hf g (List.mem_cons_of_mem _ hg)⟩
  rw [← List.drop_drop,List.take_append_drop]
theorem ahH {t:TypeId} (l:List (TypeId×Nat×(World→List Value→Prop))) (hb:ZG P t (l.map fun x=>(x.1,x.2.1))=true) (hp:∀ x∈l,Part P x):Reads P t (l.map (·.2.1)).sum (Es l):=by
 intro H enc w held fuel cs x h
 unfold ZG at hb
 simp only [Bool.and_eq_true,decide_eq_true_eq,List.map_map] at hb
 obtain ⟨h1,h2,h3⟩:=hb
 obtain ⟨xs,m,_,_,hl,bT,hf⟩:=DataW.trod_struct (RV h1) h
 have hl:cs.length=(l.map (·.2.1)).sum:=hl.trans h2
 refine ⟨?_,hl⟩
 have:=XM (enc:=enc) (held:=held) (m:=m) (cs:=cs) (w:=w) l (rU P t).toList 0 h3 hp (by omega) fun f Ft=>?_
 ·simpa using this
 ·obtain ⟨i,hi,rfl⟩:=List.getElem_of_mem Ft
  have Al:i<(rU P t).size:=by simpa using hi
  have:=hf i ((rU P t).toList[i]) (by rw [Array.getElem_toList]; exact Array.getElem?_eq_getElem Al)
  rw [List.getElem?_eq_getElem (by omega)] at this
  exact ⟨_,this⟩
def aae (n:Nat) (Q:World→List Value→Prop):World→List Value→Prop:=fun w cs=>
 ∃ (s:ah) (rows:List (List Value)),cs=[s.v]∧Sl w s n rows.flatten∧rows.length=s.n∧(∀ row∈rows,Q w row∧row.length=n)∧s.n≤9223372036854775807
theorem XN {n:Nat}:∀ (rows:List (List Value)),(∀ row∈rows,row.length=n)→rows.flatten.length=rows.length * n
 | [],_=>by simp
 | r :: rs,h=>by
  rw [List.flatten_cons,List.length_append,XN rs fun row hr=>h row (List.mem_cons_of_mem _ hr),h r (List.mem_cons_self ..),List.length_cons,Nat.succ_mul]
  omega
theorem YO {n:Nat}:∀ (rows:List (List Value)),(∀ row∈rows,row.length=n)→∀ (j:Nat) (v:Value),rows.flatten[j]? = some v→∃ i row,rows[i]? = some row∧i * n≤j∧row[j - i * n]? = some v
 | [],_,j,v,h=>by simp at h
 | r :: rs,hr,j,v,h=>by
  have hl:=hr r (List.mem_cons_self ..)
  rw [List.flatten_cons] at h
  rcases Nat.lt_or_ge j r.length with k | k
  ·rw [List.getElem?_append_left k] at h
   exact ⟨0,r,rfl,by omega,by simpa using h⟩
  ·rw [List.getElem?_append_right k] at h
   obtain ⟨i,row,h1,h2,h3⟩:=YO rs (fun row hx=>hr row (List.mem_cons_of_mem _ hx)) _ v h
   refine ⟨i+1,row,by simpa using h1,by rw [Nat.succ_mul]; omega,?_⟩
   rw [show j - (i+1) * n=j - r.length - i * n by rw [Nat.succ_mul]; omega]
   exact h3
theorem aim {t e:TypeId} {n:Nat} {Q:World→List Value→Prop} (ht:P.underlying t=some (.slice e)) (hn:P.cellsOf e=n) (hr:Reads P e n Q):Reads P t 1 (aae n Q):=by
 intro H enc w held fuel cs x h
 rcases open_slice ht h with ⟨jm,-⟩ | ⟨a,len,cap,m,k,D,Pl,jm,-,hl,hm,J7,-,hx⟩
 ·subst jm
  exact ⟨⟨⟨none,0,0⟩,[],rfl,Sl.nil w _,rfl,(fun _ h=>by cases h),by show 0≤_; omega⟩,rfl⟩
 ·simp only [if_true] at J7
  subst J7
  have hex:∀ i:Nat,∃ xK,i<m→(w.cells? 0 (a.add (i * P.cellsOf e)) (P.cellsOf e)=some xK∧DataW.trod enc P w 0 (fun _=>true) held k e xK=some (D i,Pl i)):=fun i=>by
   by_cases hi:i<m
   ·obtain ⟨xK,h1⟩:=hx i hi; exact ⟨xK,fun _=>h1⟩
   ·exact ⟨[],fun h=>absurd h hi⟩
  obtain ⟨C,hC⟩:=Classical.axiomOfChoice hex
  have iR:∀ i,i<m→Q w (C i)∧(C i).length=n:=fun i hi=>hr (hC i hi).2
  have lQ:∀ row∈(List.range len).map C,Q w row∧row.length=n:=fun row hx=>by
   obtain ⟨i,hi,rfl⟩:=List.mem_map.1 hx
   exact iR i (by have:=List.mem_range.1 hi; omega)
  subst jm
  refine ⟨⟨⟨some a,len,m⟩,(List.range len).map C,rfl,⟨?_,hl,fun _=>rfl,fun j v hj=>?_⟩,by simp,lQ,by simp only [maxLen] at hm; show len≤_; omega⟩,rfl⟩
  ·rw [XN _ fun row hx=>(lQ row hx).2,List.length_map,List.length_range]
  ·obtain ⟨i,row,h1,h2,h3⟩:=YO _ (fun row hx=>(lQ row hx).2) j v hj
   rw [List.getElem?_map] at h1
   have hi:i<len:=by
    rcases Nat.lt_or_ge i len with e | e
    ·exact e
    ·rw [List.getElem?_eq_none (by simp; exact e)] at h1; cases h1
   rw [List.getElem?_range hi] at h1
   obtain rfl:C i=row:=Option.some.inj h1
   obtain ⟨_,_,nt⟩:=World.cells?_some (hC i (by omega)).1
   have hjl:=(List.getElem?_eq_some_iff.1 h3).1
   have h4:=nt (j - i * n) (by have:=(iR i (by omega)).2; omega)
   rw [h3,add_add,hn,show i * n+(j - i * n)=j by omega] at h4
   exact h4
theorem XO {A:Type} {C:A→ah→List Value} {E:World→ah→A→Prop} {p:A→Prop} {w:World}:∀ (rows:List (List Value)),(∀ row∈rows,∃ a x,row=C a x∧E w x a∧p a)→∃ ls xs,rows.flatten=bA C ls xs∧bB E w xs ls∧∀ a∈ls,p a
 | [],_=>⟨[],[],rfl,⟨rfl,fun i x l h=>by simp at h⟩,fun a h=>by cases h⟩
 | r :: rs,h=>by
  obtain ⟨ls,xs,h1,h2,h5⟩:=XO rs fun row hr=>h row (List.mem_cons_of_mem _ hr)
  obtain ⟨a,x,h3,h4,h6⟩:=h r (List.mem_cons_self ..)
  refine ⟨a :: ls,x :: xs,?_,?_,fun b hb=>?_⟩
  ·rw [List.flatten_cons,h1,h3,rj]
  ·refine ⟨by simp [h2.1],fun i y l hy hl=>?_⟩
   cases i with
   | zero=>simp at hy hl; subst hy hl; exact h4
   | succ i=>exact h2.2 i y l (by simpa using hy) (by simpa using hl)
  ·rcases List.mem_cons.1 hb with rfl | hb
   ·exact h6
   ·exact h5 b hb
theorem ajc {t:TypeId} {n:Nat} {Q:World→List Value→Prop} (hr:Reads P t n Q) (nO:DR P t=true) {H:Type} {enc:TypeId×Value→H} {w:World} {held:Bool} {v:Value} {d:DataW H} {ps:List MemPlace} {r:Reach} {base:Nat} (hv:Value.okWide P w r base t v) (h:DataW.Trod enc P w 0 (fun _=>true) held t v d ps):∃ cs,v=.agg ⟨cs⟩∧Q w cs:=by
 obtain ⟨cs,rfl,jN⟩:=okWide_struct (RV nO) hv
 obtain ⟨fuel,h⟩:=h
 exact ⟨cs.toList,rfl,(hr (by simpa [Value.cells] using h)).1⟩
theorem akr {t e:TypeId} {n:Nat} {Q:World→List Value→Prop} (ht:P.underlying t=some (.slice e)) (hr:Reads P t 1 (aae n Q)) {H:Type} {enc:TypeId×Value→H} {w:World} {held:Bool} {v:Value} {d:DataW H} {ps:List MemPlace} {r:Reach} {base:Nat} (hv:Value.okWide P w r base t v) (h:DataW.Trod enc P w 0 (fun _=>true) held t v d ps) :
  ∃ (s:ah) (rows:List (List Value)),v=.slice s.a s.n s.c∧Sl w s n rows.flatten∧rows.length=s.n∧(∀ row∈rows,Q w row∧row.length=n)∧s.n≤9223372036854775807:=by
 obtain ⟨va,vn,vc,rfl⟩:=Go.WideShapes.okWide_slice ht hv
 obtain ⟨fuel,h⟩:=h
 obtain ⟨⟨s,rows,h1,h2⟩,_⟩:=hr (by simpa [Value.cells] using h)
 exact ⟨s,rows,by simpa [ah.v] using h1,h2⟩
end Go.Ev
end
section
set_option linter.unusedVariables false
set_option linter.unusedSimpArgs false
namespace Go.Proofs.YtgjoehgomjgckaaGreatDoor
open Go Go.Ev Go.RowKit
set_option maxRecDepth 20000
def Rj:List Lk:=[.int .i64,.int .i64,.int .i64,.int .i64,.int .i64,.int .i64,.int .i64,.int .i64,.int .i64,.int .i64,.int .i64,.str,.bytes,.bytes]
theorem ajd:IK Pr kW Rj=true:=by kernel_rfl
end Go.Proofs.YtgjoehgomjgckaaGreatDoor
end
section
set_option linter.unusedVariables false
set_option linter.unusedSimpArgs false
namespace Go.Proofs.YtgjoehgomjgckaaGreatDoor
open Go Go.Ev Go.RowKit
set_option maxRecDepth 20000
set_option linter.unusedVariables false
theorem amX {w:World} {cs:List Value} (lQ:rE w Rj cs):∃ (q:bH) (lb lt:List B8),cs=q.cells∧Bytes w q.gw lb∧Bytes w q.tok lt:=by
 obtain ⟨c0,r0,rfl,⟨z0,rfl,b0⟩,h0⟩:=lQ.cons
 obtain ⟨c1,r1,rfl,⟨z1,rfl,b1⟩,h1⟩:=h0.cons
 obtain ⟨c2,r2,rfl,⟨z2,rfl,b2⟩,h2⟩:=h1.cons
 obtain ⟨c3,r3,rfl,⟨z3,rfl,b3⟩,h3⟩:=h2.cons
 obtain ⟨c4,r4,rfl,⟨z4,rfl,b4⟩,h4⟩:=h3.cons
 obtain ⟨c5,r5,rfl,⟨z5,rfl,b5⟩,h5⟩:=h4.cons
 obtain ⟨c6,r6,rfl,⟨z6,rfl,b6⟩,h6⟩:=h5.cons
 obtain ⟨c7,r7,rfl,⟨z7,rfl,b7⟩,h7⟩:=h6.cons
 obtain ⟨c8,r8,rfl,⟨z8,rfl,b8⟩,h8⟩:=h7.cons
 obtain ⟨c9,r9,rfl,⟨z9,rfl,b9⟩,h9⟩:=h8.cons
 obtain ⟨jP,r10,rfl,⟨z10,rfl,b10⟩,jl⟩:=h9.cons
 obtain ⟨jQ,r11,rfl,⟨s,rfl,_⟩,xJ⟩:=jl.cons
 obtain ⟨gC,r12,rfl,⟨u,l,rfl,hl,_⟩,jA⟩:=xJ.cons
 obtain ⟨gD,r13,rfl,⟨v,m,rfl,hm,_⟩,mO⟩:=jA.cons
 obtain rfl:=mO.nil
 exact ⟨⟨z0,z1,z2,z3,z4,z5,z6,z7,z8,z9,z10,s,u,v⟩,l,m,rfl,hl,hm⟩
def Iv:List (TypeId×Nat×(World→List Value→Prop)):=[(kW,14,fun w cs=>rE w Rj cs),(bJ,1,Sy .bytes),(ot,1,Sy .bool)]
theorem WW:Reads Pr qp 16 (Es Iv):=ahH Iv (by kernel_rfl) fun x hx=>by
 simp only [Iv,List.mem_cons,List.not_mem_nil,or_false] at hx
 rcases hx with rfl | rfl | rfl
 ·exact Part.of (ahG ajd)
 ·exact Part.leaf (by kernel_rfl)
 ·exact Part.leaf (by kernel_rfl)
theorem ZH {w:World} {cs:List Value} (h:Es Iv w cs):∃ (a:fD) (lb lt aq:List B8),cs=a.cs ⟨none,0,0⟩∧tJ w a lb lt aq:=by
 obtain ⟨u,r,rfl,hu,_,v,r2,rfl,⟨c1,rfl,s,sl,rfl,hs,_⟩,_,x,r3,rfl,⟨c2,rfl,b,rfl⟩,_,rfl⟩:=h
 obtain ⟨q,lb,lt,rfl,h1,h2⟩:=amX hu
 exact ⟨⟨q,s,b⟩,lb,lt,sl,rfl,h1,h2,hs⟩
theorem aks {H:Type} {enc:TypeId×Value→H} {w:World} {held:Bool} {v:Value} {d:DataW H} {ps:List MemPlace} {r:Reach} {base:Nat} (hv:Value.okWide Pr w r base qp v) (h:DataW.Trod enc Pr w 0 (fun _=>true) held qp v d ps) :
  ∃ (a:fD) (lb lt aq:List B8),v=.agg ⟨a.cs ⟨none,0,0⟩⟩∧tJ w a lb lt aq:=by
 obtain ⟨cs,rfl,hq⟩:=ajc WW (by kernel_rfl) hv h
 obtain ⟨a,lb,lt,aq,rfl,ha⟩:=ZH hq
 exact ⟨a,lb,lt,aq,rfl,ha⟩
theorem XP:Pr.underlying KH=some (.slice qp):=by kernel_rfl
theorem aje {H:Type} {enc:TypeId×Value→H} {w:World} {held:Bool} {v:Value} {d:DataW H} {ps:List MemPlace} {r:Reach} {base:Nat} (hv:Value.okWide Pr w r base KH v) (h:DataW.Trod enc Pr w 0 (fun _=>true) held KH v d ps) :
  ∃ (s:ah) (l:List fD),v=.slice s.a s.n s.c∧nL w s l∧Sv w l:=by
 obtain ⟨s,rows,rfl,hs,hn,hr,_⟩:=akr XP (aim XP (by kernel_rfl) WW) hv h
 obtain ⟨ls,xs,h1,h2,h3⟩:=XO (C:=fD.cs) (E:=Ul) (p:=fun a=>∃ lb lt aq,tJ w a lb lt aq) rows fun row iR=>by
  obtain ⟨a,lb,lt,aq,e,ha⟩:=ZH (hr row iR).1
  exact ⟨a,⟨none,0,0⟩,e,trivial,lb,lt,aq,ha⟩
 rw [h1] at hs
 exact ⟨s,ls,rfl,⟨xs,hs,h2⟩,h3⟩
end Go.Proofs.YtgjoehgomjgckaaGreatDoor
end
