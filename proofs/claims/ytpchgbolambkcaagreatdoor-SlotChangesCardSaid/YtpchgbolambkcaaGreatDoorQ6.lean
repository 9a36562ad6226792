/- Texts of this claim, packed and shortened. -/
import Derived.Deep.Slices
import Derived.Deep.Fields
import Derived.Test.YtpchgbolambkcaaGreatDoorQ5
import Derived.Test.YtpchgbolambkcaaGreatDoorQ4
import Derived.Test.YtpchgbolambkcaaGreatDoorQ2
import Derived.Test.YtpchgbolambkcaaGreatDoorQ3
section
set_option linter.unusedVariables false
set_option linter.unusedSimpArgs false
namespace Go.Proofs.YtpchgbolambkcaaGreatDoor
open Go Go.Ev
set_option maxRecDepth 20000
set_option linter.unusedVariables false
def cO (n:Int):Prop:=-9223372036854775808≤n∧n≤9223372036854775807
structure nD (t:aJ):Prop where
 clock:cO t.clock
 ten:∀ x∈t.bq,cO x.id∧cO x.par
 aE:∀ p∈t.aE,cO p.id∧cO p.ten∧cO p.high
 key:∀ k∈t.keys,cO k.id∧cO k.ten∧cO k.set
 lS:∀ k∈t.keys,∀ v∈k.bu,cO v.n∧cO v.st∧cO v.due
 gr:∀ g∈t.cM,cO g.n0∧cO g.n1∧cO g.n2∧cO g.n3∧cO g.n4
theorem fR {n:Int} (h:cO n) (r:List B8):aY (some (be n ++ r))=(n,some r):=Kf h h r
theorem Y6 {A:Type} (f:Rs→A×Rs) (g:A→List B8) (l:List A) (hf:∀ x∈l,∀ r,f (some (g x ++ r))=(x,some r)):∀ n,n≤l.length→∀ r,fG f n (some (((l.take n).map g).flatten ++ r))=(l.take n,some r)
 | 0,_,r=>by simp [fG]
 | n+1,hn,r=>by
  have hx:l.take (n+1)=l.take n ++ [l[n]]:=by rw [List.take_add_one,List.getElem?_eq_getElem (by omega)]; rfl
  have ih:=Y6 f g l hf n (by omega) (g l[n] ++ r)
  have e:((l.take (n+1)).map g).flatten ++ r=((l.take n).map g).flatten ++ (g l[n] ++ r):=by
   rw [hx,List.map_append,List.flatten_append,List.append_assoc]
   show _ ++ ((g l[n] ++ []) ++ r)=_
   rw [List.append_nil]
  rw [e]
  show ((fG f n _).1 ++ [(f (fG f n _).2).1],(f (fG f n _).2).2)=_
  rw [ih]
  show (l.take n ++ [(f (some (g l[n] ++ r))).1],(f (some (g l[n] ++ r))).2)=_
  rw [hf _ (List.getElem_mem _),hx]
theorem EW {A:Type} (f:Rs→A×Rs) (g:A→List B8) (l:List A) {most:Int} (hf:∀ x∈l,∀ r,f (some (g x ++ r))=(x,some r)) (hm:(l.length:Int)≤most) (h9:l.length≤1000) (r:List B8):lB f most (some (be (l.length:Int) ++ ((l.map g).flatten ++ r)))=(l,some r):=by
 unfold lB
 rw [Kf (by omega) (by omega)]
 have:=Y6 f g l hf l.length (Nat.le_refl _) r
 rw [List.take_of_length_le (Nat.le_refl _)] at this
 exact this
theorem ajm (u:bw):BitVec.ofInt 64 (IntKind.wrap .i64 (u.toNat:Int))=u:=by
 have hu:=u.isLt
 have e:IntKind.wrap .i64 (u.toNat:Int)=if (u.toNat:Int) % 18446744073709551616 ≥ 9223372036854775808 then (u.toNat:Int) % 18446744073709551616 - 18446744073709551616 else (u.toNat:Int) % 18446744073709551616:=by
  simp [IntKind.wrap,IntKind.signed,IntKind.bits]
 rw [e]
 apply BitVec.eq_of_toNat_eq
 rw [BitVec.toNat_ofInt]
 split <;> omega
theorem al8 (u:bw):cO (IntKind.wrap .i64 (u.toNat:Int)):=by
 have hu:=u.isLt
 have e:IntKind.wrap .i64 (u.toNat:Int)=if (u.toNat:Int) % 18446744073709551616 ≥ 9223372036854775808 then (u.toNat:Int) % 18446744073709551616 - 18446744073709551616 else (u.toNat:Int) % 18446744073709551616:=by
  simp [IntKind.wrap,IntKind.signed,IntKind.bits]
 rw [e]
 unfold cO
 split <;> omega
theorem akI {x:bZ} (h:cO x.id∧cO x.par) (hn:x.name.size≤300) (r:List B8):pJ (some (mX x ++ r))=(x,some r):=by
 have e:mX x ++ r=be x.id ++ (be x.par ++ (laid (eF x.name) ++ r)):=by simp [mX,cG]
 unfold pJ
 rw [e,fR h.1]
 show (bZ.mk x.id (aY (some (be x.par ++ (laid (eF x.name) ++ r)))).1 (strOf (cF 300 (aY (some (be x.par ++ (laid (eF x.name) ++ r)))).2).1),(cF 300 (aY (some (be x.par ++ (laid (eF x.name) ++ r)))).2).2)=_
 rw [fR h.2]
 show (bZ.mk x.id x.par (strOf (cF 300 (some (laid (eF x.name) ++ r))).1),(cF 300 (some (laid (eF x.name) ++ r))).2)=_
 rw [tA (by rw [qp]; omega) (by rw [qp]; omega)]
 show (bZ.mk x.id x.par (strOf (eF x.name)),some r)=_
 rw [YY]
theorem akJ {p:cv} (h:cO p.id∧cO p.ten∧cO p.high) (hk:p.key.length=1312) (r:List B8):pK (some (ny p ++ r))=(p,some r):=by
 have e:ny p ++ r=be p.id ++ (be p.ten ++ (laid p.key ++ (be p.high ++ (be (IntKind.wrap .i64 (p.used.toNat:Int)) ++ r)))):=by simp [ny,cG]
 have o:=ajm p.used
 have o2:=al8 p.used
 generalize IntKind.wrap .i64 (p.used.toNat:Int)=u at *
 have e1:=fR h.1 (be p.ten ++ (laid p.key ++ (be p.high ++ (be u ++ r))))
 have e2:=fR h.2.1 (laid p.key ++ (be p.high ++ (be u ++ r)))
 have e3:=tA (m:=1312) (p:=p.key) (by omega) (by omega) (be p.high ++ (be u ++ r))
 have e4:=fR h.2.2 (be u ++ r)
 have e5:=fR o2 r
 unfold pK
 simp only [e,e1,e2,e3,e4,e5,o]
theorem akK {v:cJ} (h:cO v.n∧cO v.st∧cO v.due) (hs:v.bV.length≤64) (r:List B8):j0 (some (oC v ++ r))=(v,some r):=by
 have e:oC v ++ r=be v.n ++ (be v.st ++ (be v.due ++ (laid v.bV ++ r))):=by simp [oC,cG]
 have e1:=fR h.1 (be v.st ++ (be v.due ++ (laid v.bV ++ r)))
 have e2:=fR h.2.1 (be v.due ++ (laid v.bV ++ r))
 have e3:=fR h.2.2 (laid v.bV ++ r)
 have e4:=tA (m:=64) (p:=v.bV) (by omega) (by omega) r
 unfold j0
 simp only [e,e1,e2,e3,e4]
theorem akL {k:ct} (h:cO k.id∧cO k.ten∧cO k.set) (hv:k.bu.length≤5) (h2:∀ v∈k.bu,cO v.n∧cO v.st∧cO v.due) (hs:∀ v∈k.bu,v.bV.length≤64) (r:List B8):lC (some (oD k ++ r))=(k,some r):=by
 have e:oD k ++ r=be k.id ++ (be k.ten ++ (be k.set ++ (be (k.bu.length:Int) ++ ((k.bu.map oC).flatten ++ r)))):=by simp [oD,rO,cG]
 have e1:=fR h.1 (be k.ten ++ (be k.set ++ (be (k.bu.length:Int) ++ ((k.bu.map oC).flatten ++ r))))
 have e2:=fR h.2.1 (be k.set ++ (be (k.bu.length:Int) ++ ((k.bu.map oC).flatten ++ r)))
 have e3:=fR h.2.2 (be (k.bu.length:Int) ++ ((k.bu.map oC).flatten ++ r))
 have e4:=EW j0 oC k.bu (most:=5) (fun v hv r=>akK (h2 v hv) (hs v hv) r) (by omega) (by omega) r
 unfold lB at e4
 unfold lC
 simp only [e,e1,e2,e3,e4]
theorem akM {g:dY} (h:cO g.n0∧cO g.n1∧cO g.n2∧cO g.n3∧cO g.n4) (r:List B8):qB (some (oX g ++ r))=(g,some r):=by
 have e:oX g ++ r=be g.n0 ++ (be g.n1 ++ (be g.n2 ++ (be g.n3 ++ (be g.n4 ++ (be (q9 g.rev) ++ r))))):=by simp [oX,cG]
 have hf:0≤q9 g.rev∧q9 g.rev≤1∧decide (q9 g.rev=1)=g.rev:=by cases g.rev <;> decide
 have e1:=fR h.1 (be g.n1 ++ (be g.n2 ++ (be g.n3 ++ (be g.n4 ++ (be (q9 g.rev) ++ r)))))
 have e2:=fR h.2.1 (be g.n2 ++ (be g.n3 ++ (be g.n4 ++ (be (q9 g.rev) ++ r))))
 have e3:=fR h.2.2.1 (be g.n3 ++ (be g.n4 ++ (be (q9 g.rev) ++ r)))
 have e4:=fR h.2.2.2.1 (be g.n4 ++ (be (q9 g.rev) ++ r))
 have e5:=fR h.2.2.2.2 (be (q9 g.rev) ++ r)
 have e6:=Kf (lo:=0) (hi:=1) (n:=q9 g.rev) (by omega) (by omega) r
 unfold qB
 simp only [e,e1,e2,e3,e4,e5,e6,hf.2.2]
theorem akN {t:aJ} (h:lP t) (n:nD t):rB (fC t)=(t,some []):=by
 have e:fC t=be t.clock ++ (laid t.fy ++ (be (t.bq.length:Int) ++ ((t.bq.map mX).flatten ++ (be (t.aE.length:Int) ++ ((t.aE.map ny).flatten ++ (be (t.keys.length:Int) ++ ((t.keys.map oD).flatten ++ (be (t.cM.length:Int) ++ ((t.cM.map oX).flatten ++ []))))))))):=by
  simp [fC,zq,mY,oT,vO,cG]
 have f1:=h.sec
 have f2:=h.ten
 have f3:=h.aE
 have f4:=h.key
 have f5:=h.gr
 have e6:=EW qB oX t.cM (most:=8) (fun x hx r=>akM (n.gr x hx) r) (by omega) (by omega) []
 generalize be (t.cM.length:Int) ++ ((t.cM.map oX).flatten ++ [])=r1 at *
 have e5:=EW lC oD t.keys (most:=6) (fun x hx r=>akL (n.key x hx) (h.lS x hx) (n.lS x hx) (h.bV x hx) r) (by omega) (by omega) r1
 generalize be (t.keys.length:Int) ++ ((t.keys.map oD).flatten ++ r1)=r2 at *
 have e4:=EW pK ny t.aE (most:=6) (fun x hx r=>akJ (n.aE x hx) (h.pk x hx) r) (by omega) (by omega) r2
 generalize be (t.aE.length:Int) ++ ((t.aE.map ny).flatten ++ r2)=r3 at *
 have e3:=EW pJ mX t.bq (most:=8) (fun x hx r=>akI (n.ten x hx) (h.UX x hx) r) (by omega) (by omega) r3
 generalize be (t.bq.length:Int) ++ ((t.bq.map mX).flatten ++ r3)=r4 at *
 have e2:=tA (m:=32) (p:=t.fy) (by omega) (by omega) r4
 have e1:=fR n.clock (laid t.fy ++ r4)
 unfold rB
 simp only [e,e1,e2,e3,e4,e5,e6]
theorem aa5 {t:aJ} (hm:oS t) (n:nD t):mw (fC t)=0∧oZ (fC t)=t:=by
 have e:=akN hm.DC n
 have hc:mw (fC t)=0:=by
  unfold mw
  rw [e]
  show (if (fP (some []) && dh t)=true then (0:Int) else 4)=0
  rw [mQ.2 hm]
  rfl
 exact ⟨hc,by unfold oZ; rw [if_pos hc,e]⟩
end Go.Proofs.YtpchgbolambkcaaGreatDoor
end
section
set_option linter.unusedVariables false
set_option linter.unusedSimpArgs false
namespace Go.Proofs.YtpchgbolambkcaaGreatDoor
open Go Go.Ev
set_option maxRecDepth 20000
set_option linter.unusedVariables false
theorem _root_.Go.Ev.aq.SZ {w0 w:World} {S:List Nat} {L M:List aB} (H:aq w0 S w (L ++ M)) (k:Nat) {e:TypeId} {sz:Nat} {y:ah} {vs:List Value} (hk:M[k]? = some (.row e sz y vs)):off (L.flatMap (·.fp)) y:=by
 intro h0 c hc dM
 obtain ⟨r,hr,hb⟩:=List.mem_flatMap.1 dM
 obtain ⟨j,hj⟩:=List.getElem?_of_mem hr
 have hl:j<L.length:=(List.getElem?_eq_some_iff.1 hj).1
 have jL:c.block∈y.row:=by unfold ah.row; rw [hc]; show c.block∈[c.block]; simp
 refine H.apart j (L.length+k) r _ (by omega) (by rw [List.getElem?_append_left hl]; exact hj) (by rw [List.getElem?_append_right (by omega),Nat.add_sub_cancel_left]; exact hk) c.block hb jL
theorem EA (c:Int) (hc:c≠0) (w:World):Ok Pr wG [.int .i64 c] w fun v w'=>gy w w' v c∧Mod [] w w':=by
 refine agP ?_
 unfold PX
 exact oL fun b w' hb h1 h2 _=>⟨gy.mk h1 (by omega) hc,h2⟩
def cR (gen:Int):Int:=gen % 2 * 40
def bC (gen:Int):Int:=40 - gen % 2 * 40
theorem Pe (gen:Int) (h:0≤gen) (w:World):Ok Pr ED [.int .i64 gen] w fun v w'=>v=.int .i64 (cR gen)∧w'=w:=by
 refine agQ ?_
 unfold PY
 exact ⟨h,⟨by omega,by omega⟩,rfl,rfl⟩
theorem YG (gen:Int) (h:0≤gen) (w:World):Ok Pr JE [.int .i64 gen] w fun v w'=>v=.tuple ⟨[.int .i64 (bC gen),.int .i64 (bC gen+40)]⟩∧w'=w:=by
 refine aiq ?_
 unfold RG
 refine aC (Pe gen h w) ?_
 rintro _ w1 ⟨rfl,rfl⟩
 refine cr ?_
 unfold cR bC
 exact ⟨⟨by omega,by omega⟩,⟨by omega,by omega⟩,rfl,rfl⟩
def wo (D:aU) (gen count:Int) (t:aJ):Bool:=dh t && (decide (1≤gen) && (decide (0≤count) && decide (80<D.now.length)))
def BK (count:Int):Int:=IntKind.wrap .i64 (count+1)
def oE (D:aU) (gen count:Int) (t:aJ):Int:=if wo D gen count t=true then iz D (bC gen) (bC gen+40) gen (BK count) (fC t) else 2
def dB (D:aU) (gen count:Int) (t:aJ):aU:=if wo D gen count t=true then fM D (bC gen) (bC gen+40) gen (BK count) (fC t) else D
theorem Ao {w0 w:World} {S:List Nat} {p:Nat} {s:gB} {D:aU} {m:Nat} (H:aq w0 S w (cu p s D)) (hD:D.ok m) (gen count:Int) (T:cL) (t:aJ) (hs:t.small) (hx:∀ {w'},Mod S w0 w'→bN w' T t) :
  Ok Pr rW [.pointer (some ⟨p,0,none⟩),.int .i64 gen,.int .i64 count,.agg ⟨t.cs T⟩] w fun v w'=>∃ s':gB,aq w0 S w' (cu p s' (dB D gen count t) ++ [aB.err v (oE D gen count t)]):=by
 refine ahp ?_
 unfold QK
 have hC:oE D gen count t=if wo D gen count t=true then iz D (bC gen) (bC gen+40) gen (BK count) (fC t) else 2:=rfl
 have hV:dB D gen count t=if wo D gen count t=true then fM D (bC gen) (bC gen+40) gen (BK count) (fC t) else D:=rfl
 have hQ:wo D gen count t=(dh t && (decide (1≤gen) && (decide (0≤count) && decide (80<D.now.length)))):=rfl
 generalize oE D gen count t=C at *
 generalize dB D gen count t=V at *
 generalize wo D gen count t=Q at *
 refine H.nw fun q w1 H _=>ite_false rfl (H.aG 5 rfl (aC (air T t hs _ (hx H.mod)) ?_))
 rintro _ w3 ⟨y,er,rfl,G⟩
 have K:aq w0 S w3 (cu p s D ++ [.av q (t.cs T) aA,.row aM 1 y (aL (if dh t then fC t else [])),aB.err er (if dh t then 0 else 2)]):=H.join G
 clear H G
 refine ⟨_,rfl,dP ⟨rfl,iB fun go bX=>gm fun iH fH=>?_⟩⟩
 have bad:Q=false→iH true w3:=by
  intro hq
  rw [hq] at hC hV
  rw [if_neg (by decide)] at hC hV
  subst hC hV
  refine fH true w3 (ite_true rfl (aC (EA 2 (by omega) w3) ?_))
  rintro e2 w4 ⟨l9,m4⟩
  exact ⟨s,(K.take 5).jY m4 l9⟩
 have he:eR w3 er (if dh t then 0 else 2):=K.err 7 rfl
 refine he.isNil ?_
 by_cases hm:dh t=true∧1≤gen∧0≤count
 case neg=>
  refine ite_true ?_ (bad ?_)
  ·by_cases h1:dh t=true
   ·by_cases h2:1≤gen
    ·have h3:¬ 0≤count:=fun h=>hm ⟨h1,h2,h⟩
     rw [decide_eq_true (show count<0 by omega),Bool.or_true]
    ·rw [decide_eq_true (show gen<1 by omega),Bool.or_true,Bool.true_or]
   ·rw [if_neg h1]; rfl
  ·rw [hQ]
   by_cases h1:dh t=true
   ·by_cases h2:1≤gen
    ·have h3:¬ 0≤count:=fun h=>hm ⟨h1,h2,h⟩
     rw [decide_eq_false h3,Bool.false_and,Bool.and_false,Bool.and_false]
    ·rw [decide_eq_false h2,Bool.false_and,Bool.and_false]
   ·rw [Bool.eq_false_iff.2 h1,Bool.false_and]
 obtain ⟨h1,h2,h3⟩:=hm
 rw [h1] at K hQ
 have hR:=mV K
 refine ite_false (by rw [h1,decide_eq_false (show ¬ gen<1 by omega),decide_eq_false (show ¬ count<0 by omega)]; rfl) (aC (An hR) ?_)
 rintro _ w4 ⟨rfl,BG⟩
 subst BG
 refine cr ?_
 by_cases h4:80<D.now.length
 case neg=>
  rw [decide_eq_true (show (D.now.length:Int)≤80 by omega)]
  refine bad ?_
  rw [hQ,decide_eq_false h4,Bool.and_false,Bool.and_false,Bool.and_false]
 rw [decide_eq_true h2,decide_eq_true h3,decide_eq_true h4] at hQ
 have hQ:Q=true:=hQ
 rw [hQ] at hC hV
 rw [if_pos rfl] at hC hV
 rw [decide_eq_false (show ¬ (D.now.length:Int)≤80 by omega)]
 refine fH false _ (ite_false rfl (bX _ (aC (YG gen (by omega) _) ?_)))
 rintro _ w5 ⟨rfl,V5⟩
 subst V5
 refine ⟨_,rfl,_,rfl,_,rfl,rfl,?_⟩
 have vL:=(mQ.1 h1).DC.len
 have V6:=K.SZ 1 rfl
 have zO:=K.bytes 6 rfl
 have uE:-9223372036854775808≤bC gen+40∧bC gen+40≤9223372036854775807:=by unfold bC; omega
 refine aC (XD K.sub hD (bC gen) (bC gen+40) gen (BK count) y (fC t) (by omega) uE (fun m=>zO.mod m V6)) ?_
 rintro _ w6 ⟨s',DZ,rfl,Z⟩
 have F:=K.back Z
 subst hC hV
 exact ⟨_,rfl,cr ⟨rfl,s',F.take 6⟩⟩
end Go.Proofs.YtpchgbolambkcaaGreatDoor
end
section
set_option linter.unusedVariables false
set_option linter.unusedSimpArgs false
namespace Go.Proofs.YtpchgbolambkcaaGreatDoor
open Go Go.Ev
set_option maxRecDepth 20000
set_option linter.unusedVariables false
def cQ (D:aU) (a:Int):Option (Int×Int×aJ):=
 if (fT D a).2.2=true∧bC (fT D a).1=a then
  match fO D a (bC (fT D a).1+40) (fT D a).1 (fT D a).2.1 with
  | some b=>if mw b=0 then some ((fT D a).1,(fT D a).2.1 - 1,oZ b) else none
  | none=>none
 else none
def jR:Int×Int×aJ:=(0,0,bK)
theorem aaq (D:aU) (a:Int):(0≤(fT D a).1∧(fT D a).1≤9223372036854775807)∧0≤(fT D a).2.1∧(fT D a).2.1≤9223372036854775807:=by
 unfold fT
 split
 ·rename_i h
  have h1:=RZ h.2.1
  have h2:=Y5 ((aX D a).take 8)
  have h3:=Y5 (((aX D a).drop 8).take 8)
  have e2:(dV (aX D a)).gen=numOf ((aX D a).take 8):=rfl
  have e3:(dV (aX D a)).number=numOf (((aX D a).drop 8).take 8):=rfl
  refine ⟨⟨?_,?_⟩,?_,?_⟩
  ·show 0≤(dV (aX D a)).gen; omega
  ·show (dV (aX D a)).gen≤_; omega
  ·show 0≤(dV (aX D a)).number; omega
  ·show (dV (aX D a)).number≤_; omega
 ·exact ⟨⟨by decide,by decide⟩,by decide,by decide⟩
theorem SB {D:aU} {a e gen number n:Int}:∀ (k:Nat) (o:List B8),kF D a e gen number n k=some o→o.length≤488 * k∧(0<k→a+((k:Int) - 1)<e)
 | 0,o,h=>by cases h; exact ⟨by simp,fun h=>by omega⟩
 | k+1,o,h=>by
  have h:(match kF D a e gen number n k with | none=>none | some o=>if a+(k:Int)<e∧jZ (aX D (a+(k:Int))) gen number (k:Int) n=true then some (o ++ lA (aX D (a+(k:Int)))) else none)=some o:=h
  cases ht:kF D a e gen number n k with
  | none=>rw [ht] at h; cases h
  | some o1=>
   rw [ht] at h
   have h:(if a+(k:Int)<e∧jZ (aX D (a+(k:Int))) gen number (k:Int) n=true then some (o1 ++ lA (aX D (a+(k:Int)))) else none)=some o:=h
   split at h
   ·rename_i hc
    cases h
    have ih:=(SB k o1 ht).1
    have hf:=hc.2
    unfold jZ at hf
    simp only [Bool.and_eq_true] at hf
    have hz:=RZ hf.1.1.1.1.1
    refine ⟨?_,fun _=>by omega⟩
    rw [List.length_append]
    unfold lA
    rw [List.length_take]
    omega
   ·cases h
theorem al9 {D:aU} {a gen number:Int} {o:List B8} (h:fO D a (a+40) gen number=some o):o.length≤19520:=by
 unfold fO at h
 split at h
 ·have h1:=SB _ o h
  have h2:=h1.2 (by omega)
  omega
 ·cases h
theorem ach {w0 w:World} {S:List Nat} {L:List aB} (H:aq w0 S w L):aq w0 S w [.box [] fun w=>sH [] w sZ bK]:=
 (H.push (r:=.box [] fun w=>sH [] w sZ bK) (Mod.refl [] w) ⟨fun c hc=>(by cases hc),fun w' _=>SY w'⟩ (fun c hc=>(by cases hc))).only L.length (by simp)
theorem XQ {w:World} {p:Nat} {s:gB} {D:aU} {m:Nat} (h:gY w p s D) (hD:D.ok m) (a:Int):Ok Pr I9 [.pointer (some ⟨p,0,none⟩),.int .i64 a] w fun v w'=>
  ∃ (T:cL) (fp:List Nat),v=.tuple ⟨[.int .i64 ((cQ D a).getD jR).1,.int .i64 ((cQ D a).getD jR).2.1,.agg ⟨((cQ D a).getD jR).2.2.cs T⟩,.bool (cQ D a).isSome]⟩∧aq w [] w' [.box fp fun w=>sH fp w T ((cQ D a).getD jR).2.2]:=by
 refine ahs ?_
 unfold QN
 rw [lV]
 have hR:cQ D a=if (fT D a).2.2=true∧bC (fT D a).1=a then (match fO D a (bC (fT D a).1+40) (fT D a).1 (fT D a).2.1 with | some b=>if mw b=0 then some ((fT D a).1,(fT D a).2.1 - 1,oZ b) else none | none=>none) else none:=rfl
 have hr:=aaq D a
 generalize cQ D a=R at *
 refine (aq.start w).nw fun p1 w1 H _=>aC (aim (h.aI H.mod) hD a) ?_
 rintro _ w2 ⟨rfl,m2⟩
 have H:=H.frame m2
 generalize fT D a=P at *
 obtain ⟨gen,number,ok⟩:=P
 refine ⟨_,rfl,_,rfl,_,rfl,_,rfl,rfl,aC (YG gen hr.1.1 w2) ?_⟩
 rintro _ w3 ⟨rfl,hw3⟩
 subst hw3
 refine ⟨_,rfl,_,rfl,_,rfl,rfl,?_⟩
 have H:aq w [] w3 [.av p1 (bK.cs sZ) aA]:=H
 by_cases hc:ok=true∧bC gen=a
 case neg=>
  rw [if_neg hc] at hR
  subst hR
  refine ite_true ?_ (H.aV 0 rfl rfl fun w4 H=>H.aG 0 rfl ⟨sZ,[],rfl,ach H⟩)
  cases ok with
  | false=>rfl
  | true=>rw [decide_eq_false (fun e=>hc ⟨rfl,e⟩)]; rfl
 rw [if_pos hc] at hR
 obtain ⟨rfl,rfl⟩:=hc
 refine ite_false (by rw [decide_eq_true rfl]; rfl) (aC (XP (h.aI H.mod) hD (bC gen) (bC gen+40) gen number) ?_)
 rintro _ w5 ⟨y,rfl,G⟩
 have K:=H.join G
 have hlen:((fO D (bC gen) (bC gen+40) gen number).getD []).length≤100000:=by
  cases ht:fO D (bC gen) (bC gen+40) gen number with
  | none=>show ([]:List B8).length≤_; simp
  | some o=>have:=al9 ht; show o.length≤_; omega
 have hR:R=(match fO D (bC gen) (bC gen+40) gen number with | some b=>if mw b=0 then some (gen,number - 1,oZ b) else none | none=>none):=hR
 refine ⟨_,rfl,dP (cr (bh ⟨rfl,aC (ahY y _ hlen w5 (K.bytes 1 rfl)) ?_⟩))⟩
 rintro _ w6 ⟨T,er,fp,rfl,Z⟩
 have F:=K.join Z
 refine ⟨_,rfl,jT ⟨rfl,F.nw fun p2 w7 F _=>F.aV 4 rfl rfl fun w8 F=>?_⟩⟩
 have he:eR w8 er (mw ((fO D (bC gen) (bC gen+40) gen number).getD [])):=F.err 3 rfl
 refine iB fun go bX=>gm fun iH fH=>?_
 have bad:R=none→iH true w8:=by
  intro hn
  subst hn
  exact fH true w8 (ite_true rfl (F.aV 0 rfl rfl fun w9 F=>F.aG 0 rfl ⟨sZ,[],rfl,ach F⟩))
 cases ht:fO D (bC gen) (bC gen+40) gen number with
 | none=>exact ite_true rfl (bad (by rw [hR,ht]))
 | some b=>
  rw [ht] at he hR F
  have hR:R=if mw b=0 then some (gen,number - 1,oZ b) else none:=hR
  have he:eR w8 er (mw b):=he
  refine ite_false rfl (he.isNil ?_)
  by_cases h0:mw b=0
  case neg=>
   rw [decide_eq_false h0]
   exact bad (by rw [hR,if_neg h0])
  rw [if_pos h0] at hR
  subst hR
  rw [decide_eq_true h0]
  have F:=F.drew
  have pN:=hr.2
  have pN:0≤number∧number≤9223372036854775807:=pN
  refine fH false w8 (ite_false rfl (bX w8 ⟨⟨by omega,by omega⟩,F.aG 4 rfl (F.aV 0 rfl rfl fun w9 F=>F.aG 0 rfl ⟨T,fp,rfl,F.only 2 rfl⟩)⟩))
end Go.Proofs.YtpchgbolambkcaaGreatDoor
end
section
set_option linter.unusedVariables false
set_option linter.unusedSimpArgs false
namespace Go.Proofs.YtpchgbolambkcaaGreatDoor
open Go Go.Ev
set_option maxRecDepth 20000
set_option linter.unusedVariables false
def dK (D:aU):Option (Int×Int×aJ):=if ((cQ D 0).isSome && (!(cQ D 40).isSome || decide (((cQ D 40).getD jR).1<((cQ D 0).getD jR).1)))=true then cQ D 0 else cQ D 40
def gD (D:aU):Int:=if (dK D).isSome=true then 0 else 9
def aoK (w w':World) (v:Value) (r:Int×Int×aJ) (c:Int):Prop:=∃ (T:cL) (er:Value) (fp:List Nat),v=.tuple ⟨[.int .i64 r.1,.int .i64 r.2.1,.agg ⟨r.2.2.cs T⟩,er]⟩∧aq w [] w' [.box fp fun w=>sH fp w T r.2.2,aB.err er c]
def aoL (w w':World) (v:Value) (r:Int×Int×aJ) (c:Int):Prop:=∃ (T:cL) (er:Value) (fp:List Nat),v=.tuple ⟨[.int .i64 r.1,.int .i64 r.2.1,.agg ⟨r.2.2.cs T⟩,er]⟩∧aq w [] w' [.box fp fun w=>bN w T r.2.2,aB.err er c]
theorem XF {w:World} {p:Nat} {s:gB} {D:aU} {m:Nat} (h:gY w p s D) (hD:D.ok m):Ok Pr qn [.pointer (some ⟨p,0,none⟩)] w fun v w'=>aoK w w' v ((dK D).getD jR) (gD D):=by
 refine ahq ?_
 unfold QL
 rw [lV]
 have hR:dK D=if ((cQ D 0).isSome && (!(cQ D 40).isSome || decide (((cQ D 40).getD jR).1<((cQ D 0).getD jR).1)))=true then cQ D 0 else cQ D 40:=rfl
 have hC:gD D=if (dK D).isSome=true then 0 else 9:=rfl
 generalize gD D=C at *
 generalize dK D=R at *
 refine (aq.start w).nw fun p1 w1 H _=>ite_false rfl (aC (XQ (h.aI H.mod) hD 0) ?_)
 rintro _ w4 ⟨T1,f1,rfl,G1⟩
 have H:=H.join G1
 refine ⟨_,rfl,cr (cr (jT (bh ⟨rfl,H.nw fun p2 w5 H _=>H.aV 2 rfl rfl fun w6 H=>aC (XQ (h.aI H.mod) hD 40) ?_⟩)))⟩
 rintro _ w7 ⟨T2,f2,rfl,G2⟩
 have H:=H.join G2
 refine ⟨_,rfl,cr (cr (jT (bh ⟨rfl,H.nw fun p3 w8 H _=>H.aV 4 rfl rfl fun w9 H=>?_⟩)))⟩
 generalize hA:cQ D 0=A at *
 generalize hB:cQ D 40=B at *
 refine cN (fun hc=>?_) fun hc=>?_
 ·rw [if_pos hc] at hR
  subst hR
  have hs:R.isSome=true:=by
   simp only [Bool.and_eq_true] at hc
   exact hc.1
  rw [if_pos hs] at hC
  subst hC
  have H:=H.drew
  refine H.aG 2 rfl (H.aV 0 rfl rfl fun dN H=>H.aG 0 rfl ⟨T1,.nilIface,f1,rfl,(H.only 1 rfl).jY (Mod.refl _ _) (q8 _ _)⟩)
 ·rw [if_neg (by rw [hc]; decide)] at hR
  subst hR
  refine cN (fun hd=>?_) fun hd=>?_
  ·rw [if_pos hd] at hC
   subst hC
   have H:=H.drew
   refine H.aG 4 rfl (H.aV 0 rfl rfl fun dN H=>H.aG 0 rfl ⟨T2,.nilIface,f2,rfl,(H.only 3 rfl).jY (Mod.refl _ _) (q8 _ _)⟩)
  ·rw [if_neg (by rw [hd]; decide)] at hC
   subst hC
   refine aC (EA 9 (by omega) w9) ?_
   rintro er dN ⟨he,xP⟩
   have H:=H.jY xP he
   have hn:R=none:=by cases R with | none=>rfl | some x=>cases hd
   subst hn
   refine H.aV 0 rfl rfl fun fZ H=>H.aG 0 rfl ?_
   have K:=(H.only 5 rfl).push (r:=.box [] fun w=>sH [] w sZ bK) (Mod.refl [] fZ) ⟨fun c hc=>(by cases hc),fun w' _=>SY w'⟩ (fun c hc=>(by cases hc))
   exact ⟨sZ,er,[],rfl,K.two 1 0 rfl rfl (by decide)⟩
theorem I7 {w:World} {p:Nat} {s:gB} {D:aU} {m:Nat} (h:gY w p s D) (hD:D.ok m):Ok Pr qn [.pointer (some ⟨p,0,none⟩)] w fun v w'=>aoL w w' v ((dK D).getD jR) (gD D):=
 (XF h hD).mono fun v w' ⟨T,er,fp,e,G⟩=>⟨T,er,fp,e,G.less 0 rfl (s:=.box fp fun w=>bN w T ((dK D).getD jR).2.2) ⟨(G.ok 0 _ rfl).1,fun w2 h2=>((G.ok 0 _ rfl).2 w2 h2).r⟩ (fun b hb=>hb)⟩
end Go.Proofs.YtpchgbolambkcaaGreatDoor
end
section
set_option linter.unusedVariables false
set_option linter.unusedSimpArgs false
namespace Go.Proofs.YtpchgbolambkcaaGreatDoor
open Go Go.Ev
set_option maxRecDepth 20000
set_option linter.unusedVariables false
def wq (D:aU) (gen a:Int):Bool:=!((decide (gen<1) || decide (a<80)) || decide ((D.now.length:Int)<a))
def pY (D:aU) (gen:Int):aU:=sV D (cR gen) (cR gen+40)
def xQ (D:aU) (gen a:Int):Int:=if wq D gen a=true then (if fJ D (cR gen) (cR gen+40)=0 then fJ (pY D gen) a ((pY D gen).now.length:Int) else fJ D (cR gen) (cR gen+40)) else 2
def gw (D:aU) (gen a:Int):aU:=if wq D gen a=true then (if fJ D (cR gen) (cR gen+40)=0 then sV (pY D gen) a ((pY D gen).now.length:Int) else pY D gen) else D
theorem XR {w0 w:World} {S:List Nat} {p:Nat} {s:gB} {D:aU} {m:Nat} (H:aq w0 S w (cu p s D)) (hD:D.ok m) (gen a:Int) :
  Ok Pr Co [.pointer (some ⟨p,0,none⟩),.int .i64 gen,.int .i64 a] w fun v w'=>∃ s':gB,aq w0 S w' (cu p s' (gw D gen a) ++ [aB.err v (xQ D gen a)]):=by
 refine Xn ?_
 unfold Jq
 have hC:xQ D gen a=if wq D gen a=true then (if fJ D (cR gen) (cR gen+40)=0 then fJ (pY D gen) a ((pY D gen).now.length:Int) else fJ D (cR gen) (cR gen+40)) else 2:=rfl
 have hV:gw D gen a=if wq D gen a=true then (if fJ D (cR gen) (cR gen+40)=0 then sV (pY D gen) a ((pY D gen).now.length:Int) else pY D gen) else D:=rfl
 have hQ:wq D gen a=!((decide (gen<1) || decide (a<80)) || decide ((D.now.length:Int)<a)):=rfl
 generalize xQ D gen a=C at *
 generalize gw D gen a=V at *
 generalize wq D gen a=Q at *
 refine iB fun go bX=>ite_false rfl (gm fun iH fH=>?_)
 have bad:Q=false→iH true w:=by
  intro hq
  rw [hq] at hC hV
  rw [if_neg (by decide)] at hC hV
  subst hC hV
  refine fH true w (ite_true rfl (aC (EA 2 (by omega) w) ?_))
  rintro e2 w4 ⟨l9,m4⟩
  exact ⟨s,H.jY m4 l9⟩
 refine cN (fun hc=>?_) fun hc=>?_
 ·exact bad (by rw [hQ,hc]; rfl)
 have hR:=mV (M:=[]) (by rw [List.append_nil]; exact H)
 refine aC (An hR) ?_
 rintro _ w4 ⟨rfl,BG⟩
 subst BG
 refine cr ?_
 by_cases h4:(D.now.length:Int)<a
 ·rw [decide_eq_true h4]
  exact bad (by rw [hQ,decide_eq_true h4,Bool.or_true]; rfl)
 rw [decide_eq_false h4] at hQ ⊢
 rw [hc] at hQ
 have hQ:Q=true:=hQ
 rw [hQ] at hC hV
 rw [if_pos rfl] at hC hV
 simp only [Bool.or_eq_false_iff,decide_eq_false_iff_not] at hc
 refine fH false w4 (ite_false rfl (bX w4 (aC (Pe gen (by omega) w4) ?_)))
 rintro _ w5 ⟨rfl,V5⟩
 subst V5
 refine cr (aC (Pe gen (by omega) w5) ?_)
 rintro _ w6 ⟨rfl,Hs⟩
 subst Hs
 have ho:0≤cR gen∧cR gen≤40:=by unfold cR; omega
 refine cr ⟨⟨by omega,by omega⟩,aC (XE H hD (cR gen) (cR gen+40)) ?_⟩
 rintro er w7 ⟨s1,K⟩
 have he:eR w7 er (fJ D (cR gen) (cR gen+40)):=K.err 5 rfl
 refine he.isNil ?_
 by_cases h0:fJ D (cR gen) (cR gen+40)=0
 case neg=>
  rw [if_neg h0] at hC hV
  subst hC hV
  exact ite_true (by rw [decide_eq_false h0]; rfl) ⟨s1,K⟩
 rw [if_pos h0] at hC hV
 subst hC hV
 have K:aq w0 S w7 (cu p s1 (pY D gen)):=K.take 5
 refine ite_false (by rw [decide_eq_true h0]; rfl) (aC (An (mV (M:=[]) (by rw [List.append_nil]; exact K))) ?_)
 rintro _ w8 ⟨rfl,BE⟩
 subst BE
 refine cr (aC (XE K (FA hD _ _) a _) ?_)
 rintro DZ w9 ⟨s2,F⟩
 exact ⟨s2,F⟩
end Go.Proofs.YtpchgbolambkcaaGreatDoor
end
section
set_option linter.unusedVariables false
set_option linter.unusedSimpArgs false
namespace Go.Proofs.YtpchgbolambkcaaGreatDoor
open Go Go.Ev
set_option maxRecDepth 20000
set_option linter.unusedVariables false
def cY (q:bL) (sd:ah):List Value:=Ez q.n0 q.n1 q.n2 q.n3 q.n4 q.n5 q.n6 q.n7 q.n8 q.n9 q.l7 q.name q.dG q.tok sd
def iA (q:bL) (lb lt ld:List B8):List B8:=cG q.dz ++ laid (eF q.name) ++ iq [lb,lt,ld]
theorem X9 (q:bL) (sd:ah) (lb lt ld:List B8) (hn:q.name.size≤10000) (h1:lb.length≤10000) (h2:lt.length≤10000) (h3:ld.length≤10000) (w:World) (hb:Bytes w q.dG lb) (ht:Bytes w q.tok lt) (hd:Bytes w sd ld) :
  Ok Pr Js [.agg ⟨cY q sd⟩] w fun v w'=>qA w w' v (iA q lb lt ld):=by
 refine ahW ?_
 unfold Rt
 rw [SO]
 refine (aq.start w).nw fun p w1 H _=>?_
 refine Ey (c0:=q.n0) (c1:=q.n1) (c2:=q.n2) (c3:=q.n3) (c4:=q.n4) (c5:=q.n5) (c6:=q.n6) (c7:=q.n7) (c8:=q.n8) (c9:=q.n9) (eZ:=q.l7) (fh:=q.name) (dS:=q.dG) (dU:=q.tok) (fun i v hv=>?_) (H.nw fun p1 w2 H _=>H.rX 1 rfl rfl fun w3 H=>?_)
 ·refine H.cell 0 (i:=i) rfl (by rw [an,an]) ?_
  have hi:=(List.getElem?_eq_some_iff.1 hv).1
  have:(cY q sd)[i]? = (q.cells ++ [sd.v])[i]?:=rfl
  show (cY q sd)[i]? = some v
  rw [this,List.getElem?_append_left hi]
  exact hv
 have H:aq w [] w3 [.av p (cY q sd) cV,.av p1 q.cells dx]:=H
 refine H.au 1 rfl (an p1 0) rfl (H.au 1 rfl (an p1 1) rfl (H.au 1 rfl (an p1 2) rfl (H.au 1 rfl (an p1 3) rfl (H.au 1 rfl (an p1 4) rfl (H.au 1 rfl (an p1 5) rfl (H.au 1 rfl (an p1 6) rfl (H.au 1 rfl (an p1 7) rfl (H.au 1 rfl (an p1 8) rfl (H.au 1 rfl (an p1 9) rfl (H.au 1 rfl (an p1 10) rfl ?_))))))))))
 refine H.nw fun p2 w4 H _=>?_
 refine aC (IM ⟨none,0,0⟩ [] ⟨some ⟨p2,0,none⟩,11,11⟩ q.dz (by simp) (by show 11≤1000000; omega) w4 (Bytes.nil _) (H.yG 2 (l:=q.dz) rfl)) ?_
 rintro _ w5 ⟨z,rfl,hz,m⟩
 have H:=H.gG m hz
 have H:aq w [] w5.drew [.av p (cY q sd) cV,.av p1 q.cells dx,.av p2 (dw q.dz) bn,.row aM 1 z (aL (cG q.dz))]:=H.drew
 have hl:(cG q.dz).length=88:=by rw [kS]; rfl
 have vX:(cG q.dz ++ laid (eF q.name)).length≤100000:=by rw [List.length_append,wI,qp]; omega
 have parts:∀ {w':World} {b:Nat},Mod [] w w'→bQ w' b [q.dG.v,q.tok.v,sd.v] bp→lz w' [] ⟨some ⟨b,0,none⟩,3,3⟩ [lb,lt,ld]:=fun m hB=>lz.ofs (ss:=[q.dG,q.tok,sd]) hB (by simp) rfl fun i x l hx hl=>by
  match i with
  | 0=>simp only [List.getElem?_cons_zero,Option.some.injEq] at hx hl; subst hx hl; exact ⟨hb.aI m,sq _⟩
  | 1=>simp only [List.getElem?_cons_succ,List.getElem?_cons_zero,Option.some.injEq] at hx hl; subst hx hl; exact ⟨ht.aI m,sq _⟩
  | 2=>simp only [List.getElem?_cons_succ,List.getElem?_cons_zero,Option.some.injEq] at hx hl; subst hx hl; exact ⟨hd.aI m,sq _⟩
  | n+3=>simp at hx
 have le:∀ x∈[lb,lt,ld],x.length≤10000:=by
  intro x hx
  simp only [List.mem_cons,List.not_mem_nil,or_false] at hx
  rcases hx with rfl | rfl | rfl <;> assumption
 refine dP ?_
 refine H.dR 1 rfl (an p1 11) rfl (H.ay 1 rfl (an p1 12) rfl (H.ay 1 rfl (an p1 13) rfl (H.ay 0 rfl (an p 14) rfl ?_)))
 refine And.intro ?_ ?_
 ·refine aC (PD z _ q.name (by omega) hn _ (H.bytes 3 rfl)) ?_
  rintro _ w6 ⟨y,rfl,hy,m6⟩
  have D:=H.gG m6 hy
  refine dP ⟨H.kept m6 0 rfl (an p 14) _,H.kept m6 1 rfl (an p1 13) _,H.kept m6 1 rfl (an p1 12) _,dm D 1 rfl fun b w7 F k=>⟨k _ _,?_⟩⟩
  refine aC (IX y _ ⟨some ⟨b,0,none⟩,3,3⟩ [lb,lt,ld] vX (by simp) le w7 (F.bytes 4 rfl) (parts F.mod (F.av 5 rfl))) ?_
  rintro _ w8 ⟨u,rfl,hu,m8⟩
  exact dP ⟨u,rfl,hu.Dq F.mod.size,F.mod.trans m8⟩
 ·refine dm H 1 rfl fun b w6 F k=>⟨k _ _,?_⟩
  refine aC (PD z _ q.name (by omega) hn _ (F.bytes 3 rfl)) ?_
  rintro _ w7 ⟨y,rfl,hy,m7⟩
  have D:=F.gG m7 hy
  refine dP ⟨F.kept m7 0 rfl (an p 14) _,F.kept m7 1 rfl (an p1 13) _,F.kept m7 1 rfl (an p1 12) _,?_⟩
  refine aC (IX y _ ⟨some ⟨b,0,none⟩,3,3⟩ [lb,lt,ld] vX (by simp) le w7 (D.bytes 5 rfl) (parts D.mod (D.av 4 rfl))) ?_
  rintro _ w8 ⟨u,rfl,hu,m8⟩
  exact dP ⟨u,rfl,hu.Dq D.mod.size,D.mod.trans m8⟩
end Go.Proofs.YtpchgbolambkcaaGreatDoor
end
section
set_option linter.unusedVariables false
set_option linter.unusedSimpArgs false
namespace Go.Proofs.YtpchgbolambkcaaGreatDoor
open Go Go.Ev
set_option maxRecDepth 20000
set_option linter.unusedVariables false
theorem Ru (q:bL) (lb lt ld:List B8):(iA q lb lt ld).length=88+(8+q.name.size)+(8+lb.length+(8+lt.length+(8+ld.length))):=by
 unfold iA iq
 rw [List.length_append,List.length_append,kS,wI,qp]
 simp only [List.map_cons,List.map_nil,List.flatten_cons,List.flatten_nil,List.length_append,wI,List.length_nil]
 show 8 * 11+_+_=_
 omega
theorem IN {w0 w:World} {S:List Nat} {p:Nat} {s:gB} {D:aU} {m:Nat} (H:aq w0 S w (cu p s D)) (hD:D.ok m) (a gen count:Int) (hc:-9223372036854775808≤count+2∧count+2≤9223372036854775807) (q:bL) (sd:ah) (lb lt ld:List B8) (hn:q.name.size≤10000) (h1:lb.length≤10000) (h2:lt.length≤10000) (h3:ld.length≤10000)
  (hx:∀ {w'},Mod S w0 w'→Bytes w' q.dG lb∧Bytes w' q.tok lt∧Bytes w' sd ld) :
  Ok Pr B4 [.pointer (some ⟨p,0,none⟩),.int .i64 a,.int .i64 gen,.int .i64 count,.agg ⟨cY q sd⟩] w fun v w'=>∃ (s':gB) (er:Value),v=.tuple ⟨[.int .i64 (if iz D a (D.now.length:Int) gen (count+2) (iA q lb lt ld)=0 then a+(bM (iA q lb lt ld).length:Int) else 0),er]⟩∧
   aq w0 S w' (cu p s' (fM D a (D.now.length:Int) gen (count+2) (iA q lb lt ld)) ++ [aB.err er (iz D a (D.now.length:Int) gen (count+2) (iA q lb lt ld))]):=by
 refine age ?_
 unfold Pc
 have hm:=hD.most
 have nV:=hD.now
 refine H.nw fun b w1 H _=>⟨⟨by omega,by omega⟩,?_⟩
 have H:aq w0 S w1.drew (cu p s D ++ [.av b (cY q sd) cV]):=H.drew
 refine H.jH 5 rfl (aC (An (mV H)) ?_)
 rintro _ w2 ⟨rfl,DP⟩
 subst DP
 refine cr ⟨fun _ _=>rfl,?_⟩
 obtain ⟨x1,x2,x3⟩:=hx H.mod
 refine aC (X9 q sd lb lt ld hn h1 h2 h3 _ x1 x2 x3) ?_
 rintro _ w3 ⟨y,rfl,hy,m3⟩
 have K:aq w0 S w3 (cu p s D ++ [.av b (cY q sd) cV,.row aM 1 y (aL (iA q lb lt ld))]):=H.gG m3 hy
 have zO:=K.bytes 6 rfl
 have V6:=K.SZ 1 rfl
 have hlen:=Ru q lb lt ld
 refine dP (aC (XD K.sub hD a (D.now.length:Int) gen (count+2) y (iA q lb lt ld) (by omega) (by omega) (fun m=>zO.mod m V6)) ?_)
 rintro _ w4 ⟨s',er,rfl,Z⟩
 have F:=K.back Z
 exact ⟨_,rfl,cr ⟨rfl,s',er,rfl,F.take 6⟩⟩
end Go.Proofs.YtpchgbolambkcaaGreatDoor
end
section
set_option linter.unusedVariables false
set_option linter.unusedSimpArgs false
namespace Go.Proofs.YtpchgbolambkcaaGreatDoor
open Go Go.Ev
set_option maxRecDepth 20000
set_option linter.unusedVariables false
set_option maxHeartbeats 1000000
def Bn (l:List B8) (q:bL) (lb lt ld:List B8) (s:Rs):Prop:=
 ∃ s1 s2 s3 s4 s5 s6 s7 s8 s9 qM pX sa sb sc nm,aY (some l)=(q.n0,s1)∧aY s1=(q.n1,s2)∧aY s2=(q.n2,s3)∧aY s3=(q.n3,s4)∧aY s4=(q.n4,s5)∧aY s5=(q.n5,s6)∧aY s6=(q.n6,s7)∧aY s7=(q.n7,s8)∧aY s8=(q.n8,s9)∧aY s9=(q.n9,qM)∧aY qM=(q.l7,pX)∧cF 300 pX=(nm,sa)∧q.name=strOf nm∧cF 2000 sa=(lb,sb)∧cF 100 sb=(lt,sc)∧cF 100 sc=(ld,s)
theorem RT.uS {w0 w:World} {S:List Nat} {b p1:Nat} {t:TypeId} {B:ah} {full:List B8} {s s':Rs} {L:List aB} (hB:∀ {w'},Mod S w0 w'→Bytes w' B full) (ho:off [b] B) (h:RT w0 w S b B full s L) (k:Nat) (hk:L[k]? = some (.av p1 [.pointer (some ⟨b,0,none⟩)] t)) {n:Int} (e:aY s=(n,s')) {K:Int→World→Prop} (hK:∀ w',RT w0 w' S b B full s' L→K n w') :
  ax Pr p8 [.pointer (some ⟨p1,0,none⟩)] w fun v w'=>aF .i64 v fun t=>K t w':=by
 have ok:Ok Pr p8 [.pointer (some ⟨p1,0,none⟩)] w fun v w'=>v=.int .i64 n∧RT w0 w' S b B full s' L:=by
  refine afn ?_
  unfold NU
  refine h.gS fun x bad H hs=>H.bO (k+1) hk rfl rfl (h.num hB ho e fun w' h' _=>⟨rfl,h'⟩)
 refine aC ok ?_
 rintro _ w' ⟨rfl,h'⟩
 exact cr (hK w' h')
theorem CT:zc Pr cV=cY iK ⟨none,0,0⟩:=by kernel_rfl
theorem Ox (x:ah) (l:List B8) (hl:l.length≤100000) (w:World) (hx:Bytes w x l):Ok Pr Et [.slice x.a x.n x.c] w fun v w'=>
  ∃ (q:bL) (sd:ah) (lb lt ld:List B8) (s:Rs) (B:ah) (er:Value),Bn l q lb lt ld s∧v=.tuple ⟨[.agg ⟨if fP s=true then cY q sd else cY iK ⟨none,0,0⟩⟩,er]⟩∧jh B l q.dG lb∧jh B l q.tok lt∧jh B l sd ld∧aq w [] w' [.row aM 1 B (aL l),aB.err er (if fP s=true then 0 else 4)]:=by
 refine agb ?_
 unfold O9
 rw [CT,anN,SO]
 refine (aq.start w).nw fun p w1 H _=>aC (X8 x l (by omega) _ (hx.aI H.mod)) ?_
 rintro _ w2 ⟨b,B,rfl,hB,hR,kW,hd,m⟩
 have H:=H.abz m (r:=.row aM 1 B (aL l)) (s:=.av b [B.v,.bool false] gh) (hB.Dq (Nat.zero_le _)) hR (fun c hc=>(hB.tP c hc).1) (fun c hc=>by rw [List.mem_singleton.1 hc]; exact kW) (fun c hc uz=>hd (by rw [← List.mem_singleton.1 uz]; exact hc))
 refine yR (H.nw fun p1 w3 H _=>H.st 3 rfl rfl (show 0<1 by omega) rfl fun w4 H=>?_)
 have G:aq w [] w4 ([.av b [B.v,.bool false] gh,.av p (cY iK ⟨none,0,0⟩) cV,.av p1 [.pointer (some ⟨b,0,none⟩)] rR] ++ [.row aM 1 B (aL l)]):=
  H.eu (L':=[.av b [B.v,.bool false] gh,.av p (cY iK ⟨none,0,0⟩) cV,.av p1 [.pointer (some ⟨b,0,none⟩)] rR,.row aM 1 B (aL l)]) [2,0,3,1] (by decide) rfl
 clear H
 have D:=G.sub
 have hS:=G.SZ 0 rfl
 have back:∀ {w':World} {L':List aB},aq w4 (([.av b [B.v,.bool false] gh,.av p (cY iK ⟨none,0,0⟩) cV,.av p1 [.pointer (some ⟨b,0,none⟩)] rR]:List aB).flatMap (·.fp)) w' L'→aq w [] w' (L' ++ [.row aM 1 B (aL l)]):=fun K=>G.back K
 have ho:off [b] B:=hS.mono (fun c hc=>by rw [List.mem_singleton.1 hc]; exact List.mem_flatMap.2 ⟨_,List.mem_cons_self,by simp [aB.av]⟩)
 have V3:Bytes w4 B l:=G.bytes 3 rfl
 generalize hSS:(([.av b [B.v,.bool false] gh,.av p (cY iK ⟨none,0,0⟩) cV,.av p1 [.pointer (some ⟨b,0,none⟩)] rR]:List aB).flatMap (·.fp))=S at *
 have hB:∀ {w'},Mod S w4 w'→Bytes w' B l:=fun m=>V3.mod m hS
 have h0:RT w4 w4 S b B l (some l) [.av p (cY iK ⟨none,0,0⟩) cV,.av p1 [.pointer (some ⟨b,0,none⟩)] rR]:=⟨B,false,D,rfl,jh.self B l⟩
 obtain ⟨v0,s1,e1⟩:∃ v s',aY (some l)=(v,s'):=⟨_,_,rfl⟩
 obtain ⟨v1,s2,e2⟩:∃ v s',aY s1=(v,s'):=⟨_,_,rfl⟩
 obtain ⟨v2,s3,e3⟩:∃ v s',aY s2=(v,s'):=⟨_,_,rfl⟩
 obtain ⟨v3,s4,e4⟩:∃ v s',aY s3=(v,s'):=⟨_,_,rfl⟩
 obtain ⟨v4,s5,e5⟩:∃ v s',aY s4=(v,s'):=⟨_,_,rfl⟩
 obtain ⟨v5,s6,e6⟩:∃ v s',aY s5=(v,s'):=⟨_,_,rfl⟩
 obtain ⟨v6,s7,e7⟩:∃ v s',aY s6=(v,s'):=⟨_,_,rfl⟩
 obtain ⟨v7,s8,e8⟩:∃ v s',aY s7=(v,s'):=⟨_,_,rfl⟩
 obtain ⟨v8,s9,e9⟩:∃ v s',aY s8=(v,s'):=⟨_,_,rfl⟩
 obtain ⟨v9,qM,uP⟩:∃ v s',aY s9=(v,s'):=⟨_,_,rfl⟩
 obtain ⟨v10,pX,uQ⟩:∃ v s',aY qM=(v,s'):=⟨_,_,rfl⟩
 obtain ⟨nm,sa,ea⟩:∃ v s',cF 300 pX=(v,s'):=⟨_,_,rfl⟩
 obtain ⟨lb,sb,eb⟩:∃ v s',cF 2000 sa=(v,s'):=⟨_,_,rfl⟩
 obtain ⟨lt,sc,ec⟩:∃ v s',cF 100 sb=(v,s'):=⟨_,_,rfl⟩
 obtain ⟨ld,wm,ed⟩:∃ v s',cF 100 sc=(v,s'):=⟨_,_,rfl⟩
 refine h0.uS hB ho 1 rfl e1 fun _ h=>h.uS hB ho 1 rfl e2 fun _ h=>h.uS hB ho 1 rfl e3 fun _ h=>h.uS hB ho 1 rfl e4 fun _ h=>?_
 refine h.uS hB ho 1 rfl e5 fun _ h=>h.uS hB ho 1 rfl e6 fun _ h=>h.uS hB ho 1 rfl e7 fun _ h=>h.uS hB ho 1 rfl e8 fun _ h=>?_
 refine h.uS hB ho 1 rfl e9 fun _ h=>h.uS hB ho 1 rfl uP fun _ h=>h.uS hB ho 1 rfl uQ fun _ h=>?_
 refine h.nw fun p2 mN h _=>?_
 obtain ⟨GI,anR,H,aoM⟩:=h
 refine H.rX 3 rfl rfl fun pU H=>?_
 have h:RT w4 pU.drew S b B l pX [.av p (cY iK ⟨none,0,0⟩) cV,.av p1 [.pointer (some ⟨b,0,none⟩)] rR,.av p2 (Cy v0 v1 v2 v3 v4 v5 v6 v7 v8 v9 v10 eO ⟨none,0,0⟩ ⟨none,0,0⟩) dx]:=⟨GI,anR,H.drew,aoM⟩
 have H:=H.drew
 refine H.bO 2 rfl rfl rfl (H.bO 2 rfl rfl rfl (H.bO 2 rfl rfl rfl ?_))
 refine h.text hB ho ea fun wh h k=>⟨k 1 rfl _ _,k 1 rfl _ _,h.bytes hB ho eb fun y2 xN h t2 k=>⟨k 1 rfl _ _,h.bytes hB ho ec fun y3 Lr h t3 _=>?_⟩⟩
 obtain ⟨Lh,abK,H,aoN⟩:=h
 refine H.st 3 rfl (an p2 11) (show 11<14 by omega) rfl fun Ls H=>H.st 3 rfl (an p2 12) (show 12<14 by omega) rfl fun LB H=>H.st 3 rfl (an p2 13) (show 13<14 by omega) rfl fun xR H=>?_
 obtain ⟨q,hq⟩:∃ q:bL,q=⟨v0,v1,v2,v3,v4,v5,v6,v7,v8,v9,v10,strOf nm,y2,y3⟩:=⟨_,rfl⟩
 have qD:Bn l q lb lt ld wm:=by
  rw [hq]
  exact ⟨s1,s2,s3,s4,s5,s6,s7,s8,s9,qM,pX,sa,sb,sc,nm,e1,e2,e3,e4,e5,e6,e7,e8,e9,uP,uQ,ea,rfl,eb,ec,ed⟩
 have ty:jh B l q.dG lb:=by rw [hq]; exact t2
 have tt:jh B l q.tok lt:=by rw [hq]; exact t3
 have H:aq w4 S xR.drew [.av b [Lh.v,.bool abK] gh,.av p (cY iK ⟨none,0,0⟩) cV,.av p1 [.pointer (some ⟨b,0,none⟩)] rR,.av p2 q.cells dx]:=by
  rw [hq]; exact H.drew
 have h:RT w4 xR.drew S b B l sc [.av p (cY iK ⟨none,0,0⟩) cV,.av p1 [.pointer (some ⟨b,0,none⟩)] rR,.av p2 q.cells dx]:=⟨Lh,abK,H,aoN⟩
 refine gm fun go bX=>?_
 have last:∀ p3 xS y4,RT w4 xS S b B l wm [.av p (cY iK ⟨none,0,0⟩) cV,.av p1 [.pointer (some ⟨b,0,none⟩)] rR,.av p2 q.cells dx,.av p3 (cY iK ⟨none,0,0⟩) cV]→jh B l y4 ld→iN ⟨p3,0,none⟩ q.n0 q.n1 q.n2 q.n3 q.n4 q.n5 q.n6 q.n7 q.n8 q.n9 q.l7 q.name q.dG q.tok y4 xS (fun BL=>go ⟨p3,0,none⟩ BL):=by
  rintro p3 xS y4 ⟨x30,anS,H,aoO⟩ t4
  refine H.iN 4 rfl rfl fun BL H=>bX _ BL (H.bO 2 rfl rfl rfl (aC (WI b B l x30 anS wm _ (H.av 0 rfl) aoO (hB H.mod)) ?_))
  rintro er BM ⟨he,m32⟩
  have H:=H.frame m32
  refine he.1.isNil ?_
  cases qC:fP wm with
  | false=>
   refine ite_true rfl (aC (EA 4 (by omega) BM) ?_)
   rintro e2 V7 ⟨l9,m33⟩
   refine (H.jY m33 l9).iN 1 rfl rfl fun w34 H=>H.jH 1 rfl ?_
   have K:=back (H.only 5 rfl)
   refine ⟨q,y4,lb,lt,ld,wm,B,e2,qD,by rw [qC]; rfl,ty,tt,t4,?_⟩
   rw [qC]
   exact K.two 1 0 rfl rfl (by decide)
  | true=>
   refine ite_false rfl (H.jH 4 rfl (H.iN 1 rfl rfl fun w34 H=>H.jH 1 rfl ?_))
   have K:=back (H.take 0)
   refine ⟨q,y4,lb,lt,ld,wm,B,.nilIface,qD,by rw [qC]; rfl,ty,tt,t4,?_⟩
   rw [qC]
   exact K.jY (Mod.refl _ _) (q8 _ _)
 refine H.dD 3 rfl (H.bO 2 rfl rfl rfl ?_)
 refine And.intro ?_ ?_
 ·exact h.bytes hB ho ed fun y4 BN h t4 k=>⟨k 2 rfl _ _,h.nw fun p3 xS h k=>⟨k 1 rfl _ _,k 2 rfl _ _,last p3 xS y4 h t4⟩⟩
 ·exact h.nw fun p3 BN h k=>⟨k 1 rfl _ _,k 2 rfl _ _,h.bytes hB ho ed fun y4 xS h t4 k=>⟨k 2 rfl _ _,last p3 xS y4 h t4⟩⟩
end Go.Proofs.YtpchgbolambkcaaGreatDoor
end
section
set_option linter.unusedVariables false
set_option linter.unusedSimpArgs false
namespace Go.Proofs.YtpchgbolambkcaaGreatDoor
open Go Go.Ev
set_option maxRecDepth 20000
set_option linter.unusedVariables false
theorem agh (s:cL) (t:aJ) (q:bL) (sd:ah) (Hq:q.n2≠14) (w:World) {T:aJ} {C:Int} {R:rz}
  (G8:∀ {w1:World} {L:List aB},aq w [] w1 L→Ok Pr EP [.agg ⟨t.cs s⟩,.agg ⟨q.cells⟩,.slice sd.a sd.n sd.c] w1 fun v w'=>zP w1 w' v T C R) :
  Ok Pr Er [.agg ⟨t.cs s⟩,.agg ⟨cY q sd⟩] w fun v w'=>zP w w' v T C R:=by
 refine afz ?_
 unfold On
 rw [lV,wM]
 refine (aq.start w).nw fun p w1 H _=>H.nw fun p1 w2 H _=>H.nw fun p2 w3 H _=>H.nw fun p3 w4 H _=>?_
 have H:aq w [] w4 [.av p (t.cs s) aA,.av p1 (cY q sd) cV,.av p2 (bK.cs sZ) aA,.av p3 (gx 0 0 ⟨none,0,0⟩ ⟨none,0,0⟩) eH]:=H
 refine H.au 1 (i:=2) rfl (by rw [an,tN]) rfl (ite_true (by rw [decide_eq_false Hq]; rfl) (H.aG 0 rfl ?_))
 refine Ey (c0:=q.n0) (c1:=q.n1) (c2:=q.n2) (c3:=q.n3) (c4:=q.n4) (c5:=q.n5) (c6:=q.n6) (c7:=q.n7) (c8:=q.n8) (c9:=q.n9) (eZ:=q.l7) (fh:=q.name) (dS:=q.dG) (dU:=q.tok) (fun i v hv=>?_) ?_
 ·refine H.cell 1 (i:=i) rfl (by rw [an,an]) ?_
  have hi:=(List.getElem?_eq_some_iff.1 hv).1
  have:(cY q sd)[i]? = (q.cells ++ [sd.v])[i]?:=rfl
  rw [this,List.getElem?_append_left hi]
  exact hv
 refine H.ay 1 rfl (an p1 14) rfl (aC (G8 H) ?_)
 rintro _ w5 ⟨s',ys,zs,fp,fq,y,z,er,rfl,G⟩
 have K:=H.join G
 refine ⟨_,rfl,jT (zW ⟨rfl,K.aV 2 rfl rfl fun w6 K=>K.ew 3 rfl rfl fun w7 K=>K.aG 2 rfl (K.eX 3 rfl ?_)⟩)⟩
 refine ⟨s',ys,zs,fp,fq,y,z,er,rfl,?_⟩
 exact K.eu (L':=kA s' T ys zs fp fq ++ [.cut y R.dG,.cut z R.ex,aB.err er C]) [4,5,6,7,8,9,10,11,12,13] (by decide) rfl
end Go.Proofs.YtpchgbolambkcaaGreatDoor
end
section
set_option linter.unusedVariables false
set_option linter.unusedSimpArgs false
namespace Go.Proofs.YtpchgbolambkcaaGreatDoor
open Go Go.Ev
set_option maxRecDepth 20000
set_option linter.unusedVariables false
def jy (n:Int) (name:ByteArray):bL:=⟨1,n,1,1,0,0,0,0,0,0,0,name,⟨none,0,0⟩,⟨none,0,0⟩⟩
theorem IP (n:Int) (name:ByteArray) (w:World):Ok Pr B2 [.int .i64 n,.string name] w fun v w'=>v=.agg ⟨cY (jy n name) ⟨none,0,0⟩⟩∧Mod [] w w':=by
 refine agd ?_
 unfold Pb
 rw [CT]
 exact (aq.start w).nw fun p w1 H _=>H.iN 0 rfl rfl fun w2 H=>H.jH 0 rfl ⟨rfl,H.mod⟩
end Go.Proofs.YtpchgbolambkcaaGreatDoor
end
section
set_option linter.unusedVariables false
set_option linter.unusedSimpArgs false
namespace Go.Proofs.YtpchgbolambkcaaGreatDoor
open Go Go.Ev
set_option maxRecDepth 20000
set_option linter.unusedVariables false
def D6 (q:bL) (t:aJ):Int:=if wR t.bq (t.aE.getD (q.n0 - 1).toNat eJ).ten q.n3=true then 0 else 10
def rP (q:bL) (t:aJ):Int:=xm (aW 1 (t.bq.length:Int) q.n3) (D6 q t) q t
def jS (q:bL) (t:aJ):Int:=zQ (rP q t) (kV t.bq q.n3 q.name)
def jz (q:bL) (t:aJ):aJ:=if jS q t=0 then rA q (mW q t) else bK
def zS (q:bL) (t:aJ):rz:=if jS q t=0 then A9 q (mW q t) else ⟨0,[],[]⟩
theorem akO {w0 w:World} {b:Nat} {q:bL} {t:aJ} {s:cL} {ow:Int} {sd:ah} {ys zs:List ah} {fp fq:List Nat} (h1:q.n2=1) (H:aq w0 [] w (lY b q t s ow sd ys zs fp fq)) :
  Ok Pr IA [.pointer (some ⟨b,0,none⟩)] w fun v w'=>v=.bool (aW 1 (t.bq.length:Int) q.n3)∧aq w0 [] w' (lY b q t s q.n3 sd ys zs fp fq):=by
 refine aeU ?_
 unfold Nw
 have wg:=(SV H).ten.len
 refine iB fun go bX=>nc (H.au 0 rfl (nx b 0 2) rfl (gm fun go2 ku=>?_))
 show az (decide (q.n2=1)) (go2 (decide (q.n2=1)) w) _
 rw [decide_eq_true h1]
 refine ite_true rfl (ku _ _ (ite_true rfl (nc (H.au 0 rfl (nx b 0 3) rfl (nc (H.st 0 rfl (an b 20) (by show 20<22; omega) rfl fun w5 E=>?_))))))
 have E:aq w0 [] w5 (lY b q t s q.n3 sd ys zs fp fq):=E
 have E2:=E.drew
 refine nc (E2.au 0 rfl (nx b 0 3) rfl (nc (E2.ay 0 rfl (nx b 14 2) rfl (aC (W7 _ _ _) ?_))))
 rintro _ w7 ⟨rfl,BD⟩
 subst BD
 exact bh ⟨by rw [wg],E2⟩
theorem aiO {w0 w:World} {b:Nat} {q:bL} {t:aJ} {s:cL} {ow:Int} {sd:ah} {ys zs:List ah} {fp fq:List Nat} (h1:q.n2=1) (H:aq w0 [] w (lY b q t s ow sd ys zs fp fq)) (hs:t.small) (hw:aW 1 (t.aE.length:Int) q.n0=true) :
  Ok Pr It [.pointer (some ⟨b,0,none⟩)] w fun v w'=>gy w w' v (if wR t.bq (t.aE.getD (q.n0 - 1).toNat eJ).ten ow=true then 0 else 10)∧Mod [] w w':=by
 refine aef ?_
 unfold MG
 rw [abF]
 have rK:=hs.ten
 have sS:=hs.aE
 obtain ⟨i,ei,en,hi⟩:=Ap hw
 rw [en]
 have D:=H.drew
 obtain ⟨zM,cU,x,fK,hc⟩:=aai (M:=[]) D hi
 refine nc (D.ay 0 rfl (nx b 14 3) rfl (nc (D.au 0 rfl (nx b 0 0) rfl ⟨by unfold aH; omega,?_⟩)))
 show aZ s.aE.a (q.n0 - 1) s.aE.n _
 rw [ei]
 generalize t.aE.getD i eJ=pr at *
 have D2:=D.drew
 have V8:bN _ s t:=SV D2
 refine ⟨cU,_,hc 1 _ rfl,nc (D2.ay 0 rfl (nx b 14 2) rfl (nc (D2.au 0 rfl (an b 20) rfl (aC (afX s.ten t.bq (by omega) pr.ten ow _ V8.ten) ?_))))⟩
 rintro _ w1 ⟨rfl,m1⟩
 have m:Mod [] w w1:=(Mod.drew [] w).trans ((Mod.drew [] _).trans m1)
 have H1:=H.frame m
 refine bh ?_
 cases ha:wR t.bq pr.ten ow with
 | true=>exact ite_true rfl ⟨q8 _ _,m⟩
 | false=>
 refine ite_false rfl (nc (H1.au 0 rfl (nx b 0 2) rfl (gm fun iH fH=>?_)))
 have G:iH false w1:=by
  refine fH _ _ (ite_false rfl (aC (W6 10 (by decide) w1) ?_))
  rintro e w2 ⟨h,m2⟩
  exact ⟨h.from m.size,m.trans m2⟩
 show az (decide (q.n2=9)) _ (az (decide (q.n2=10)) _ (iH (decide (q.n2=11)) w1))
 rw [decide_eq_false (show ¬ q.n2=9 by omega),decide_eq_false (show ¬ q.n2=10 by omega),decide_eq_false (show ¬ q.n2=11 by omega)]
 exact ite_false rfl (ite_false rfl G)
theorem am3 {w0 w:World} {S:List Nat} {b:Nat} {q:bL} {t:aJ} {s:cL} {ow:Int} {sd:ah} {ys zs:List ah} {fp fq:List Nat} (h1:q.n2=1) (H:aq w0 S w (lY b q t s ow sd ys zs fp fq)) (hs:t.small) :
  Ok Pr IJ [.pointer (some ⟨b,0,none⟩)] w fun v w'=>DU w0 S w' v b (rA q t) (A9 q t) (kV t.bq q.n3 q.name):=by
 refine afA ?_
 unfold Oo
 rw [wM]
 refine H.nw fun p w1 H _=>?_
 have H:aq w0 S w1 (lY b q t s ow sd ys zs fp fq ++ [.av p (gx 0 0 ⟨none,0,0⟩ ⟨none,0,0⟩) eH]):=H
 refine iB fun go bX=>nc (H.au 0 rfl (nx b 0 2) rfl ?_)
 show az (decide (q.n2=1)) _ _
 refine ite_true (decide_eq_true h1) (aC (aeV H.sub hs) ?_)
 rintro _ w3 ⟨rc,ri,y,z,er,rfl,h1,h2⟩
 refine ⟨_,rfl,zW ⟨rfl,?_⟩⟩
 by_cases hc:kV t.bq q.n3 q.name=0
 ·obtain ⟨rfl,rfl,rfl,q',s',BI,wm,DW,DX,Hx,Hy,K⟩:=h2 hc
  have K:=H.back K
  refine K.ew 10 rfl rfl fun w4 K=>K.eX 10 rfl ?_
  exact ⟨0,(A9 q t).id,y,z,.nilIface,rfl,fun h=>absurd hc h,fun _=>⟨rfl,rfl,rfl,q',s',BI,wm,DW,DX,Hx,Hy,K.take 10⟩⟩
 ·have K:=H.back (h1 hc)
  refine K.ew 1 rfl rfl fun w4 K=>K.eX 1 rfl ?_
  exact DU.no 0 hc K rfl rfl
theorem ais (s:cL) (t:aJ) (q:bL) (sd:ah) (h1:q.n2=1) (hs:t.small) (w:World) (hg:Laid w) (hx:bN w s t) :
  Ok Pr EP [.agg ⟨t.cs s⟩,.agg ⟨q.cells⟩,.slice sd.a sd.n sd.c] w fun v w'=>zP w w' v (jz q t) (jS q t) (zS q t):=by
 refine aio s t q sd w hg (B:=rP q t) (qk:=q) (ow:=q.n3) (t1:=mW q t) (fun {w1} m=>?_) fun h0 _ _ _ _ _ _ _ _ _ m K=>am3 h1 K (Rn hs ?_)
 ·refine agH s t q sd hs w1 (hx.aI m) (fun _ hw=>?_) fun _ hw=>?_
  ·intro w2 b s' ys zs fp fq K
   refine (akO h1 K).mono fun v w' h=>?_
   obtain ⟨rfl,K⟩:=h
   exact ⟨rfl,q,q.n3,fun _=>⟨rfl,rfl⟩,K⟩
  ·intro w2 b s' ys zs fp fq K
   have h:=aiO h1 K (Rn hs hw) (akA hw)
   obtain ⟨i,_,en,hi⟩:=Ap hw
   have e:((mW q t).aE.getD (q.n0 - 1).toNat eJ).ten=(t.aE.getD (q.n0 - 1).toNat eJ).ten:=by
    show ((t.aE.set _ _).getD _ eJ).ten=_
    rw [List.getD_eq_getElem?_getD,List.getElem?_set,if_pos rfl,if_pos (by omega)]; rfl
   rw [e] at h
   exact h
 ·unfold rP xm at h0
  split at h0
  ·split at h0
   ·assumption
   ·omega
  ·omega
theorem agi (s:cL) (t:aJ) (q:bL) (sd:ah) (h1:q.n2=1) (hs:t.small) (w:World) (hg:Laid w) (hx:bN w s t) :
  Ok Pr Er [.agg ⟨t.cs s⟩,.agg ⟨cY q sd⟩] w fun v w'=>zP w w' v (jz q t) (jS q t) (zS q t):=
 agh s t q sd (by omega) w fun H=>ais s t q sd h1 hs _ (hg.gS H (by simp)) (hx.aI H.mod)
end Go.Proofs.YtpchgbolambkcaaGreatDoor
end
section
set_option linter.unusedVariables false
set_option linter.unusedSimpArgs false
namespace Go.Proofs.YtpchgbolambkcaaGreatDoor
open Go Go.Ev
set_option maxRecDepth 20000
set_option linter.unusedVariables false
theorem JK {n:Int} (h:0≤n∧n≤65535):numOf (gZ n)=n:=by
 obtain ⟨m,rfl⟩:∃ m:Nat,n=(m:Int):=⟨n.toNat,by omega⟩
 have hm:m≤65535:=by omega
 unfold numOf gZ
 have e:(wd [BitVec.ofInt 8 ((m:Int) / 256),BitVec.ofInt 8 (m:Int)]).toNat=m:=by
  show ((((0 <<< 8 ||| (BitVec.ofInt 8 ((m:Int) / 256)).setWidth 64:bw)) <<< 8 ||| (BitVec.ofInt 8 (m:Int)).setWidth 64:bw)).toNat=m
  have e:((0 <<< 8 ||| (BitVec.ofInt 8 ((m:Int) / 256)).setWidth 64:bw))=(BitVec.ofInt 8 ((m:Int) / 256)).setWidth 64:=by simp
  have e1:(BitVec.ofInt 8 ((m:Int) / 256)).toNat=m / 256:=by
   rw [BitVec.toNat_ofInt]
   show (((m:Int) / 256) % 256).toNat=m / 256
   omega
  have e2:(BitVec.ofInt 8 (m:Int)).toNat=m % 256:=by
   rw [BitVec.toNat_ofInt]
   show ((m:Int) % 256).toNat=m % 256
   omega
  rw [e,BitVec.toNat_or,BitVec.toNat_shiftLeft,BitVec.toNat_setWidth,BitVec.toNat_setWidth,e1,e2,Nat.shiftLeft_eq]
  rw [Nat.mod_eq_of_lt (show m / 256<2 ^ 64 by omega),Nat.mod_eq_of_lt (show m % 256<2 ^ 64 by omega),Nat.mod_eq_of_lt (show m / 256 * 2 ^ 8<2 ^ 64 by omega)]
  rw [← Nat.shiftLeft_eq,← Nat.shiftLeft_add_eq_or_of_lt (show m % 256<2 ^ 8 by omega),Nat.shiftLeft_eq]
  omega
 rw [e]
 exact wrap_i64 (by omega) (by omega)
theorem yA (n:Int):(gZ n).length=2:=rfl
theorem akP (gen number part parts:Int) (l:List B8):jO gen number part parts l=be gen ++ (be number ++ (gZ part ++ (gZ parts ++ (gZ (l.length:Int) ++ (gZ 0 ++ (l ++ List.replicate (512 - (24+l.length)) 0)))))):=by
 unfold jO; simp [cG]
theorem CJ {b X Y:List B8} {n k:Nat} (h:b.drop n=X ++ Y) (hx:X.length=k):b.drop (n+k)=Y:=by
 rw [← List.drop_drop,h]; exact List.drop_left' hx
theorem ama {gen number part parts:Int} {l:List B8} (hl:l.length≤488) (hg:-9223372036854775808≤gen∧gen≤9223372036854775807) (hn:-9223372036854775808≤number∧number≤9223372036854775807) (hp:0≤part∧part≤65535) (hq:0≤parts∧parts≤65535) :
  dV (jO gen number part parts l)=⟨gen,number,part,parts,(l.length:Int)⟩∧jF (jO gen number part parts l) 3=0∧(jO gen number part parts l).drop 24=l ++ List.replicate (512 - (24+l.length)) 0:=by
 have e:=akP gen number part parts l
 generalize jO gen number part parts l=b at *
 have d0:b.drop 0=be gen ++ (be number ++ (gZ part ++ (gZ parts ++ (gZ (l.length:Int) ++ (gZ 0 ++ (l ++ List.replicate (512 - (24+l.length)) 0)))))):=e
 have d8:=CJ d0 (pE gen)
 have d16:=CJ d8 (pE number)
 have d18:=CJ d16 (yA part)
 have d20:=CJ d18 (yA parts)
 have d22:=CJ d20 (yA _)
 have d24:=CJ d22 (yA _)
 refine ⟨?_,?_,d24⟩
 ·have t0:numOf (b.take 8)=gen:=by rw [e,List.take_left' (pE gen)]; exact JU hg
  have t8:numOf ((b.drop 8).take 8)=number:=by rw [show b.drop 8=_ from d8,List.take_left' (pE number)]; exact JU hn
  have t16:jF b 0=part:=by unfold jF; rw [show b.drop (16+2 * 0)=_ from d16,List.take_left' (yA _)]; exact JK hp
  have t18:jF b 1=parts:=by unfold jF; rw [show b.drop (16+2 * 1)=_ from d18,List.take_left' (yA _)]; exact JK hq
  have t20:jF b 2=(l.length:Int):=by unfold jF; rw [show b.drop (16+2 * 2)=_ from d20,List.take_left' (yA _)]; exact JK (by omega)
  unfold dV
  rw [t0,t8,t16,t18,t20]
 ·unfold jF; rw [show b.drop (16+2 * 3)=_ from d22,List.take_left' (yA _)]; exact JK (by omega)
end Go.Proofs.YtpchgbolambkcaaGreatDoor
end
section
set_option linter.unusedVariables false
set_option linter.unusedSimpArgs false
namespace Go.Proofs.YtpchgbolambkcaaGreatDoor
open Go Go.Ev
set_option maxRecDepth 20000
set_option linter.unusedVariables false
theorem amb {n k:Nat} (hn:n≤1048576) (hk:k<bM n):bM n≤2149∧(k+1=bM n∨(k+1<bM n∧488 * (k+1)≤n))∧(k+1=bM n→n≤488 * (k+1)∧(488 * k<n∨(n=0∧k=0∧bM n=1))):=by
 unfold bM at *
 rw [if_neg (by omega)] at *
 refine ⟨by omega,by omega,by omega⟩
theorem Fo {gen number:Int} {b:List B8} {k:Nat} (hg:1≤gen∧gen≤9223372036854775807) (hm:1≤number∧number≤9223372036854775807) (hb:b.length≤1048576) (hk:k<bM b.length) :
  jZ (jO gen number (k:Int) (bM b.length:Int) (iy b k)) gen number (k:Int) (bM b.length:Int)=true∧lA (jO gen number (k:Int) (bM b.length:Int) (iy b k))=iy b k∧dV (jO gen number (k:Int) (bM b.length:Int) (iy b k))=⟨gen,number,(k:Int),(bM b.length:Int),((iy b k).length:Int)⟩∧mo (jO gen number (k:Int) (bM b.length:Int) (iy b k))=true:=by
 obtain ⟨q1,q2,q3⟩:=amb hb hk
 have hl:=Fh b k
 obtain ⟨e1,e2,e3⟩:=ama (gen:=gen) (number:=number) (part:=(k:Int)) (parts:=(bM b.length:Int)) hl (by omega) (by omega) (by omega) (by omega)
 have hlen:(iy b k).length=min 488 (b.length - 488 * k):=by unfold iy; rw [List.length_take,List.length_drop]
 generalize hB:jO gen number (k:Int) (bM b.length:Int) (iy b k)=B at *
 have fF:mo B=true:=by
  unfold mo
  rw [e1,e2]
  unfold Hw
  simp only [Bool.and_eq_true,Bool.or_eq_true,decide_eq_true_eq,and_true]
  refine ⟨⟨⟨hg.1,hm.1⟩,by omega⟩,?_⟩
  rcases q2 with h | h
  ·have:=q3 h
   by_cases h8:(iy b k).length=488
   ·left; omega
   ·right
    refine ⟨⟨by omega,by omega⟩,?_⟩
    rcases this.2 with h | h
    ·left; omega
    ·right; omega
  ·left; omega
 refine ⟨?_,?_,e1,fF⟩
 ·unfold jZ
  rw [fF,e1]
  simp only [decide_true,Bool.true_and,Bool.and_true,Bool.not_eq_true']
  rw [show (24+((iy b k).length:Int).toNat)=24+(iy b k).length by omega,← List.drop_drop,e3,List.drop_left' rfl]
  rw [List.any_eq_false]
  intro x hx
  rw [List.eq_of_mem_replicate hx]
  decide
 ·unfold lA
  rw [e1,e3]
  show List.take ((iy b k).length:Int).toNat _=_
  rw [Int.toNat_natCast,List.take_left' rfl]
section
variable {D:aU} {m:Nat}
theorem aa6 (hD:D.ok m) {i:Int} {l:List B8} (hi:0≤i∧i<(D.now.length:Int)) (hl:l.length=512) (j:Int) (hj:0≤j):aX (lT D i l) j=if j=i then l else aX D j:=by
 have hc:qJ D i l=0:=by unfold qJ gU; rw [if_pos hi,if_pos rfl,if_pos hl]
 unfold lT aX
 rw [if_pos hc]
 show (D.now.set i.toNat l).getD j.toNat []=_
 rw [List.getD_eq_getElem?_getD,List.getElem?_set]
 by_cases h:j=i
 ·subst h
  rw [if_pos rfl,if_pos rfl,if_pos (by omega)]; rfl
 ·rw [if_neg (by omega),if_neg h,List.getD_eq_getElem?_getD]
theorem Kg (D:aU) (a gen number:Int) (n:Nat) (b:List B8):∀ k,(rN D a gen number n b k).now.length=D.now.length
 | 0=>rfl
 | k+1=>by show (lT _ _ _).now.length=_; rw [aam,Kg D a gen number n b k]
theorem FC (hD:D.ok m) {a gen number:Int} {n:Nat} {b:List B8} (ha:0≤a):∀ (k:Nat),a+(k:Int)≤(D.now.length:Int)→∀ j:Int,0≤j→aX (rN D a gen number n b k) j=if a≤j∧j<a+(k:Int) then jO gen number (j - a) (n:Int) (iy b (j - a).toNat) else aX D j
 | 0,_,j,hj=>by rw [if_neg (by omega)]; rfl
 | k+1,hk,j,hj=>by
  have ih:=FC hD (gen:=gen) (number:=number) (n:=n) (b:=b) ha k (by omega) j hj
  show aX (lT (rN D a gen number n b k) (a+(k:Int)) (jO gen number (k:Int) (n:Int) (iy b k))) j=_
  rw [aa6 (Fy hD a gen number n b k) (by rw [Kg]; omega) (RY _ _ _ _ _ (Fh b k)) j hj]
  by_cases h:j=a+(k:Int)
  ·subst h
   rw [if_pos rfl,if_pos (by omega),show a+(k:Int) - a=(k:Int) by omega,Int.toNat_natCast]
  ·rw [if_neg h,ih]
   by_cases h2:a≤j∧j<a+(k:Int)
   ·rw [if_pos h2,if_pos (by omega)]
   ·rw [if_neg h2,if_neg (by omega)]
end
end Go.Proofs.YtpchgbolambkcaaGreatDoor
end
section
set_option linter.unusedVariables false
set_option linter.unusedSimpArgs false
namespace Go.Proofs.YtpchgbolambkcaaGreatDoor
open Go Go.Ev
set_option maxRecDepth 20000
set_option linter.unusedVariables false
theorem akQ (b:List B8) (k:Nat):b.take (488 * k) ++ iy b k=b.take (488 * (k+1)):=by
 unfold iy
 rw [Nat.mul_succ,List.take_add]
theorem Fp {n:Nat} (h:bM n≠0):n≤1048576∧1≤bM n∧bM n≤2149∧n≤488 * bM n:=by
 unfold bM at *
 split at h
 ·exact absurd rfl h
 ·rename_i h1
  rw [if_neg h1]
  omega
theorem CK {D:aU} {a e gen number:Int} {b:List B8} (h:iz D a e gen number b=0):(0≤a∧a≤e∧e≤(D.now.length:Int))∧1≤gen∧1≤number∧bM b.length≠0∧(bM b.length:Int)≤e - a:=by
 unfold iz at h
 split at h
 ·rename_i h0
  split at h
  ·omega
  ·rename_i h1
   split at h
   ·omega
   ·rename_i h2
    exact ⟨CA h0,by omega,by omega,fun h=>h2 (.inl h),by omega⟩
 ·omega
theorem AF (D:aU) (a e gen number:Int) (b:List B8):(fM D a e gen number b).now.length=D.now.length:=by
 unfold fM; split
 ·exact Kg _ _ _ _ _ _ _
 ·rfl
def lZ (D:aU) (a gen number:Int) (b:List B8):Prop:=∀ k:Nat,k<bM b.length→aX D (a+(k:Int))=jO gen number (k:Int) (bM b.length:Int) (iy b k)
theorem ZN {D:aU} {a e gen number:Int} {b:List B8} (hg:1≤gen∧gen≤9223372036854775807) (hm:1≤number∧number≤9223372036854775807) (hb:b.length≤1048576) (he:a+(bM b.length:Int)≤e) (h:lZ D a gen number b):∀ k,k≤bM b.length→kF D a e gen number (bM b.length:Int) k=some (b.take (488 * k))
 | 0,_=>by simp [kF]
 | k+1,hk=>by
  have ih:=ZN hg hm hb he h k (by omega)
  obtain ⟨f1,f2,f3,f4⟩:=Fo (gen:=gen) (number:=number) (b:=b) (k:=k) hg hm hb (by omega)
  show (match kF D a e gen number (bM b.length:Int) k with | none=>none | some o=>if a+(k:Int)<e∧jZ (aX D (a+(k:Int))) gen number (k:Int) (bM b.length:Int)=true then some (o ++ lA (aX D (a+(k:Int)))) else none)=_
  rw [ih,h k (by omega)]
  show (if _ then some (b.take (488 * k) ++ lA (jO gen number (k:Int) (bM b.length:Int) (iy b k))) else none)=_
  rw [if_pos ⟨by omega,f1⟩,f2,akQ]
theorem R4 {D:aU} {a e gen number:Int} {b:List B8} (hg:1≤gen∧gen≤9223372036854775807) (hm:1≤number∧number≤9223372036854775807) (hb:bM b.length≠0) (hp:0≤a∧a≤e∧e≤(D.now.length:Int)) (he:a+(bM b.length:Int)≤e) (h:lZ D a gen number b):fO D a e gen number=some b:=by
 obtain ⟨q1,q2,q3,q4⟩:=Fp hb
 have h0:=h 0 (by omega)
 rw [show a+((0:Nat):Int)=a by omega] at h0
 obtain ⟨f1,f2,f3,f4⟩:=Fo (gen:=gen) (number:=number) (b:=b) (k:=0) hg hm q1 (by omega)
 have hN:qL D a=(bM b.length:Int):=by unfold qL; rw [h0,f3]
 unfold fO fJ
 rw [if_pos hp,if_pos rfl,hN,show (max (bM b.length:Int) 1).toNat=bM b.length by omega,ZN hg hm q1 he h _ (Nat.le_refl _),List.take_of_length_le q4]
theorem ZO {D:aU} {a gen number:Int} {b:List B8} (hg:1≤gen∧gen≤9223372036854775807) (hm:1≤number∧number≤9223372036854775807) (hb:bM b.length≠0) (ha:0≤a∧a<(D.now.length:Int)) (h:lZ D a gen number b):fT D a=(gen,number,true):=by
 obtain ⟨q1,q2,q3,q4⟩:=Fp hb
 have h0:=h 0 (by omega)
 rw [show a+((0:Nat):Int)=a by omega] at h0
 obtain ⟨f1,f2,f3,f4⟩:=Fo (gen:=gen) (number:=number) (b:=b) (k:=0) hg hm q1 (by omega)
 unfold fT gU
 rw [if_pos ha,h0,f3,f4,if_pos ⟨rfl,rfl,rfl⟩]
section
variable {D:aU} {m:Nat}
theorem Kh (hD:D.ok m) {a e gen number:Int} {b:List B8} (h:iz D a e gen number b=0):lZ (fM D a e gen number b) a gen number b:=by
 obtain ⟨h1,h2,h3,h4,h5⟩:=CK h
 intro k hk
 unfold fM
 rw [if_pos h,FC hD h1.1 _ (by omega) _ (by omega),if_pos (by omega),show a+(k:Int) - a=(k:Int) by omega,Int.toNat_natCast]
theorem JV (hD:D.ok m) {a e gen number:Int} {b:List B8} (j:Int) (hj:0≤j) (ho:j<a∨e≤j):aX (fM D a e gen number b) j=aX D j:=by
 unfold fM
 split
 ·rename_i h
  obtain ⟨h1,h2,h3,h4,h5⟩:=CK h
  rw [FC hD h1.1 _ (by omega) _ hj,if_neg (by omega)]
 ·rfl
theorem anT (hD:D.ok m) {a e gen number:Int} {b:List B8} (h:iz D a e gen number b=0) (hg:gen≤9223372036854775807) (hm:number≤9223372036854775807):fO (fM D a e gen number b) a e gen number=some b∧fT (fM D a e gen number b) a=(gen,number,true):=by
 obtain ⟨h1,h2,h3,h4,h5⟩:=CK h
 have q:=Fp h4
 have hl:=Kh hD h
 have hn:=AF D a e gen number b
 exact ⟨R4 ⟨h2,hg⟩ ⟨h3,hm⟩ h4 (by rw [hn]; exact h1) (by omega) hl,ZO ⟨h2,hg⟩ ⟨h3,hm⟩ h4 (by rw [hn]; omega) hl⟩
end
end Go.Proofs.YtpchgbolambkcaaGreatDoor
end
section
set_option linter.unusedVariables false
set_option linter.unusedSimpArgs false
namespace Go.Proofs.YtpchgbolambkcaaGreatDoor
open Go Go.Ev
set_option maxRecDepth 20000
set_option linter.unusedVariables false
theorem qu (gen:Int):(bC gen=0∧cR gen=40)∨(bC gen=40∧cR gen=0):=by
 unfold bC cR
 omega
theorem Dr {D:aU} {gen count:Int} {t:aJ} (hM:oS t) (hg:1≤gen) (hc:0≤count∧count<9223372036854775807) (hl:80<D.now.length):oE D gen count t=0∧dB D gen count t=fM D (bC gen) (bC gen+40) gen (count+1) (fC t)∧iz D (bC gen) (bC gen+40) gen (count+1) (fC t)=0:=by
 have hQ:wo D gen count t=true:=by
  unfold wo
  rw [mQ.2 hM,decide_eq_true hg,decide_eq_true hc.1,decide_eq_true hl]
  rfl
 have hN:BK count=count+1:=by unfold BK; exact wrap_i64 (by omega) (by omega)
 have hlen:=hM.DC.len
 have hr:=qu gen
 have hC:iz D (bC gen) (bC gen+40) gen (count+1) (fC t)=0:=by
  unfold iz fJ bM
  rw [if_pos (show 0≤bC gen∧bC gen≤bC gen+40∧bC gen+40≤(D.now.length:Int) by omega),if_pos rfl,if_neg (by omega),if_neg (show ¬ 1048576<(fC t).length by omega),if_neg (by omega)]
 unfold oE dB
 rw [hQ,if_pos rfl,if_pos rfl,hN]
 exact ⟨hC,rfl,hC⟩
theorem C3 {D:aU} {m:Nat} (hD:D.ok m) {gen count:Int} {t:aJ} (hM:oS t) (j7:nD t) (hg:1≤gen∧gen≤9223372036854775807) (hc:0≤count∧count<9223372036854775807) (hl:80<D.now.length):cQ (dB D gen count t) (bC gen)=some (gen,count,t):=by
 obtain ⟨h1,h2,h3⟩:=Dr hM hg.1 hc hl
 obtain ⟨r1,r2⟩:=anT hD h3 hg.2 (by omega)
 obtain ⟨d1,d2⟩:=aa5 hM j7
 unfold cQ
 rw [h2,r2]
 show (if true=true∧bC gen=bC gen then (match fO (fM D (bC gen) (bC gen+40) gen (count+1) (fC t)) (bC gen) (bC gen+40) gen (count+1) with | some b=>if mw b=0 then some (gen,count+1 - 1,oZ b) else none | none=>none) else none)=_
 rw [if_pos ⟨rfl,rfl⟩,r1]
 show (if mw (fC t)=0 then some (gen,count+1 - 1,oZ (fC t)) else none)=_
 rw [if_pos d1,d2,show count+1 - 1=count by omega]
theorem Y7 {D D':aU} {a e gen number n:Int} (h:∀ j,a≤j→j<e→aX D' j=aX D j):∀ k,kF D' a e gen number n k=kF D a e gen number n k
 | 0=>rfl
 | k+1=>by
  show (match kF D' a e gen number n k with | none=>none | some o=>if a+(k:Int)<e∧jZ (aX D' (a+(k:Int))) gen number (k:Int) n=true then some (o ++ lA (aX D' (a+(k:Int)))) else none)=(match kF D a e gen number n k with | none=>none | some o=>if a+(k:Int)<e∧jZ (aX D (a+(k:Int))) gen number (k:Int) n=true then some (o ++ lA (aX D (a+(k:Int)))) else none)
  rw [Y7 h k]
  cases kF D a e gen number n k with
  | none=>rfl
  | some o=>
   by_cases cI:a+(k:Int)<e
   ·show (if a+(k:Int)<e∧jZ (aX D' (a+(k:Int))) gen number (k:Int) n=true then some (o ++ lA (aX D' (a+(k:Int)))) else none)=(if a+(k:Int)<e∧jZ (aX D (a+(k:Int))) gen number (k:Int) n=true then some (o ++ lA (aX D (a+(k:Int)))) else none)
    rw [h _ (by omega) cI]
   ·show (if a+(k:Int)<e∧_ then _ else none)=(if a+(k:Int)<e∧_ then _ else none)
    rw [if_neg (fun hx=>cI hx.1),if_neg (fun hx=>cI hx.1)]
theorem tC {D D':aU} {a:Int} (hl:D'.now.length=D.now.length) (h:∀ j,a≤j→j<a+40→aX D' j=aX D j):cQ D' a=cQ D a:=by
 have e0:=h a (by omega) (by omega)
 have hp:fT D' a=fT D a:=by unfold fT gU; rw [hl,e0]
 have ht:∀ g n,fO D' a (a+40) g n=fO D a (a+40) g n:=fun g n=>by
  unfold fO fJ qL
  rw [hl,e0,Y7 h]
 unfold cQ
 rw [hp]
 by_cases hc:(fT D a).2.2=true∧bC (fT D a).1=a
 ·rw [if_pos hc,if_pos hc,hc.2,ht]
 ·rw [if_neg hc,if_neg hc]
theorem SC {D:aU} {m:Nat} (hD:D.ok m) {gen count:Int} {t:aJ} (hM:oS t) (hg:1≤gen) (hc:0≤count∧count<9223372036854775807) (hl:80<D.now.length):cQ (dB D gen count t) (cR gen)=cQ D (cR gen):=by
 obtain ⟨h1,h2,h3⟩:=Dr hM hg hc hl
 have hr:=qu gen
 rw [h2]
 refine tC (AF _ _ _ _ _ _) fun j h4 h5=>JV hD j (by omega) (by omega)
end Go.Proofs.YtpchgbolambkcaaGreatDoor
end
section
set_option linter.unusedVariables false
set_option linter.unusedSimpArgs false
namespace Go.Proofs.YtpchgbolambkcaaGreatDoor
open Go Go.Ev
set_option maxRecDepth 20000
set_option linter.unusedVariables false
theorem rj:mo fI=false:=by
 have e:numOf (fI.take 8)=0:=by
  unfold fI
  rw [List.take_replicate]
  decide
 have e1:decide (1≤(dV fI).gen)=false:=by
  have:(dV fI).gen=numOf (fI.take 8):=rfl
  rw [this,e]; rfl
 unfold mo
 rw [e1]
 simp
theorem am4 {D:aU} {a:Int} (h:mo (aX D a)=false):fT D a=(0,0,false):=by
 unfold fT
 rw [if_neg (fun hx=>by rw [h] at hx; exact absurd hx.2.1 (by decide))]
theorem sv {D:aU} {a:Int} (h:mo (aX D a)=false):cQ D a=none:=by
 unfold cQ
 rw [am4 h,if_neg (fun hx=>by exact absurd hx.1 (by decide))]
theorem tL (n:Nat) (j:Int) (hj:0≤j∧j<(n:Int)):aX (cX n) j=fI:=by
 unfold aX cX
 show (List.replicate n fI).getD j.toNat []=fI
 rw [List.getD_eq_getElem?_getD,List.getElem?_replicate,if_pos (by omega)]; rfl
theorem CL (n:Nat):(cX n).now.length=n:=by unfold cX; simp
theorem akR (n:Nat) (h:40<n):dK (cX n)=none:=by
 have h0:cQ (cX n) 0=none:=sv (by rw [tL n 0 (by omega)]; exact rj)
 have h1:cQ (cX n) 40=none:=sv (by rw [tL n 40 (by omega)]; exact rj)
 unfold dK
 rw [h0,h1]
 rfl
section
variable {D:aU} {m:Nat}
theorem akS:fI.length=512:=List.length_replicate
theorem SD (D:aU) (a:Int):∀ k,(uM D a k).now.length=D.now.length
 | 0=>rfl
 | k+1=>by show (lT _ _ _).now.length=_; rw [aam,SD D a k]
theorem aa7 (hD:D.ok m) {a:Int} (ha:0≤a):∀ (k:Nat),a+(k:Int)≤(D.now.length:Int)→∀ j:Int,0≤j→aX (uM D a k) j=if a≤j∧j<a+(k:Int) then fI else aX D j
 | 0,_,j,hj=>by rw [if_neg (by omega)]; rfl
 | k+1,hk,j,hj=>by
  have ih:=aa7 hD ha k (by omega) j hj
  show aX (lT (uM D a k) (a+(k:Int)) fI) j=_
  rw [aa6 (KD hD a k) (by rw [SD]; omega) akS j hj]
  by_cases h:j=a+(k:Int)
  ·subst h
   rw [if_pos rfl,if_pos (by omega)]
  ·rw [if_neg h,ih]
   by_cases h2:a≤j∧j<a+(k:Int)
   ·rw [if_pos h2,if_pos (by omega)]
   ·rw [if_neg h2,if_neg (by omega)]
theorem aar (D:aU) (a e:Int):(sV D a e).now.length=D.now.length:=by
 unfold sV; split
 ·exact SD _ _ _
 ·rfl
theorem aa8 (hD:D.ok m) {a e:Int} (h:fJ D a e=0) (j:Int) (hj:0≤j):aX (sV D a e) j=if a≤j∧j<e then fI else aX D j:=by
 have hp:=CA h
 unfold sV
 rw [if_pos h,aa7 hD hp.1 _ (by omega) j hj,show a+(((e - a).toNat:Nat):Int)=e by omega]
theorem abL (hD:D.ok m) {gen a:Int} (hg:1≤gen) (ha:80≤a∧a≤(D.now.length:Int)):xQ D gen a=0∧(gw D gen a).now.length=D.now.length∧∀ j,0≤j→aX (gw D gen a) j=if (cR gen≤j∧j<cR gen+40)∨(a≤j∧j<(D.now.length:Int)) then fI else aX D j:=by
 have hr:=qu gen
 have hQ:wq D gen a=true:=by
  unfold wq
  rw [decide_eq_false (show ¬ gen<1 by omega),decide_eq_false (show ¬ a<80 by omega),decide_eq_false (show ¬ (D.now.length:Int)<a by omega)]
  rfl
 have hp:fJ D (cR gen) (cR gen+40)=0:=by unfold fJ; rw [if_pos (by omega)]
 have uN:(pY D gen).now.length=D.now.length:=aar _ _ _
 have hp2:fJ (pY D gen) a ((pY D gen).now.length:Int)=0:=by unfold fJ; rw [uN,if_pos (by omega)]
 unfold xQ gw
 rw [hQ,if_pos rfl,if_pos hp,if_pos rfl,if_pos hp]
 refine ⟨hp2,by rw [aar,uN],fun j hj=>?_⟩
 rw [aa8 (D:=pY D gen) (FA hD _ _) hp2 j hj,uN]
 show (if a≤j∧j<(D.now.length:Int) then fI else aX (sV D (cR gen) (cR gen+40)) j)=_
 rw [aa8 hD hp j hj]
 by_cases h1:a≤j∧j<(D.now.length:Int)
 ·rw [if_pos h1,if_pos (.inr h1)]
 ·rw [if_neg h1]
  by_cases h2:cR gen≤j∧j<cR gen+40
  ·rw [if_pos h2,if_pos (.inl h2)]
  ·rw [if_neg h2,if_neg (fun h=>h.elim h2 h1)]
end
end Go.Proofs.YtpchgbolambkcaaGreatDoor
end
section
set_option linter.unusedVariables false
set_option linter.unusedSimpArgs false
namespace Go.Proofs.YtpchgbolambkcaaGreatDoor
open Go Go.Ev
set_option maxRecDepth 20000
set_option linter.unusedVariables false
theorem aa9 (gen number i n:Int):jZ fI gen number i n=false:=by
 unfold jZ
 rw [rj]
 simp
theorem akT {D:aU} {gen count:Int} {t:aJ} (hM:oS t) (j7:nD t) (hg:1≤gen∧gen≤9223372036854775807) (hc:0≤count∧count<9223372036854775807) (hl:80<D.now.length) (h:lZ D (bC gen) gen (count+1) (fC t)):cQ D (bC gen)=some (gen,count,t):=by
 have hlen:=hM.DC.len
 have hr:=qu gen
 have hp:bM (fC t).length≠0∧bM (fC t).length≤40:=by unfold bM; rw [if_neg (by omega)]; omega
 have r1:=R4 (e:=bC gen+40) hg ⟨by omega,by omega⟩ hp.1 (by omega) (by omega) h
 have r2:=ZO hg ⟨by omega,by omega⟩ hp.1 (by omega) h
 obtain ⟨d1,d2⟩:=aa5 hM j7
 unfold cQ
 rw [r2]
 show (if true=true∧bC gen=bC gen then (match fO D (bC gen) (bC gen+40) gen (count+1) with | some b=>if mw b=0 then some (gen,count+1 - 1,oZ b) else none | none=>none) else none)=_
 rw [if_pos ⟨rfl,rfl⟩,r1]
 show (if mw (fC t)=0 then some (gen,count+1 - 1,oZ (fC t)) else none)=_
 rw [if_pos d1,d2,show count+1 - 1=count by omega]
theorem akU {D:aU} {gen count:Int} {t:aJ} (hM:oS t) (j7:nD t) (hg:1≤gen∧gen≤9223372036854775807) (hc:0≤count∧count<9223372036854775807) (hl:80<D.now.length)
  (h:∀ k:Nat,k<bM (fC t).length→aX D (bC gen+(k:Int))=jO gen (count+1) (k:Int) (bM (fC t).length:Int) (iy (fC t) k)∨aX D (bC gen+(k:Int))=fI) :
  (lZ D (bC gen) gen (count+1) (fC t)∧cQ D (bC gen)=some (gen,count,t))∨(¬ lZ D (bC gen) gen (count+1) (fC t)∧cQ D (bC gen)=none):=by
 by_cases hL:lZ D (bC gen) gen (count+1) (fC t)
 ·exact .inl ⟨hL,akT hM j7 hg hc hl hL⟩
 ·refine .inr ⟨hL,?_⟩
  have hlen:=hM.DC.len
  have hr:=qu gen
  have hp:1≤bM (fC t).length∧bM (fC t).length≤40:=by unfold bM; rw [if_neg (by omega)]; omega
  rcases h 0 (by omega) with h0 | h0
  ·obtain ⟨k,hk⟩:=Classical.not_forall.1 hL
   obtain ⟨hk,hz⟩:=Classical.not_imp.1 hk
   have hz:=(h k hk).resolve_left hz
   rw [show bC gen+((0:Nat):Int)=bC gen by omega] at h0
   obtain ⟨f1,f2,f3,f4⟩:=Fo (gen:=gen) (number:=count+1) (b:=fC t) (k:=0) hg ⟨by omega,by omega⟩ (by omega) (by omega)
   have Ho:fT D (bC gen)=(gen,count+1,true):=by
    unfold fT gU
    rw [if_pos (show 0≤bC gen∧bC gen<(D.now.length:Int) by omega),h0,f3,f4,if_pos ⟨rfl,rfl,rfl⟩]
   have hN:qL D (bC gen)=(bM (fC t).length:Int):=by unfold qL; rw [h0,f3]
   have mJ:kF D (bC gen) (bC gen+40) gen (count+1) (bM (fC t).length:Int) (k+1)=none:=by
    show (match kF D (bC gen) (bC gen+40) gen (count+1) (bM (fC t).length:Int) k with | none=>none | some o=>if bC gen+(k:Int)<bC gen+40∧jZ (aX D (bC gen+(k:Int))) gen (count+1) (k:Int) (bM (fC t).length:Int)=true then some (o ++ lA (aX D (bC gen+(k:Int)))) else none)=none
    cases kF D (bC gen) (bC gen+40) gen (count+1) (bM (fC t).length:Int) k with
    | none=>rfl
    | some o=>
     show (if bC gen+(k:Int)<bC gen+40∧jZ (aX D (bC gen+(k:Int))) gen (count+1) (k:Int) (bM (fC t).length:Int)=true then some (o ++ lA (aX D (bC gen+(k:Int)))) else none)=none
     rw [hz,aa9,if_neg (by simp)]
   have hT:fO D (bC gen) (bC gen+40) gen (count+1)=none:=by
    unfold fO
    rw [hN]
    split
    ·exact JT mJ _ (by omega)
    ·rfl
   unfold cQ
   rw [Ho]
   show (if true=true∧bC gen=bC gen then (match fO D (bC gen) (bC gen+40) gen (count+1) with | some b=>if mw b=0 then some (gen,count+1 - 1,oZ b) else none | none=>none) else none)=_
   rw [if_pos ⟨rfl,rfl⟩,hT]
  ·rw [show bC gen+((0:Nat):Int)=bC gen by omega] at h0
   exact sv (by rw [h0]; exact rj)
end Go.Proofs.YtpchgbolambkcaaGreatDoor
end
section
set_option linter.unusedVariables false
set_option linter.unusedSimpArgs false
namespace Go.Proofs.YtpchgbolambkcaaGreatDoor
open Go Go.Ev
set_option maxRecDepth 20000
set_option linter.unusedVariables false
structure kG where
 q:bL
 lb:List B8
 lt:List B8
 ld:List B8
def o8 (q:bL) (lb lt:List B8):bL:={ q with dG:=⟨none,lb.length,0⟩,tok:=⟨none,lt.length,0⟩ }
def zu (l:List B8):kG×Rs:=
 let a0:=aY (some l); let a1:=aY a0.2; let a2:=aY a1.2; let a3:=aY a2.2; let a4:=aY a3.2; let a5:=aY a4.2
 let a6:=aY a5.2; let a7:=aY a6.2; let a8:=aY a7.2; let a9:=aY a8.2; let LC:=aY a9.2
 let nm:=cF 300 LC.2; let b:=cF 2000 nm.2; let t:=cF 100 b.2; let d:=cF 100 t.2
 (⟨o8 ⟨a0.1,a1.1,a2.1,a3.1,a4.1,a5.1,a6.1,a7.1,a8.1,a9.1,LC.1,strOf nm.1,⟨none,0,0⟩,⟨none,0,0⟩⟩ b.1 t.1,b.1,t.1,d.1⟩,d.2)
def o9 (l:List B8):Option kG:=if fP (zu l).2=true then some (zu l).1 else none
theorem Bn.eq {l:List B8} {q:bL} {lb lt ld:List B8} {s:Rs} (h:Bn l q lb lt ld s):zu l=(⟨o8 q lb lt,lb,lt,ld⟩,s):=by
 obtain ⟨s1,s2,s3,s4,s5,s6,s7,s8,s9,qM,pX,sa,sb,sc,nm,e1,e2,e3,e4,e5,e6,e7,e8,e9,uP,uQ,ea,en,eb,et,ed⟩:=h
 unfold zu
 simp only [e1,e2,e3,e4,e5,e6,e7,e8,e9,uP,uQ,ea,eb,et,ed]
 rw [← en]; rfl
theorem ZP {q:bL} {lb lt ld:List B8} (hn:∀ n∈q.dz,cO n) (h0:q.name.size≤300) (h1:lb.length≤2000) (h2:lt.length≤100) (h3:ld.length≤100):zu (iA q lb lt ld)=(⟨o8 q lb lt,lb,lt,ld⟩,some []):=by
 apply Bn.eq
 unfold bL.dz at hn
 have g:∀ i (h:i<11),cO ([q.n0,q.n1,q.n2,q.n3,q.n4,q.n5,q.n6,q.n7,q.n8,q.n9,q.l7].get ⟨i,h⟩):=fun i h=>hn _ (List.get_mem _ _)
 have hb:(eF q.name).length=q.name.size:=qp _
 have eB:iA q lb lt ld=be q.n0 ++ (be q.n1 ++ (be q.n2 ++ (be q.n3 ++ (be q.n4 ++ (be q.n5 ++ (be q.n6 ++ (be q.n7 ++ (be q.n8 ++ (be q.n9 ++ (be q.l7 ++ (laid (eF q.name) ++ (laid lb ++ (laid lt ++ (laid ld ++ [])))))))))))))):=by
  unfold iA bL.dz cG iq
  simp
 rw [eB]
 exact ⟨_,_,_,_,_,_,_,_,_,_,_,_,_,_,_,fR (g 0 (by omega)) _,fR (g 1 (by omega)) _,fR (g 2 (by omega)) _,fR (g 3 (by omega)) _,fR (g 4 (by omega)) _,fR (g 5 (by omega)) _,
  fR (g 6 (by omega)) _,fR (g 7 (by omega)) _,fR (g 8 (by omega)) _,fR (g 9 (by omega)) _,fR (g 10 (by omega)) _,tA (by omega) (by omega) _,(YY _).symm,tA (by omega) (by omega) _,tA (by omega) (by omega) _,tA (by omega) (by omega) _⟩
theorem amc {q:bL} {lb lt ld:List B8} (hn:∀ n∈q.dz,cO n) (h0:q.name.size≤300) (h1:lb.length≤2000) (h2:lt.length≤100) (h3:ld.length≤100):o9 (iA q lb lt ld)=some ⟨o8 q lb lt,lb,lt,ld⟩:=by
 unfold o9
 rw [ZP hn h0 h1 h2 h3]; rfl
theorem ajn {q:bL} {lb lt:List B8} (h1:lb.length=q.dG.n) (h2:lt.length=q.tok.n):iP (o8 q lb lt)=iP q:=by
 unfold iP
 show (_ && (_ && (_ && (_ && (_ && (decide (lb.length≤2000) && decide (lt.length≤100)))))))=_
 rw [h1,h2]; rfl
theorem akV {D:aU} {a e gen number:Int} {o:List B8} (h:fO D a e gen number=some o):(o.length:Int)≤488 * (e - a)∧0≤a∧a<e∧e≤(D.now.length:Int):=by
 unfold fO at h
 split at h
 ·rename_i h0
  have h3:=CA h0
  have h1:=SB _ o h
  have h2:=h1.2 (by omega)
  omega
 ·cases h
theorem akW {n:Nat} (h:n≤1048576):1≤bM n:=by
 unfold bM
 rw [if_neg (by omega)]
 omega
def sW (st:aJ→kG→Option aJ) (D:aU) (gen:Int):Nat→Int→Int→aJ→Int×Int×aJ
 | 0,a,c,t=>(c,a,t)
 | k+1,a,c,t=>match fO D a (D.now.length:Int) gen (c+2) with
  | none=>(c,a,t)
  | some b=>match o9 b with
   | none=>(c,a,t)
   | some x=>match st t x with
    | none=>(c,a,t)
    | some u=>sW st D gen k (a+(bM b.length:Int)) (c+1) u
def vQ (acc:aJ→kG→Prop) (st:aJ→kG→Option aJ) (D:aU) (gen:Int):Nat→Int→Int→aJ→Prop
 | 0,_,_,_=>True
 | k+1,a,c,t=>match fO D a (D.now.length:Int) gen (c+2) with
  | none=>True
  | some b=>match o9 b with
   | none=>True
   | some x=>acc t x∧match st t x with
    | none=>True
    | some u=>vQ acc st D gen k (a+(bM b.length:Int)) (c+1) u
def pn (st:aJ→kG→Option aJ) (D:aU):Int×Int×Int×aJ:=
 match dK D with
 | none=>(0,0,0,bK)
 | some r=>(r.1,sW st D r.1 (D.now.length+1) 80 r.2.1 r.2.2)
def uT (acc:aJ→kG→Prop) (st:aJ→kG→Option aJ) (D:aU):Prop:=
 match dK D with
 | none=>True
 | some r=>r.2.1≤4611686018427387904∧vQ acc st D r.1 (D.now.length+1) 80 r.2.1 r.2.2
theorem ajo {D:aU} {r:Int×Int×aJ} (h:dK D=some r):r.2.2.small∧-1≤r.2.1∧r.2.1≤9223372036854775806:=by
 have one:∀ a,cQ D a=some r→r.2.2.small∧-1≤r.2.1∧r.2.1≤9223372036854775806:=by
  intro a h
  have hr:=aaq D a
  unfold cQ at h
  split at h
  ·split at h
   ·rename_i b _
    split at h
    ·cases h
     refine ⟨?_,by show -1≤(fT D a).2.1 - 1; omega,by show (fT D a).2.1 - 1≤_; omega⟩
     show (oZ b).small
     unfold oZ
     split
     ·exact YF b
     ·rename_i h1 h2; exact absurd h1 h2
    ·cases h
   ·cases h
  ·cases h
 unfold dK at h
 split at h
 ·exact one 0 h
 ·exact one 40 h
end Go.Proofs.YtpchgbolambkcaaGreatDoor
end
section
set_option linter.unusedVariables false
set_option linter.unusedSimpArgs false
namespace Go.Proofs.YtpchgbolambkcaaGreatDoor
open Go Go.Ev
set_option maxRecDepth 20000
set_option linter.unusedVariables false
set_option maxHeartbeats 1000000
theorem zP.box {w w':World} {v:Value} {T:aJ} {c:Int} {R:rz} (h:zP w w' v T c R):∃ s y z er fp,v=.tuple ⟨[.agg ⟨T.cs s⟩,.agg ⟨gx c R.id y z⟩,er]⟩∧aq w [] w' [aB.err er c,.box fp fun w=>bN w s T]:=by
 obtain ⟨s,ys,zs,fp,fq,y,z,er,rfl,H⟩:=h
 obtain ⟨f,K⟩:=H.pack 9 (r:=aB.err er c) (Q:=fun w=>bN w s T) rfl fun w' ok=>
  ⟨Own.bytes (ok 0 (.row aM 1 s.sec (aL T.fy)) (by decide) rfl),fE.of (Own.sl (ok 1 (.row cZ 3 s.ten (gM T.bq)) (by decide) rfl)),⟨ys,Own.sl (ok 3 (.row ey 5 s.aE (bP cv.cs T.aE ys)) (by decide) rfl),JR ((ok 4 (.box fp fun w=>br lE w ys T.aE) (by decide) rfl).2 w' fun _ _=>rfl)⟩,
   ⟨zs,Own.sl (ok 5 (.row bW 4 s.key (bP ct.cs T.keys zs)) (by decide) rfl),JS ((ok 6 (.box fq fun w=>br qI w zs T.keys) (by decide) rfl).2 w' fun _ _=>rfl)⟩,Own.sl (ok 2 (.row dJ 6 s.gr (gX T.cM)) (by decide) rfl)⟩
 exact ⟨s,y,z,er,f,rfl,K⟩
def abb (acc:aJ→kG→Prop) (st:aJ→kG→Option aJ):Prop:=
 ∀ {w:World} {s:cL} {t:aJ} {c:kG} {q:bL} {sd:ah},acc t c→c.q=o8 q c.lb c.lt→t.small→Laid w→bN w s t→Bytes w q.dG c.lb→Bytes w q.tok c.lt→Bytes w sd c.ld→c.ld.length≤1000000→
  Ok Pr Er [.agg ⟨t.cs s⟩,.agg ⟨cY q sd⟩] w fun v w'=>∃ T C R,zP w w' v T C R∧((C=0∧st t c=some T∧T.small)∨(C≠0∧st t c=none))
def aci (w w':World) (v:Value) (r:Int×Int×Int×aJ) (c:Int):Prop:=
 ∃ (T:cL) (er:Value) (fp:List Nat),v=.tuple ⟨[.int .i64 r.1,.int .i64 r.2.1,.int .i64 r.2.2.1,.agg ⟨r.2.2.2.cs T⟩,er]⟩∧aq w [] w' [.box fp fun w=>bN w T r.2.2.2,aB.err er c]
theorem Xo {acc:aJ→kG→Prop} {st:aJ→kG→Option aJ} (pO:abb acc st) {w:World} (hg:Laid w) {p:Nat} {s:gB} {D:aU} {m:Nat} (h:gY w p s D) (hD:D.ok m) (hA:uT acc st D) :
  Ok Pr xY [.pointer (some ⟨p,0,none⟩)] w fun v w'=>aci w w' v (pn st D) (gD D):=by
 refine agf ?_
 unfold Pd
 have hm:=hD.most
 have nV:=hD.now
 rw [lV,CT,wM]
 have hC:gD D=if (dK D).isSome=true then 0 else 9:=rfl
 refine (aq.start w).nw fun p1 w1 H _=>aC (I7 (h.aI H.mod) hD) ?_
 rintro _ w2 ⟨T0,er,HM,rfl,G⟩
 have H:=H.join G
 unfold uT at hA
 unfold pn
 refine ⟨_,rfl,_,rfl,_,rfl,jT ⟨rfl,H.nw fun p2 w3 H _=>H.aV 3 rfl rfl fun w4 H=>?_⟩⟩
 have he:eR w4 er (gD D):=H.err 2 rfl
 refine he.isNil ?_
 cases hL:dK D with
 | none=>
  rw [hL] at hC H
  have hC:gD D=9:=hC
  rw [hC] at H ⊢
  refine ite_true rfl (H.aV 0 rfl rfl fun w5 H=>H.aG 0 rfl ?_)
  exact ⟨sZ,er,HM,rfl,(H.eu (L':=[.box HM fun w=>bN w T0 bK,aB.err er 9]) [1,2] (by decide) rfl).eu (L':=[.box HM fun w=>bN w T0 bK,aB.err er 9]) [0,1] (by decide) rfl |> fun K=>K.E8 0 rfl fun w _=>aa4 w⟩
 | some r=>
 rw [hL] at hC H hA
 have hC:gD D=0:=hC
 rw [hC] at H ⊢
 obtain ⟨nu,V9,hr2⟩:=ajo hL
 obtain ⟨gen,C4,t0⟩:=r
 obtain ⟨hA1,Wa⟩:=hA
 have nu:t0.small:=nu
 have V9:-1≤C4:=V9
 have hA1:C4≤4611686018427387904:=hA1
 have Wa:vQ acc st D gen (D.now.length+1) 80 C4 t0:=Wa
 show az (!decide ((0:Int)=0)) _ _
 refine ite_false rfl (EZ fun go bX=>?_)
 obtain ⟨BO,acj⟩:∃ BO,sW st D gen (D.now.length+1) 80 C4 t0=BO:=⟨_,rfl⟩
 have fin:∀ {w5:World} {L:List aB} {c a:Int} {t:aJ} {T:cL} {fp:List Nat},aq w [] w5 ([.av p1 (bK.cs sZ) aA,.av p2 (t.cs T) aA,.box fp fun w=>bN w T t] ++ L)→(c,a,t)=BO→go c a w5:=by
  intro w5 L c a t T fp K e
  refine bX c a w5 ?_
  have K:=K.drew
  refine K.aG 1 rfl (K.aV 0 rfl rfl fun w6 K=>K.aG 0 rfl ?_)
  show aci w _ _ (gen,sW st D gen (D.now.length+1) 80 C4 t0) 0
  rw [acj,← e]
  exact ⟨T,.nilIface,fp,rfl,(K.only 2 rfl).jY (Mod.refl _ _) (q8 _ _)⟩
 refine tG (fun (c a:Int) w'=>∃ (k:Nat) (t:aJ) (T:cL) (fp:List Nat),aq w [] w' [.av p1 (bK.cs sZ) aA,.av p2 (t.cs T) aA,.box fp fun w=>bN w T t]∧t.small∧80≤a∧((D.now.length:Int) - a).toNat<k∧sW st D gen k a c t=BO∧vQ acc st D gen k a c t∧-1≤c∧c+(k:Int)≤4611686018427387904+257) (fun c a _=>((D.now.length:Int) - a).toNat)
  ⟨D.now.length+1,t0,T0,HM,H.eu (L':=[.av p1 (bK.cs sZ) aA,.av p2 (t0.cs T0) aA,.box HM fun w=>bN w T0 t0]) [0,3,1] (by decide) rfl,nu,by omega,by omega,acj,Wa,V9,by show C4+_≤_; omega⟩ ?_
 rintro again c a w5 ⟨k,t,T,fp,H,V4,ha,hk,hR,wu,sR,Lq⟩ aR
 cases k with
 | zero=>omega
 | succ k=>
 have hR:(match fO D a (D.now.length:Int) gen (c+2) with | none=>(c,a,t) | some b=>match o9 b with | none=>(c,a,t) | some x=>match st t x with | none=>(c,a,t) | some u=>sW st D gen k (a+(bM b.length:Int)) (c+1) u)=BO:=hR
 have wu:(match fO D a (D.now.length:Int) gen (c+2) with | none=>True | some b=>match o9 b with | none=>True | some x=>acc t x∧match st t x with | none=>True | some u=>vQ acc st D gen k (a+(bM b.length:Int)) (c+1) u):=wu
 refine aC (An (h.aI H.mod)) ?_
 rintro _ w6 ⟨rfl,Hs⟩
 subst Hs
 refine cr ⟨by unfold aH; omega,aC (XP (h.aI H.mod) hD a (D.now.length:Int) gen (c+2)) ?_⟩
 rintro _ w7 ⟨y,rfl,G⟩
 have H:=H.join G
 refine ⟨_,rfl,dP (cr (bh ⟨rfl,?_⟩))⟩
 cases hb:fO D a (D.now.length:Int) gen (c+2) with
 | none=>
  rw [hb] at hR
  exact ite_true rfl (fin (L:=[_]) H hR)
 | some b=>
 rw [hb] at hR wu H
 have nS:=akV hb
 have hR:(match o9 b with | none=>(c,a,t) | some x=>match st t x with | none=>(c,a,t) | some u=>sW st D gen k (a+(bM b.length:Int)) (c+1) u)=BO:=hR
 have wu:(match o9 b with | none=>True | some x=>acc t x∧match st t x with | none=>True | some u=>vQ acc st D gen k (a+(bM b.length:Int)) (c+1) u):=wu
 refine ite_false rfl (aC (Ox y b (by omega) w7 (H.bytes 3 rfl)) ?_)
 rintro _ w8 ⟨q,sd,lb,lt,ld,rs,B,DZ,qD,rfl,t1,t2,t3,G⟩
 have H:=H.join G
 have j5:o9 b=if fP rs=true then some ⟨o8 q lb lt,lb,lt,ld⟩ else none:=by unfold o9; rw [qD.eq]
 have hH:aq w [] w8 [.av p1 (bK.cs sZ) aA,.av p2 (t.cs T) aA,.box fp fun w=>bN w T t,.row aM 1 y (aL b),.row aM 1 B (aL b),aB.err DZ (if fP rs=true then 0 else 4)]:=H
 cases qC:fP rs with
 | false=>
  rw [qC] at j5 hH
  rw [j5] at hR
  refine ⟨_,rfl,wC ⟨rfl,hH.nw fun p3 w9 H _=>H.iN 6 rfl rfl fun dN H=>?_⟩⟩
  have l9:eR dN DZ 4:=H.err 5 rfl
  exact l9.isNil (ite_true rfl (fin (L:=[_,_,_,_]) H hR))
 | true=>
 rw [qC] at j5 hH
 rw [j5] at hR wu
 have hR:(match st t ⟨o8 q lb lt,lb,lt,ld⟩ with | none=>(c,a,t) | some u=>sW st D gen k (a+(bM b.length:Int)) (c+1) u)=BO:=hR
 obtain ⟨hA0,wu⟩:=wu
 refine ⟨_,rfl,wC ⟨rfl,hH.nw fun p3 w9 H _=>H.iN 6 rfl rfl fun dN H=>?_⟩⟩
 have H:aq w [] dN [.av p1 (bK.cs sZ) aA,.av p2 (t.cs T) aA,.box fp fun w=>bN w T t,.row aM 1 y (aL b),.row aM 1 B (aL b),aB.err DZ 0,.av p3 (cY q sd) cV]:=H
 have l9:eR dN DZ 0:=H.err 5 rfl
 have hB:=H.bytes 4 rfl
 have hlen:ld.length≤1000000:=by
  have h1:=(t3.jQ _ hB).len
  have h2:=t3.within.1
  have h3:=hB.len
  omega
 refine l9.isNil (ite_false rfl (H.aG 1 rfl (H.jH 6 rfl (aC (pO (c:=⟨o8 q lb lt,lb,lt,ld⟩) (q:=q) (sd:=sd) hA0 rfl V4 (hg.gS H (by simp)) (H.box 2 rfl) (t1.jQ _ hB) (t2.jQ _ hB) (t3.jQ _ hB) hlen) ?_))))
 rintro _ fZ ⟨T1,C,R,aoP,anU⟩
 obtain ⟨s1,y1,z1,er3,f1,rfl,G⟩:=aoP.box
 have H:=H.join G
 refine ⟨_,rfl,jT (zW ⟨rfl,H.nw fun p4 dO H _=>H.nw fun p5 gH H _=>H.aV 9 rfl rfl fun kN H=>H.ew 10 rfl rfl fun nv H=>?_⟩)⟩
 have wv:eR nv er3 C:=H.err 7 rfl
 refine wv.isNil ?_
 rcases anU with ⟨rfl,lF,aoQ⟩ | ⟨LD,lF⟩
 ·rw [lF] at hR wu
  have H:=H.drew
  have hp:1≤bM b.length:=akW (by omega)
  refine ite_false rfl ⟨by unfold aH; omega,H.aG 9 rfl (H.aV 1 rfl rfl fun mN H=>aR (c+1) (a+(bM b.length:Int)) _ ⟨k,T1,s1,f1,H.eu (L':=[.av p1 (bK.cs sZ) aA,.av p2 (T1.cs s1) aA,.box f1 fun w=>bN w s1 T1]) [0,1,8] (by decide) rfl,aoQ,by omega,by omega,hR,wu,by omega,by omega⟩ (by show (_ - (_+(bM b.length:Int))).toNat<_; omega))⟩
 ·rw [lF] at hR
  exact ite_true (by rw [decide_eq_false LD]; rfl) (fin (L:=[_,_,_,_,_,_,_,_]) H hR)
end Go.Proofs.YtpchgbolambkcaaGreatDoor
end
section
set_option linter.unusedVariables false
set_option linter.unusedSimpArgs false
namespace Go.Proofs.YtpchgbolambkcaaGreatDoor
open Go Go.Ev
set_option maxRecDepth 20000
set_option linter.unusedVariables false
theorem abd {D:aU} {a e gen number:Int} (h:a<e→jZ (aX D a) gen number 0 (qL D a)=false):fO D a e gen number=none:=by
 unfold fO
 split
 ·refine JT (k:=1) ?_ _ (by omega)
  show (if a+((0:Nat):Int)<e∧jZ (aX D (a+((0:Nat):Int))) gen number ((0:Nat):Int) (qL D a)=true then some ([] ++ lA (aX D (a+((0:Nat):Int)))) else none)=none
  rw [show a+((0:Nat):Int)=a by omega]
  refine if_neg fun hx=>?_
  have h1:=h hx.1
  have h2:jZ (aX D a) gen number 0 (qL D a)=true:=hx.2
  rw [h1] at h2; cases h2
 ·rfl
def kJ (acc:aJ→kG→Prop) (st:aJ→kG→Option aJ) (D:aU) (gen:Int) (k:Nat) (a c:Int) (t:aJ) (r:Int×Int×aJ):Prop:=sW st D gen k a c t=r∧vQ acc st D gen k a c t
section
variable {acc:aJ→kG→Prop} {st:aJ→kG→Option aJ} {D:aU} {gen:Int} {k:Nat} {a c:Int} {t:aJ}
theorem kJ.stop (h:fO D a (D.now.length:Int) gen (c+2)=none):kJ acc st D gen (k+1) a c t (c,a,t):=by
 constructor
 ·show (match fO D a (D.now.length:Int) gen (c+2) with | none=>(c,a,t) | some b=>_)=_
  rw [h]
 ·show (match fO D a (D.now.length:Int) gen (c+2) with | none=>True | some b=>_)
  rw [h]; trivial
theorem kJ.step {b:List B8} {x:kG} {u:aJ} {r:Int×Int×aJ} (h:fO D a (D.now.length:Int) gen (c+2)=some b) (hx:o9 b=some x) (ha:acc t x) (hu:st t x=some u) (hr:kJ acc st D gen k (a+(bM b.length:Int)) (c+1) u r):kJ acc st D gen (k+1) a c t r:=by
 constructor
 ·show (match fO D a (D.now.length:Int) gen (c+2) with | none=>(c,a,t) | some b=>match o9 b with | none=>(c,a,t) | some x=>match st t x with | none=>(c,a,t) | some u=>sW st D gen k (a+(bM b.length:Int)) (c+1) u)=_
  rw [h]
  show (match o9 b with | none=>(c,a,t) | some x=>match st t x with | none=>(c,a,t) | some u=>sW st D gen k (a+(bM b.length:Int)) (c+1) u)=_
  rw [hx]
  show (match st t x with | none=>(c,a,t) | some u=>sW st D gen k (a+(bM b.length:Int)) (c+1) u)=_
  rw [hu]
  exact hr.1
 ·show (match fO D a (D.now.length:Int) gen (c+2) with | none=>True | some b=>match o9 b with | none=>True | some x=>acc t x∧match st t x with | none=>True | some u=>vQ acc st D gen k (a+(bM b.length:Int)) (c+1) u)
  rw [h]
  show (match o9 b with | none=>True | some x=>acc t x∧match st t x with | none=>True | some u=>vQ acc st D gen k (a+(bM b.length:Int)) (c+1) u)
  rw [hx]
  refine ⟨ha,?_⟩
  show (match st t x with | none=>True | some u=>vQ acc st D gen k (a+(bM b.length:Int)) (c+1) u)
  rw [hu]
  exact hr.2
end
theorem AL {acc:aJ→kG→Prop} {st:aJ→kG→Option aJ} {D:aU} {gen c:Int} {t:aJ} {r:Int×Int×aJ} (h:dK D=some (gen,c,t)) (hc:c≤4611686018427387904) (hr:kJ acc st D gen (D.now.length+1) 80 c t r):pn st D=(gen,r)∧uT acc st D∧gD D=0:=by
 unfold pn uT gD
 rw [h]
 exact ⟨by rw [← hr.1],⟨hc,hr.2⟩,rfl⟩
end Go.Proofs.YtpchgbolambkcaaGreatDoor
end
section
set_option linter.unusedVariables false
set_option linter.unusedSimpArgs false
namespace Go.Proofs.YtpchgbolambkcaaGreatDoor
open Go Go.Ev
set_option maxRecDepth 20000
set_option linter.unusedVariables false
def oO (_:aJ) (c:kG):Prop:=c.q.n2=1
def ir (t:aJ) (c:kG):Option aJ:=if jS c.q t=0 then some (jz c.q t) else none
theorem abe {q:bL} {lb lt:List B8} (t:aJ) (h1:lb.length=q.dG.n) (h2:lt.length=q.tok.n):jS (o8 q lb lt) t=jS q t∧jz (o8 q lb lt) t=jz q t:=by
 have e:jS (o8 q lb lt) t=jS q t:=by
  unfold jS rP xm
  rw [ajn h1 h2]; rfl
 refine ⟨e,?_⟩
 unfold jz
 rw [e]; rfl
theorem akX {q:bL} {t:aJ} (h:jS q t=0):dh t=true∧iP q=true∧aW 1 (t.aE.length:Int) q.n0=true∧kU (dy q t).high (dy q t).used q.n1=0∧aW 1 (t.bq.length:Int) q.n3=true∧D6 q t=0∧kV t.bq q.n3 q.name=0:=by
 unfold jS zQ at h
 split at h
 ·rename_i h0
  unfold rP xm at h0
  split at h0
  ·rename_i h1
   rw [Bool.and_eq_true] at h1
   split at h0
   ·rename_i h2
    split at h0
    ·rename_i h3
     split at h0
     ·rename_i h4
      exact ⟨h1.1,h1.2,h2,h3,h4,h0,h⟩
     ·omega
    ·omega
   ·omega
  ·omega
 ·rename_i h1; exact absurd h h1
theorem Y8 {q:bL} {t:aJ} (hs:t.small):(jz q t).small:=by
 unfold jz
 split
 ·rename_i h
  obtain ⟨hm,hq,hw,_⟩:=akX h
  have hu:=Rn hs hw
  have hp:=Rq hm
  refine ⟨hu.sec,?_,hu.aE,hu.key,hu.gr,hu.pk,hu.lS,hu.bV,hu.gf⟩
  show (vM t.bq q.n3 q.name).length≤1000
  exact al3 _ _ _
 ·exact YD
theorem ZQ:abb oO ir:=by
 intro w s t c q sd ha hq hs hg hx hb ht hd hl
 have h1:q.n2=1:=by
  have:c.q.n2=q.n2:=by rw [hq]; rfl
  rw [← this]; exact ha
 obtain ⟨e1,e2⟩:=abe t (Bytes.len hb) (Bytes.len ht)
 refine (agi s t q sd h1 hs w hg hx).mono fun v w' h=>⟨_,_,_,h,?_⟩
 unfold ir
 rw [hq,e1,e2]
 by_cases h0:jS q t=0
 ·rw [if_pos h0]; exact .inl ⟨h0,rfl,Y8 hs⟩
 ·rw [if_neg h0]; exact .inr ⟨h0,rfl⟩
end Go.Proofs.YtpchgbolambkcaaGreatDoor
end
section
set_option linter.unusedVariables false
set_option linter.unusedSimpArgs false
namespace Go.Proofs.YtpchgbolambkcaaGreatDoor
open Go Go.Ev
set_option maxRecDepth 20000
set_option linter.unusedVariables false
def fN (name:ByteArray):aJ:=Hr name (List.replicate 1312 0) (List.replicate 32 0)
theorem BZ (name:ByteArray) (w:World):Ok Pr tu [.string name] w fun v w'=>AT w w' v (fN name):=by
 refine agc ?_
 unfold Pa
 rw [lV]
 have first:∀ (x y:ah) (w3:World),Bytes w3 x (List.replicate 1312 0)→Bytes w3 y (List.replicate 32 0)→Ok Pr qP [.string name,.slice x.a x.n x.c,.slice y.a y.n y.c] w3 fun v w'=>∃ c,ab4 w3 w' v (fN name) [.int .i64 c] []:=fun x y w3 h1 h2=>by
  refine (ahi name x y _ _ (by simp) (by simp) w3 h1 h2).mono ?_
  intro v w' h
  exact ⟨_,h⟩
 generalize fN name=T at *
 refine (aq.start w).nw fun p w1 H _=>?_
 have H:aq w [] w1.drew [.av p (bK.cs sZ) aA]:=H.drew
 have post:∀ {w5:World} {p2:Nat} {s:cL} {ys zs:List ah} {fp fq:List Nat},aq w [] w5 ([.av p (bK.cs sZ) aA,.av p2 (bK.cs sZ) aA] ++ kA s T ys zs fp fq)→
   aV ⟨p2,0,none⟩ T.clock s.sec s.ten s.aE s.key s.gr w5 fun w6=>aG ⟨p2,0,none⟩ w6 fun f0 f1 f2 f3 f4 f5=>aV ⟨p,0,none⟩ f0 f1 f2 f3 f4 f5 w6 fun w7=>aG ⟨p,0,none⟩ w7 fun g0 g1 g2 g3 g4 g5=>
    AT w w7 (.agg ⟨[.int .i64 g0,.slice g1.a g1.n g1.c,.slice g2.a g2.n g2.c,.slice g3.a g3.n g3.c,.slice g4.a g4.n g4.c,.slice g5.a g5.n g5.c]⟩) T:=by
  intro w5 p2 s ys zs fp fq K
  exact K.aV 1 rfl rfl fun w6 K=>K.aG 1 rfl (K.aV 0 rfl rfl fun w7 K=>K.aG 0 rfl ⟨s,ys,zs,fp,fq,rfl,K.drop 2⟩)
 have Ds:∀ {w8:World} {p2:Nat} {x y:ah},aq w [] w8 [.av p (bK.cs sZ) aA,.av p2 (bK.cs sZ) aA,.row aM 1 x (aL (List.replicate 1312 0)),.row aM 1 y (aL (List.replicate 32 0))]→
   ax Pr qP [.string name,.slice x.a x.n x.c,.slice y.a y.n y.c] w8 fun v w9=>bU.bY v fun vs=>aD vs fun v1 r=>ez v1 fun t0 t1 t2 t3 t4 t5=>aD r fun v2 r2=>aF .i64 v2 fun n=>(r2=[]∧
   aV ⟨p2,0,none⟩ t0 t1 t2 t3 t4 t5 w9 fun w6=>aG ⟨p2,0,none⟩ w6 fun f0 f1 f2 f3 f4 f5=>aV ⟨p,0,none⟩ f0 f1 f2 f3 f4 f5 w6 fun w7=>aG ⟨p,0,none⟩ w7 fun g0 g1 g2 g3 g4 g5=>
    AT w w7 (.agg ⟨[.int .i64 g0,.slice g1.a g1.n g1.c,.slice g2.a g2.n g2.c,.slice g3.a g3.n g3.c,.slice g4.a g4.n g4.c,.slice g5.a g5.n g5.c]⟩) T):=by
  intro w8 p2 x y K
  refine aC (first x y w8 (Own.bytes (K.kK 2 rfl)) (Own.bytes (K.kK 3 rfl))) ?_
  rintro _ w9 ⟨c,s,ys,zs,fp,fq,rfl,G⟩
  have K:=K.join G
  refine ⟨_,rfl,jT ⟨_,rfl,rfl,post (ys:=ys) (zs:=zs) (fp:=fp) (fq:=fq) ?_⟩⟩
  exact K.eu [0,1,4,5,6,7,8,9,10] (by decide) rfl
 have abM:∀ {w8:World} {x y:ah},aq w [] w8 [.av p (bK.cs sZ) aA,.row aM 1 x (aL (List.replicate 1312 0)),.row aM 1 y (aL (List.replicate 32 0))]→
   ax Pr qP [.string name,.slice x.a x.n x.c,.slice y.a y.n y.c] w8 fun v w4=>bU.bY v fun vs=>aD vs fun v1 r=>ez v1 fun t0 t1 t2 t3 t4 t5=>aD r fun v2 r2=>aF .i64 v2 fun n=>(r2=[]∧
   nw aA (bK.cs sZ) w4 fun a w9=>aV a t0 t1 t2 t3 t4 t5 w9 fun w6=>aG a w6 fun f0 f1 f2 f3 f4 f5=>aV ⟨p,0,none⟩ f0 f1 f2 f3 f4 f5 w6 fun w7=>aG ⟨p,0,none⟩ w7 fun g0 g1 g2 g3 g4 g5=>
    AT w w7 (.agg ⟨[.int .i64 g0,.slice g1.a g1.n g1.c,.slice g2.a g2.n g2.c,.slice g3.a g3.n g3.c,.slice g4.a g4.n g4.c,.slice g5.a g5.n g5.c]⟩) T):=by
  intro w8 x y K
  refine aC (first x y w8 (Own.bytes (K.kK 1 rfl)) (Own.bytes (K.kK 2 rfl))) ?_
  rintro _ w9 ⟨c,s,ys,zs,fp,fq,rfl,G⟩
  have K:=K.join G
  refine ⟨_,rfl,jT ⟨_,rfl,rfl,K.nw fun p2 dN K _=>post (ys:=ys) (zs:=zs) (fp:=fp) (fq:=fq) ?_⟩⟩
  exact K.eu [0,10,3,4,5,6,7,8,9] (by decide) rfl
 have z8:zc Pr aM=[.int .u8 0]:=by kernel_rfl
 refine ⟨?_,?_,?_⟩
 ·refine H.sQ hO z8 rfl rfl (by decide) fun x w2 H _=>⟨H.sQ hO z8 rfl rfl (by decide) fun y w3 H _=>⟨abM H,H.nw fun p2 w8 H _=>Ds (H.eu [0,3,1,2] (by decide) rfl)⟩,H.nw fun p2 w8 H _=>H.sQ hO z8 rfl rfl (by decide) fun y w3 H _=>Ds (H.eu [0,2,1,3] (by decide) rfl)⟩
 ·refine H.sQ hO z8 rfl rfl (by decide) fun y w2 H _=>⟨H.sQ hO z8 rfl rfl (by decide) fun x w3 H _=>⟨abM (H.eu [0,2,1] (by decide) rfl),H.nw fun p2 w8 H _=>Ds (H.eu [0,3,2,1] (by decide) rfl)⟩,H.nw fun p2 w8 H _=>H.sQ hO z8 rfl rfl (by decide) fun x w3 H _=>Ds (H.eu [0,2,3,1] (by decide) rfl)⟩
 ·refine H.nw fun p2 w8 H _=>⟨H.sQ hO z8 rfl rfl (by decide) fun x w2 H _=>H.sQ hO z8 rfl rfl (by decide) fun y w3 H _=>Ds H,H.sQ hO z8 rfl rfl (by decide) fun y w2 H _=>H.sQ hO z8 rfl rfl (by decide) fun x w3 H _=>Ds (H.eu [0,1,3,2] (by decide) rfl)⟩
end Go.Proofs.YtpchgbolambkcaaGreatDoor
end
section
set_option linter.unusedVariables false
set_option linter.unusedSimpArgs false
namespace Go.Proofs.YtpchgbolambkcaaGreatDoor
open Go Go.Ev
set_option maxRecDepth 20000
set_option linter.unusedVariables false
theorem CU {D:aU} {g c:Int} {t:aJ} (h:cQ D (bC g)=some (g,c,t)) (ho:cQ D (cR g)=none∨∃ r,cQ D (cR g)=some r∧r.1<g):dK D=some (g,c,t):=by
 unfold dK
 rcases qu g with ⟨e1,e2⟩ | ⟨e1,e2⟩
 ·rw [e1] at h
  rw [e2] at ho
  rw [h]
  refine if_pos ?_
  rcases ho with ho | ⟨r,ho,hr⟩
  ·rw [ho]; rfl
  ·rw [ho]
   show (true && (!true || decide (r.1<g)))=true
   rw [decide_eq_true hr]; rfl
 ·rw [e1] at h
  rw [e2] at ho
  rw [h]
  refine if_neg ?_
  rcases ho with ho | ⟨r,ho,hr⟩
  ·rw [ho]; exact fun h=>by cases h
  ·rw [ho]
   show ¬ (true && (!true || decide (g<r.1)))=true
   rw [decide_eq_false (by omega)]; decide
theorem AV {D:aU} {a e gen number:Int} (h:a<e→aX D a=fI):fO D a e gen number=none:=abd fun h1=>by rw [h h1]; exact aa9 _ _ _ _
theorem akY {n:Int} {name:ByteArray} (hn:cO n):∀ x∈(jy n name).dz,cO x:=by
 intro x hx
 have z:cO 0:=⟨by decide,by decide⟩
 have o:cO 1:=⟨by decide,by decide⟩
 simp only [bL.dz,jy,List.mem_cons,List.not_mem_nil,or_false] at hx
 rcases hx with rfl | rfl | rfl | rfl | rfl | rfl | rfl | rfl | rfl | rfl | rfl <;> assumption
def j9 (n:Int) (name:ByteArray):kG:=⟨o8 (jy n name) [] [],[],[],[]⟩
def gu (n:Int) (name:ByteArray):List B8:=iA (jy n name) [] [] []
theorem S0 {n:Int} {name:ByteArray} (hn:cO n) (h:name.size≤300):o9 (gu n name)=some (j9 n name):=amc (akY hn) h (Nat.zero_le _) (Nat.zero_le _) (Nat.zero_le _)
theorem amd (n:Int) (name:ByteArray):(gu n name).length=120+name.size:=by
 unfold gu
 rw [Ru]
 show 88+(8+name.size)+(8+0+(8+0+(8+0)))=_
 omega
theorem tI {n:Int} {name:ByteArray} (h:name.size≤368):bM (gu n name).length=1:=by
 rw [amd]
 unfold bM
 rw [if_neg (by omega)]
 omega
section
variable {D:aU} {m:Nat}
theorem Wc (hD:D.ok m) {a gen c n:Int} {name:ByteArray} (ha:0≤a∧a<(D.now.length:Int)) (hg:1≤gen∧gen≤9223372036854775807) (hc:1≤c+2∧c+2≤9223372036854775807) (hn:name.size≤368) :
  iz D a (D.now.length:Int) gen (c+2) (gu n name)=0∧lZ (fM D a (D.now.length:Int) gen (c+2) (gu n name)) a gen (c+2) (gu n name)∧(fM D a (D.now.length:Int) gen (c+2) (gu n name)).now.length=D.now.length∧
   ∀ j,0≤j→j≠a→aX (fM D a (D.now.length:Int) gen (c+2) (gu n name)) j=aX D j:=by
 have hp:=tI (n:=n) hn
 have h0:iz D a (D.now.length:Int) gen (c+2) (gu n name)=0:=by
  unfold iz fJ
  rw [hp,if_pos (show 0≤a∧a≤(D.now.length:Int)∧(D.now.length:Int)≤(D.now.length:Int) by omega),if_pos rfl,if_neg (by omega),if_neg (by omega)]
 refine ⟨h0,Kh hD h0,AF _ _ _ _ _ _,fun j hj Uo=>?_⟩
 unfold fM
 rw [if_pos h0,hp,FC hD ha.1 _ (by omega) _ hj,if_neg (by omega)]
end
theorem lZ.congr {D D':aU} {a gen number:Int} {b:List B8} (h:lZ D a gen number b) (hc:∀ j,a≤j→j<a+(bM b.length:Int)→aX D' j=aX D j):lZ D' a gen number b:=fun k hk=>by rw [hc _ (by omega) (by omega)]; exact h k hk
theorem RJ {D:aU} {a gen c n:Int} {name:ByteArray} (ha:0≤a∧a<(D.now.length:Int)) (hg:1≤gen∧gen≤9223372036854775807) (hc:1≤c+2∧c+2≤9223372036854775807) (hn:name.size≤368) (h:lZ D a gen (c+2) (gu n name)) :
  fO D a (D.now.length:Int) gen (c+2)=some (gu n name):=
 R4 hg hc (by rw [tI hn]; decide) (by omega) (by rw [tI hn]; omega) h
theorem KM (name:ByteArray):(dh (fN name)=true∧fN name=kB name (List.replicate 1312 0) (List.replicate 32 0))∨fN name=bK:=by
 unfold fN Hr
 cases h:dh (kB name (List.replicate 1312 0) (List.replicate 32 0)) with
 | true=>rw [if_pos rfl]; exact .inl ⟨h,rfl⟩
 | false=>rw [if_neg (by decide)]; exact .inr rfl
theorem CM (name:ByteArray):(fN name).small:=by
 rcases KM name with ⟨_,h⟩ | h
 ·rw [h]; exact Rl (by simp) (by simp)
 ·rw [h]; exact YD
theorem AW (name:ByteArray):nD (fN name):=by
 have z:cO 0:=⟨by decide,by decide⟩
 have o:cO 1:=⟨by decide,by decide⟩
 rcases KM name with ⟨_,h⟩ | h
 ·rw [h]
  refine ⟨z,fun x hx=>?_,fun p hp=>?_,fun k hk=>(by cases hk),fun k hk=>(by cases hk),fun g hg=>(by cases hg)⟩
  ·rw [List.mem_singleton.1 hx]; exact ⟨o,z⟩
  ·rw [List.mem_singleton.1 hp]; exact ⟨o,o,z⟩
 ·rw [h]
  exact ⟨z,fun x hx=>(by cases hx),fun p hp=>(by cases hp),fun k hk=>(by cases hk),fun k hk=>(by cases hk),fun g hg=>(by cases hg)⟩
theorem am5 {name:ByteArray} (h:(fN name).aE.length=1):oS (fN name):=by
 rcases KM name with ⟨h1,_⟩ | h1
 ·exact mQ.1 h1
 ·rw [h1] at h; cases h
end Go.Proofs.YtpchgbolambkcaaGreatDoor
end
section
set_option linter.unusedVariables false
set_option linter.unusedSimpArgs false
namespace Go.Proofs.YtpchgbolambkcaaGreatDoor
open Go Go.Ev
set_option maxRecDepth 20000
set_option linter.unusedVariables false
set_option maxHeartbeats 2000000
theorem _root_.Go.Ev.aq.beside {w0 w w':World} {S:List Nat} {L M:List aB} (H:aq w0 S w (L ++ M)) (m:Mod (L.flatMap (·.fp)) w w'):aq w0 S w' M:=
 H.back (L':=[]) ⟨m,fun k r h=>by simp at h,fun k r h=>by simp at h,fun j k r s _ h=>by simp at h⟩
theorem AT.boxed {w w':World} {v:Value} {T:aJ} (h:AT w w' v T):∃ s,v=.agg ⟨T.cs s⟩∧oN w w' fun w=>bN w s T:=by
 obtain ⟨s,ys,zs,fp,fq,rfl,H⟩:=h
 exact ⟨s,rfl,H.boxed fun w' ok=>
  ⟨Own.bytes (ok 0 (.row aM 1 s.sec (aL T.fy)) rfl),fE.of (Own.sl (ok 1 (.row cZ 3 s.ten (gM T.bq)) rfl)),⟨ys,Own.sl (ok 3 (.row ey 5 s.aE (bP cv.cs T.aE ys)) rfl),JR ((ok 4 (.box fp fun w=>br lE w ys T.aE) rfl).2 w' fun _ _=>rfl)⟩,
   ⟨zs,Own.sl (ok 5 (.row bW 4 s.key (bP ct.cs T.keys zs)) rfl),JS ((ok 6 (.box fq fun w=>br qI w zs T.keys) rfl).2 w' fun _ _=>rfl)⟩,Own.sl (ok 2 (.row dJ 6 s.gr (gX T.cM)) rfl)⟩⟩
theorem ack:dh (fN gq)=true:=by kernel_rfl
theorem aoR:jS (j9 1 fY).q (fN gq)=0:=by kernel_rfl
theorem aoS:(jz (j9 1 fY).q (fN gq)).bq.length=2:=by kernel_rfl
section
variable {D:aU} {m:Nat}
theorem AM (hD:D.ok m) {gen count:Int} {t:aJ} (hM:oS t) (j7:nD t) (hg:1≤gen∧gen≤9223372036854775807) (hc:0≤count∧count<9223372036854775807) (hl:80<D.now.length) (ho:cQ D (cR gen)=none∨∃ r,cQ D (cR gen)=some r∧r.1<gen) :
  oE D gen count t=0∧dK (dB D gen count t)=some (gen,count,t)∧(dB D gen count t).now.length=D.now.length∧(∀ j,0≤j→(j<bC gen∨bC gen+40≤j)→aX (dB D gen count t) j=aX D j)∧(dB D gen count t).ok m:=by
 obtain ⟨h1,h2,h3⟩:=Dr (D:=D) hM hg.1 hc hl
 refine ⟨h1,CU (C3 hD hM j7 hg hc hl) ?_,by rw [h2,AF],fun j h4 h5=>by rw [h2]; exact JV hD j h4 h5,by rw [h2]; exact AK hD _ _ _ _ _⟩
 rw [SC hD hM hg.1 hc hl]
 exact ho
theorem Ar {D':aU} (hl:D'.now.length=D.now.length) (h:∀ j,0≤j→j<80→aX D' j=aX D j):dK D'=dK D:=by
 unfold dK
 rw [tC hl (fun j h1 h2=>h j (by omega) (by omega)),tC (a:=40) hl (fun j h1 h2=>h j (by omega) (by omega))]
end
def Bo:aU:=fM (dB (cX 100) 1 0 (fN gq)) 80 ((dB (cX 100) 1 0 (fN gq)).now.length:Int) 1 (0+2) (gu 1 fY)
theorem ame:oE (cX 100) 1 0 (fN gq)=0∧(dB (cX 100) 1 0 (fN gq)).ok 100∧(dB (cX 100) 1 0 (fN gq)).now.length=100∧iz (dB (cX 100) 1 0 (fN gq)) 80 ((dB (cX 100) 1 0 (fN gq)).now.length:Int) 1 (0+2) (gu 1 fY)=0∧
  Bo.ok 100∧uT oO ir Bo∧gD Bo=0∧pn ir Bo=(1,1,81,jz (j9 1 fY).q (fN gq)):=by
 have hD:=vA 100 (by decide)
 have hz:cQ (cX 100) 40=none:=sv (by rw [tL 100 40 (by omega)]; exact rj)
 have hn:=CL 100
 obtain ⟨h1,h2,h3,h4,h5⟩:=AM hD (gen:=1) (count:=0) (mQ.1 ack) (AW _) (by omega) (by omega) (by omega) (.inl hz)
 unfold Bo
 generalize dB (cX 100) 1 0 (fN gq)=D1 at *
 have hS:ByteArray.size fY=1:=rfl
 rw [hn] at h3
 obtain ⟨g1,g2,g3,g4⟩:=Wc h5 (a:=80) (gen:=1) (c:=0) (n:=1) (name:=fY) (by omega) (by omega) (by omega) (by omega)
 have g5:=AK h5 80 (D1.now.length:Int) 1 (0+2) (gu 1 fY)
 generalize fM D1 80 (D1.now.length:Int) 1 (0+2) (gu 1 fY)=D2 at *
 have Gm:dK D2=some (1,0,fN gq):=by rw [Ar g3 (fun j h6 h7=>g4 j h6 (by omega)),h2]
 have hp:bM (gu 1 fY).length=1:=tI (by omega)
 have hr:kJ oO ir D2 1 (D2.now.length+1) 80 0 (fN gq) (1,81,jz (j9 1 fY).q (fN gq)):=by
  rw [g3,h3]
  refine kJ.step (RJ (by omega) (by omega) (by omega) (by omega) g2) (S0 ⟨by decide,by decide⟩ (by omega)) rfl (u:=jz (j9 1 fY).q (fN gq)) (by unfold ir; rw [if_pos aoR]) ?_
  rw [hp]
  exact kJ.stop (AV fun h6=>by rw [show (80:Int)+((1:Nat):Int)=81 from rfl,g4 81 (by omega) (by omega),h4 81 (by omega) (.inr (by have:=qu 1; omega))]; exact tL 100 81 (by omega))
 obtain ⟨r1,r2,r3⟩:=AL Gm (by omega) hr
 exact ⟨h1,h5,h3,g1,g5,r2,r3,r1⟩
theorem B0 (w:World) (hg:Laid w):Ok Pr jG [] w fun v w'=>v=.bool true∧Mod [] w w':=by
 refine aga ?_
 unfold O8
 obtain ⟨a1,a2,a3,a4,a5,a6,a7,a8⟩:=ame
 have Gm:dK (cX 100)=none:=akR 100 (by omega)
 have BB:gD (cX 100)=9:=by unfold gD; rw [Gm]; rfl
 have t2:=aoS
 have first:=BZ gq
 have nu:=CM gq
 have xI:fM (dB (cX 100) 1 0 (fN gq)) 80 ((dB (cX 100) 1 0 (fN gq)).now.length:Int) 1 (0+2) (iA (jy 1 fY) [] [] [])=Bo:=rfl
 have hC2:iz (dB (cX 100) 1 0 (fN gq)) 80 ((dB (cX 100) 1 0 (fN gq)).now.length:Int) 1 (0+2) (iA (jy 1 fY) [] [] [])=0:=a4
 have hp:bM (iA (jy 1 fY) [] [] []).length=1:=tI (n:=1) (name:=fY) (by show 1≤_; omega)
 clear a4
 rw [lV]
 refine aC (Cn 100 (by omega) (by omega) w) ?_
 rintro _ w1 ⟨p,s,rfl,H⟩
 have hD:=vA 100 (by omega)
 generalize Bo=D2 at *
 generalize jz (j9 1 fY).q (fN gq)=T2 at *
 generalize fN gq=T1 at *
 generalize cX 100=D0 at *
 refine yR (aC (I7 (mV (M:=[]) H) hD) ?_)
 rintro _ w2 ⟨T0,e0,f0,rfl,G⟩
 rw [Gm,BB] at G
 rw [Gm]
 have H:=H.join G
 have H:aq w [] w2 (cu p s D0 ++ [.box f0 fun w=>bN w T0 bK,aB.err e0 9]):=H
 refine ⟨_,rfl,cr (cr (jT ⟨rfl,H.nw fun p2 w3 H _=>H.aV 7 rfl rfl fun w4 H=>?_⟩))⟩
 have H:aq w [] w4 (cu p s D0 ++ [.box f0 fun w=>bN w T0 bK,aB.err e0 9,.av p2 (bK.cs T0) aA]):=H
 refine aC (first w4) ?_
 rintro _ w5 hA
 obtain ⟨sT,rfl,lq⟩:=hA.boxed
 obtain ⟨f1,H⟩:=H.yK lq
 have H:aq w [] w5 (cu p s D0 ++ [.box f0 fun w=>bN w T0 bK,aB.err e0 9,.av p2 (bK.cs T0) aA,.box f1 fun w=>bN w sT T1]):=H
 refine jT (aC (Ao H.sub hD 1 0 sT T1 nu fun m=>(H.beside m).box 3 rfl) ?_)
 rintro e1 w6 ⟨s1,K⟩
 rw [a1] at K
 have H:=H.back K
 refine aC (IP 1 fY w6) ?_
 rintro _ w7 ⟨rfl,m7⟩
 have H:=H.frame m7
 generalize dB D0 1 0 T1=D1 at *
 have H:aq w [] w7 (cu p s1 D1 ++ [aB.err e1 0,.box f0 fun w=>bN w T0 bK,aB.err e0 9,.av p2 (bK.cs T0) aA,.box f1 fun w=>bN w sT T1]):=H
 refine wC (aC (IN H.sub a2 80 1 0 ⟨by omega,by omega⟩ (jy 1 fY) ⟨none,0,0⟩ [] [] [] (by show 1≤_; omega) (by simp) (by simp) (by simp) fun m=>⟨Bytes.nil _,Bytes.nil _,Bytes.nil _⟩) ?_)
 rintro _ w8 ⟨s2,e2,rfl,K⟩
 rw [xI,hC2] at K
 rw [hC2,hp]
 have H:=H.back K
 refine ⟨_,rfl,cr ⟨rfl,aC (Xo ZQ (hg.gS H (by simp)) (mV H) a5 a6) ?_⟩⟩
 rintro _ w9 ⟨T3,e3,f3,rfl,G⟩
 rw [a7,a8] at G
 rw [a8]
 have H:=H.join G
 have H:aq w [] w9 ([.av p (pV s2) oI,.row bp 1 s2.nw (s2.xs.map ah.v),.row bp 1 s2.fm (s2.ys.map ah.v),.row jA 1 s2.dt (iC D2.dQ),.box s2.fp fun w=>br fo w s2.xs D2.now∧br fo w s2.ys D2.dI,aB.err e2 0,aB.err e1 0,.box f0 fun w=>bN w T0 bK,aB.err e0 9,.av p2 (bK.cs T0) aA,.box f1 fun w=>bN w sT T1,.box f3 fun w=>bN w T3 (T2),aB.err e3 0]):=H
 refine ⟨_,rfl,cr (cr (cr (jT ⟨rfl,H.nw fun p3 dN H _=>H.aV 13 rfl rfl fun fZ H=>ite_true rfl ?_⟩)))⟩
 have KY:2=T3.ten.n:=by
  have h:=(H.box 11 rfl:bN fZ T3 (T2)).ten.len
  rw [t2] at h; exact h
 refine aC (B9 e0 9 fZ (hg.gS H (by simp)) (H.err 8 rfl)) ?_
 rintro _ dO ⟨rfl,Wd⟩
 have H:=H.frame Wd
 refine cr (ite_true rfl ((H.err 6 rfl:eR dO e1 0).isNil (ite_true rfl ((H.err 5 rfl:eR dO e2 0).isNil (H.ay 13 rfl (an p3 2) rfl (ite_true ?_ ((H.err 12 rfl:eR dO e3 0).isNil ⟨rfl,H.mod⟩)))))))
 show ((((decide ((0:Int)=0) && decide ((1:Int)=1)) && decide ((1:Int)=1)) && decide ((81:Int)=81)) && decide (((T3.ten.n:Nat):Int)=2))=true
 rw [← KY]; rfl
end Go.Proofs.YtpchgbolambkcaaGreatDoor
end
section
set_option linter.unusedVariables false
set_option linter.unusedSimpArgs false
namespace Go.Proofs.YtpchgbolambkcaaGreatDoor
open Go Go.Ev
set_option maxRecDepth 20000
set_option linter.unusedVariables false
theorem akZ {root name:ByteArray} (hr:dh (fN root)=true) (hn:1≤name.size∧name.size≤300):jS (j9 1 name).q (fN root)=0:=by
 rcases KM root with ⟨_,h⟩ | h
 case inr=>rw [h] at hr; exact absurd hr (by decide)
 rw [h] at hr ⊢
 obtain ⟨-,-,-,-,hm,-⟩:=Rq hr
 have hm:iw [⟨1,0,root⟩]=true:=hm
 have hq:iP (j9 1 name).q=true:=by
  unfold iP
  show (true && (true && (true && (true && (decide (name.size≤300) && (true && true))))))=true
  rw [decide_eq_true hn.2]; rfl
 have hp:mT [⟨1,0,root⟩] 1=[1]:=by unfold mT; rw [if_pos hm]; rfl
 have hC:kV [⟨1,0,root⟩] 1 name=0:=by
  unfold kV
  have hN:mD name=true:=by unfold mD aW; rw [decide_eq_true (by omega),decide_eq_true (by omega)]; rfl
  rw [if_pos hm,if_pos (show aW 1 ((([⟨1,0,root⟩]:List bZ).length:Nat):Int) 1=true from rfl),if_pos hN]
  rfl
 unfold jS zQ rP xm
 rw [hr,hq,if_pos (show (true && true)=true from rfl)]
 have hd:D6 (j9 1 name).q (kB root (List.replicate 1312 0) (List.replicate 32 0))=0:=by
  unfold D6
  refine if_pos ?_
  show ((mT [⟨1,0,root⟩] 1).any fun y=>decide ((1:Int)=y))=true
  rw [hp]; rfl
 have hw:aW 1 (((kB root (List.replicate 1312 0) (List.replicate 32 0)).aE.length:Nat):Int) (j9 1 name).q.n0=true:=rfl
 have hu:kU (dy (j9 1 name).q (kB root (List.replicate 1312 0) (List.replicate 32 0))).high (dy (j9 1 name).q (kB root (List.replicate 1312 0) (List.replicate 32 0))).used (j9 1 name).q.n1=0:=by
  show kU 0 0 1=0
  decide
 have ht:aW 1 (((kB root (List.replicate 1312 0) (List.replicate 32 0)).bq.length:Nat):Int) (j9 1 name).q.n3=true:=rfl
 rw [if_pos hw,if_pos hu,if_pos ht,hd,if_pos rfl]
 exact hC
theorem aas {D:aU} {a e gen Gn number Ki:Int} {b:List B8} (hg:1≤Gn∧Gn≤9223372036854775807) (hm:1≤Ki∧Ki≤9223372036854775807) (hb:bM b.length≠0) (h:lZ D a Gn Ki b) (gp:Gn≠gen):fO D a e gen number=none:=by
 obtain ⟨q1,q2,q3,q4⟩:=Fp hb
 have h0:=h 0 (by omega)
 rw [show a+((0:Nat):Int)=a by omega] at h0
 obtain ⟨f1,f2,f3,f4⟩:=Fo (gen:=Gn) (number:=Ki) (b:=b) (k:=0) hg hm q1 (by omega)
 refine abd fun _=>?_
 rw [h0]
 unfold jZ
 rw [f3]
 simp [gp]
theorem acm:dh (fN fY)=true:=by kernel_rfl
theorem KZ:dh (fN kC)=true:=by kernel_rfl
def xU:aU:=dB (cX 100) 1 0 (fN fY)
def oF:aU:=dB xU 2 0 (fN kC)
def lG (name:ByteArray):aU:=fM oF 80 (oF.now.length:Int) 2 (0+2) (gu 1 name)
theorem dO:oE (cX 100) 1 0 (fN fY)=0∧xU.ok 100∧oE xU 2 0 (fN kC)=0∧oF.ok 100∧oF.now.length=100∧dK oF=some (2,0,fN kC)∧cQ oF 0=some (1,0,fN fY)∧cQ oF 40=some (2,0,fN kC)∧∀ j,80≤j→j<100→aX oF j=fI:=by
 have hD:=vA 100 (by decide)
 have hn:=CL 100
 have hz:cQ (cX 100) 40=none:=sv (by rw [tL 100 40 (by omega)]; exact rj)
 obtain ⟨h1,h2,h3,h4,h5⟩:=AM hD (gen:=1) (count:=0) (mQ.1 acm) (AW _) (by omega) (by omega) (by omega) (.inl hz)
 have h6:cQ xU 0=some (1,0,fN fY):=C3 hD (gen:=1) (count:=0) (mQ.1 acm) (AW _) (by omega) (by omega) (by omega)
 have h3:xU.now.length=(cX 100).now.length:=h3
 have h4:∀ j,0≤j→(j<bC 1∨bC 1+40≤j)→aX xU j=aX (cX 100) j:=h4
 have h5:xU.ok 100:=h5
 unfold oF
 generalize xU=D1 at *
 obtain ⟨g1,g2,g3,g4,g5⟩:=AM h5 (gen:=2) (count:=0) (t:=fN kC) (mQ.1 KZ) (AW _) (by omega) (by omega) (by omega) (.inr ⟨_,h6,by decide⟩)
 have g6:cQ (dB D1 2 0 (fN kC)) 40=some (2,0,fN kC):=C3 h5 (gen:=2) (count:=0) (mQ.1 KZ) (AW _) (by omega) (by omega) (by omega)
 have g7:cQ (dB D1 2 0 (fN kC)) 0=some (1,0,fN fY):=by rw [← h6]; exact SC h5 (gen:=2) (mQ.1 KZ) (by omega) (by omega) (by omega)
 refine ⟨h1,h5,g1,g5,by omega,g2,g7,g6,fun j j1 j2=>?_⟩
 rw [g4 j (by omega) (.inr (by have:bC 2=40:=rfl; omega)),h4 j (by omega) (.inr (by have:bC 1=0:=rfl; omega))]
 exact tL 100 j (by omega)
section
variable {name:ByteArray}
theorem w3 (hn:1≤name.size∧name.size≤200):iz oF 80 (oF.now.length:Int) 2 (0+2) (gu 1 name)=0∧(lG name).ok 100∧(lG name).now.length=100∧dK (lG name)=some (2,0,fN kC)∧cQ (lG name) 0=some (1,0,fN fY)∧cQ (lG name) 40=some (2,0,fN kC)∧
  lZ (lG name) 80 2 (0+2) (gu 1 name)∧∀ j,81≤j→j<100→aX (lG name) j=fI:=by
 obtain ⟨-,-,-,h1,h2,h3,h4,h5,h6⟩:=dO
 unfold lG
 generalize oF=D2 at *
 obtain ⟨g1,g2,g3,g4⟩:=Wc h1 (a:=80) (gen:=2) (c:=0) (n:=1) (name:=name) (by omega) (by omega) (by omega) (by omega)
 refine ⟨g1,AK h1 _ _ _ _ _,by omega,?_,?_,?_,g2,fun j j1 j2=>by rw [g4 j (by omega) (by omega)]; exact h6 j (by omega) j2⟩
 ·rw [Ar g3 fun j j1 j2=>g4 j j1 (by omega)]; exact h3
 ·rw [tC g3 fun j j1 j2=>g4 j (by omega) (by omega)]; exact h4
 ·rw [tC g3 fun j j1 j2=>g4 j (by omega) (by omega)]; exact h5
theorem w4 (hn:1≤name.size∧name.size≤200) {gen a:Int} (hg:1≤gen∧gen≤9223372036854775807) (ha:80≤a∧a≤100) :
  xQ (lG name) gen a=0∧gD (gw (lG name) gen a)=0∧uT oO ir (gw (lG name) gen a)∧∃ t at_ u,dK (gw (lG name) gen a)=some (2 - gen % 2,0,t)∧(t=if gen % 2=0 then fN kC else fN fY)∧
   pn ir (gw (lG name) gen a)=(2 - gen % 2,(if gen % 2=0∧80<a then 1 else 0),at_,u):=by
 obtain ⟨-,h1,h2,h3,h4,h5,h6,h7⟩:=w3 hn
 generalize lG name=D3 at *
 obtain ⟨g1,g2,g3⟩:=abL h1 hg.1 (a:=a) (by omega)
 refine ⟨g1,?_⟩
 have hp:bM (gu 1 name).length=1:=tI (by omega)
 have hz:∀ c,kJ oO ir (gw D3 gen a) (2 - gen % 2) ((gw D3 gen a).now.length+1) 80 0 c (0,80,c)→True:=fun _ _=>trivial
 rcases (show gen % 2=0∨gen % 2=1 by omega) with e | e
 ·have ho:cR gen=0:=by unfold cR; rw [e]; rfl
  have l1:cQ (gw D3 gen a) 0=none:=sv (by rw [g3 0 (by omega),if_pos (.inl (by omega))]; exact rj)
  have l2:cQ (gw D3 gen a) 40=some (2,0,fN kC):=by rw [tC g2 fun j j1 j2=>by rw [g3 j (by omega),if_neg (by omega)]]; exact h5
  have hl:dK (gw D3 gen a)=some (2,0,fN kC):=CU (g:=2) l2 (.inl l1)
  rw [e,show (2:Int) - 0=2 from rfl]
  by_cases We:80<a
  ·rw [if_pos (rfl:(0:Int)=0),if_pos (⟨rfl,We⟩:(0:Int)=0∧80<a)]
   have hL:lZ (gw D3 gen a) 80 2 (0+2) (gu 1 name):=h6.congr fun j j1 j2=>by rw [hp] at j2; rw [g3 j (by omega),if_neg (by omega)]
   have hr:kJ oO ir (gw D3 gen a) 2 ((gw D3 gen a).now.length+1) 80 0 (fN kC) (1,81,jz (j9 1 name).q (fN kC)):=by
    rw [g2,h2]
    refine kJ.step (RJ (by omega) (by omega) (by omega) (by omega) hL) (S0 ⟨by decide,by decide⟩ (by omega)) rfl (u:=jz (j9 1 name).q (fN kC)) (by unfold ir; rw [if_pos (akZ KZ ⟨hn.1,by omega⟩)]) ?_
    rw [hp]
    refine kJ.stop (AV fun h8=>?_)
    rw [show (80:Int)+((1:Nat):Int)=81 from rfl,g3 81 (by omega)]
    split
    ·rfl
    ·exact h7 81 (by omega) (by omega)
   obtain ⟨r1,r2,r3⟩:=AL hl (by omega) hr
   exact ⟨r3,r2,_,_,_,hl,rfl,r1⟩
  ·rw [if_pos (rfl:(0:Int)=0),if_neg (show ¬ ((0:Int)=0∧80<a) from fun h=>We h.2)]
   have hr:kJ oO ir (gw D3 gen a) 2 ((gw D3 gen a).now.length+1) 80 0 (fN kC) (0,80,fN kC):=kJ.stop (AV fun h8=>by rw [g3 80 (by omega),if_pos (.inr (by omega))])
   obtain ⟨r1,r2,r3⟩:=AL hl (by omega) hr
   exact ⟨r3,r2,_,_,_,hl,rfl,r1⟩
 ·have ho:cR gen=40:=by unfold cR; rw [e]; rfl
  have l1:cQ (gw D3 gen a) 40=none:=sv (by rw [g3 40 (by omega),if_pos (.inl (by omega))]; exact rj)
  have l2:cQ (gw D3 gen a) 0=some (1,0,fN fY):=by rw [tC g2 fun j j1 j2=>by rw [g3 j (by omega),if_neg (by omega)]]; exact h4
  have hl:dK (gw D3 gen a)=some (1,0,fN fY):=CU (g:=1) l2 (.inl l1)
  rw [e,show (2:Int) - 1=1 from rfl,if_neg (show ¬ (1:Int)=0 by decide),if_neg (show ¬ ((1:Int)=0∧80<a) from fun h=>absurd h.1 (by decide))]
  have hr:kJ oO ir (gw D3 gen a) 1 ((gw D3 gen a).now.length+1) 80 0 (fN fY) (0,80,fN fY):=by
   refine kJ.stop ?_
   by_cases We:80<a
   ·have hL:lZ (gw D3 gen a) 80 2 (0+2) (gu 1 name):=h6.congr fun j j1 j2=>by rw [hp] at j2; rw [g3 j (by omega),if_neg (by omega)]
    exact aas (by omega) (by omega) (by rw [hp]; decide) hL (by decide)
   ·exact AV fun h8=>by rw [g3 80 (by omega),if_pos (.inr (by omega))]
  obtain ⟨r1,r2,r3⟩:=AL hl (by omega) hr
  exact ⟨r3,r2,_,_,_,hl,rfl,r1⟩
theorem w4n (name:ByteArray) {gen a:Int} (h2:(lG name).now.length=100) (h:¬ (1≤gen∧80≤a∧a≤100)):xQ (lG name) gen a=2∧gw (lG name) gen a=lG name:=by
 have hQ:wq (lG name) gen a=false:=by
  unfold wq
  rw [h2]
  by_cases h1:gen<1
  ·rw [decide_eq_true h1]; rfl
  ·by_cases h3:a<80
   ·rw [decide_eq_true h3,Bool.or_true]; rfl
   ·rw [decide_eq_true (show ((100:Nat):Int)<a by omega),Bool.or_true]; rfl
 unfold xQ gw
 rw [hQ]
 exact ⟨if_neg (by decide),if_neg (by decide)⟩
end
end Go.Proofs.YtpchgbolambkcaaGreatDoor
end
section
set_option linter.unusedVariables false
set_option linter.unusedSimpArgs false
namespace Go.Proofs.YtpchgbolambkcaaGreatDoor
open Go Go.Ev
set_option maxRecDepth 20000
set_option linter.unusedVariables false
set_option maxHeartbeats 1000000
theorem SE {A:Type} (X:List A) (a b c:A):(X ++ [a,b] ++ [c])[X.length+2]? = some c:=by
 rw [List.getElem?_append_right (by simp)]; simp
theorem SF {A:Type} (X:List A) (a b c d:A):(X ++ [a,b] ++ [c]).set (X.length+2) d=X ++ [a,b,d]:=by
 rw [List.set_append_right _ _ (by simp)]; simp
section
variable {w0 w:World} {p m:Nat} {s:gB} {D:aU} {L:List aB}
theorem Rv (H:aq w0 [] w (cu p s D)) (hD:D.ok m) (root:ByteArray) (gen count:Int) {K:Value→World→Prop}
  (hk:∀ e s' w',aq w0 [] w' (cu p s' (dB D gen count (fN root)))→eR w' e (oE D gen count (fN root))→K e w') :
  ax Pr tu [.string root] w fun v w5=>ez v fun t0 t1 t2 t3 t4 t5=>ax Pr rW [.pointer (some ⟨p,0,none⟩),.int .i64 gen,.int .i64 count,.agg ⟨[.int .i64 t0,.slice t1.a t1.n t1.c,.slice t2.a t2.n t2.c,.slice t3.a t3.n t3.c,.slice t4.a t4.n t4.c,.slice t5.a t5.n t5.c]⟩] w5 fun v7 w6=>K v7 w6:=by
 refine aC (BZ root w) ?_
 rintro _ w5 hA
 obtain ⟨sT,rfl,lq⟩:=hA.boxed
 obtain ⟨f1,H⟩:=H.yK lq
 refine jT (aC (Ao H.sub hD gen count sT (fN root) (CM _) fun m=>(H.beside m).box 0 rfl) ?_)
 rintro e1 w6 ⟨s1,X⟩
 have H:=H.back X
 exact hk e1 s1 w6 H.front.front (H.front.err 5 rfl)
theorem loadT (H:aq w0 [] w (cu p s D ++ L)) (hD:D.ok m) {K:Int→Int→Addr→Value→World→Prop}
  (hk:∀ T f q e w',aq w0 [] w' (cu p s D ++ L ++ [.box f fun w=>bN w T ((dK D).getD jR).2.2,aB.err e (gD D),.av q (((dK D).getD jR).2.2.cs T) aA])→K ((dK D).getD jR).1 ((dK D).getD jR).2.1 ⟨q,0,none⟩ e w') :
  ax Pr qn [.pointer (some ⟨p,0,none⟩)] w fun v w7=>bU.bY v fun vs=>aD vs fun v1 r1=>aF .i64 v1 fun g=>aD r1 fun v2 r2=>aF .i64 v2 fun c=>aD r2 fun v3 r3=>ez v3 fun t0 t1 t2 t3 t4 t5=>aD r3 fun v4 r4=>
   (r4=[]∧nw aA (zc Pr aA) w7 fun q w8=>aV q t0 t1 t2 t3 t4 t5 w8 fun w9=>K g c q v4 w9):=by
 rw [lV]
 refine aC (I7 (mV H) hD) ?_
 rintro _ w2 ⟨T0,e0,f0,rfl,G⟩
 have H:=H.join G
 generalize (dK D).getD jR=r at *
 obtain ⟨a,b,t⟩:=r
 refine ⟨_,rfl,cr (cr (jT ⟨rfl,H.nw fun q w3 H _=>H.aV ((cu p s D ++ L).length+2) (SE _ _ _ _) rfl fun w4 H=>hk T0 f0 q e0 w4 ?_⟩))⟩
 have H:aq w0 [] w4 (((cu p s D ++ L ++ [aB.box f0 (fun w=>bN w T0 t),aB.err e0 (gD D)]) ++ [aB.av q (bK.cs sZ) aA]).set ((cu p s D ++ L).length+2) (aB.av q (t.cs T0) aA)):=H
 rw [SF] at H
 exact H
theorem Kj (H:aq w0 [] w (cu p s D ++ L)) (hg:Laid w) (hD:D.ok m) (hA:uT oO ir D) {K:Int→Int→Int→Addr→Value→World→Prop}
  (hk:∀ T f q e w',aq w0 [] w' (cu p s D ++ L ++ [.box f fun w=>bN w T (pn ir D).2.2.2,aB.err e (gD D),.av q ((pn ir D).2.2.2.cs T) aA])→K (pn ir D).1 (pn ir D).2.1 (pn ir D).2.2.1 ⟨q,0,none⟩ e w') :
  ax Pr xY [.pointer (some ⟨p,0,none⟩)] w fun v w7=>bU.bY v fun vs=>aD vs fun v1 r1=>aF .i64 v1 fun g=>aD r1 fun v2 r2=>aF .i64 v2 fun c=>aD r2 fun v2' r2'=>aF .i64 v2' fun a=>aD r2' fun v3 r3=>ez v3 fun t0 t1 t2 t3 t4 t5=>aD r3 fun v4 r4=>
   (r4=[]∧nw aA (zc Pr aA) w7 fun q w8=>aV q t0 t1 t2 t3 t4 t5 w8 fun w9=>K g c a q v4 w9):=by
 rw [lV]
 refine aC (Xo ZQ hg (mV H) hD hA) ?_
 rintro _ w2 ⟨T0,e0,f0,rfl,G⟩
 have H:=H.join G
 generalize pn ir D=r at *
 obtain ⟨a,b,c,t⟩:=r
 refine ⟨_,rfl,cr (cr (cr (jT ⟨rfl,H.nw fun q w3 H _=>H.aV ((cu p s D ++ L).length+2) (SE _ _ _ _) rfl fun w4 H=>hk T0 f0 q e0 w4 ?_⟩)))⟩
 have H:aq w0 [] w4 (((cu p s D ++ L ++ [aB.box f0 (fun w=>bN w T0 t),aB.err e0 (gD D)]) ++ [aB.av q (bK.cs sZ) aA]).set ((cu p s D ++ L).length+2) (aB.av q (t.cs T0) aA)):=H
 rw [SF] at H
 exact H
end
theorem ak0 {name:ByteArray} (h:decide (name=eO)=false):1≤ByteArray.size name:=by
 have h:=of_decide_eq_false h
 rcases Nat.eq_zero_or_pos (ByteArray.size name) with h0 | h0
 ·exfalso
  apply h
  obtain ⟨⟨l⟩⟩:=name
  have:l.length=0:=h0
  rw [List.length_eq_zero_iff] at this
  subst this; rfl
 ·exact h0
end Go.Proofs.YtpchgbolambkcaaGreatDoor
end
section
set_option linter.unusedVariables false
set_option linter.unusedSimpArgs false
namespace Go.Proofs.YtpchgbolambkcaaGreatDoor
open Go Go.Ev
set_option maxRecDepth 20000
set_option linter.unusedVariables false
theorem abf {D:aU} {m:Nat} (h:D.ok m) (gen a:Int):(gw D gen a).ok m:=by
 unfold gw
 split
 ·split
  ·exact FA (FA h _ _) _ _
  ·exact FA h _ _
 ·exact h
def jP (D:aU) (j:Int):List B8:=D.dI.getD j.toNat []
def gA (D:aU) (j:Int):Bool:=D.dQ.getD j.toNat false
theorem JW {A:Type} (l:List A) (i j:Nat) (a d:A) (h:i<l.length):(l.set i a).getD j d=if j=i then a else l.getD j d:=by
 rw [List.getD_eq_getElem?_getD,List.getElem?_set]
 by_cases e:j=i
 ·subst e; rw [if_pos rfl,if_pos h,if_pos rfl]; rfl
 ·rw [if_neg (fun h=>e h.symm),if_neg e,List.getD_eq_getElem?_getD]
section
variable {D:aU} {m:Nat}
theorem am6 (hD:D.ok m) {i:Nat} (hi:i<m) (k:Bool) (j:Int) (hj:0≤j) :
  aX (rM D i k) j=(if j=(i:Int) then (if k=true then aX D i else jP D i) else aX D j)∧jP (rM D i k) j=(if j=(i:Int)∧k=true then aX D i else jP D j)∧gA (rM D i k) j=(if j=(i:Int) then false else gA D j):=by
 have h1:=hD.now
 have h2:=hD.dI
 have h3:=hD.dQ
 have e:j.toNat=i↔j=(i:Int):=by omega
 unfold aX jP gA rM
 refine ⟨?_,?_,?_⟩
 ·show (D.now.set i _).getD j.toNat []=_
  rw [JW _ _ _ _ _ (by omega)]
  by_cases h:j=(i:Int)
  ·rw [if_pos (e.2 h),if_pos h]; rfl
  ·rw [if_neg (fun hx=>h (e.1 hx)),if_neg h]
 ·show (if k=true then D.dI.set i (D.now.getD i []) else D.dI).getD j.toNat []=_
  cases k with
  | true=>
   rw [if_pos rfl,JW _ _ _ _ _ (by omega)]
   by_cases h:j=(i:Int)
   ·rw [if_pos (e.2 h),if_pos ⟨h,rfl⟩]; rfl
   ·rw [if_neg (fun hx=>h (e.1 hx)),if_neg (fun hx=>h hx.1)]
  | false=>rw [if_neg (by decide),if_neg (fun hx=>by cases hx.2)]
 ·show (D.dQ.set i false).getD j.toNat false=_
  rw [JW _ _ _ _ _ (by omega)]
  by_cases h:j=(i:Int)
  ·rw [if_pos (e.2 h),if_pos h]
  ·rw [if_neg (fun hx=>h (e.1 hx)),if_neg h]
structure LF (is:List Int) (m:Nat):Prop where
 Wf:∀ q,q<is.length→0≤is.getD q 0∧is.getD q 0<(m:Int)
 lt:∀ q r,q<r→r<is.length→is.getD q 0<is.getD r 0
theorem abg (hD:D.ok m) (keep:List Bool) {is:List Int} (hi:LF is m):∀ k,k≤is.length→
  (mh D keep is k).ok m∧
  (∀ j,0≤j→(∀ q,q<k→is.getD q 0≠j)→aX (mh D keep is k) j=aX D j∧jP (mh D keep is k) j=jP D j∧gA (mh D keep is k) j=gA D j)∧
  ∀ q,q<k→aX (mh D keep is k) (is.getD q 0)=(if gR keep q=true then aX D (is.getD q 0) else jP D (is.getD q 0))∧jP (mh D keep is k) (is.getD q 0)=aX (mh D keep is k) (is.getD q 0)∧gA (mh D keep is k) (is.getD q 0)=false
 | 0,_=>⟨hD,fun j _ _=>⟨rfl,rfl,rfl⟩,fun q hq=>by omega⟩
 | k+1,hk=>by
  obtain ⟨ih0,ih1,ih2⟩:=abg hD keep hi k (by omega)
  have hr:=hi.Wf k (by omega)
  obtain ⟨i,he⟩:∃ i:Nat,is.getD k 0=(i:Int):=⟨(is.getD k 0).toNat,by omega⟩
  have hE:mh D keep is (k+1)=rM (mh D keep is k) i (gR keep k):=by
   show rM (mh D keep is k) (is.getD k 0).toNat (gR keep k)=_
   rw [he,Int.toNat_natCast]
  have gp:∀ q,q<k→is.getD q 0≠(i:Int):=fun q hq=>by have:=hi.lt q k hq (by omega); omega
  rw [hE]
  have Wg:=fun j hj=>am6 ih0 (i:=i) (by omega) (gR keep k) j hj
  refine ⟨aaZ ih0 _ (by omega) _,fun j hj h=>?_,fun q hq=>?_⟩
  ·obtain ⟨g1,g2,g3⟩:=Wg j hj
   have sP:j≠(i:Int):=fun e=>h k (by omega) (by rw [he,e])
   obtain ⟨f1,f2,f3⟩:=ih1 j hj fun q hq=>h q (by omega)
   rw [g1,g2,g3,if_neg sP,if_neg (fun h=>sP h.1),if_neg sP]
   exact ⟨f1,f2,f3⟩
  ·rcases Nat.lt_or_ge q k with cI | kW
   ·obtain ⟨g1,g2,g3⟩:=Wg (is.getD q 0) (hi.Wf q (by omega)).1
    rw [g1,g2,g3,if_neg (gp q cI),if_neg (show ¬ (is.getD q 0=(i:Int)∧gR keep k=true) from fun h=>gp q cI h.1),if_neg (gp q cI)]
    exact ih2 q cI
   ·obtain rfl:q=k:=by omega
    obtain ⟨g1,g2,g3⟩:=Wg (i:Int) (by omega)
    obtain ⟨f1,f2,f3⟩:=ih1 (i:Int) (by omega) gp
    rw [he,g1,g2,g3,if_pos rfl,if_pos rfl,f1,f2]
    refine ⟨rfl,?_,rfl⟩
    cases gR keep q with
    | true=>rw [if_pos ⟨rfl,rfl⟩,if_pos rfl]
    | false=>rw [if_neg (fun h=>by cases h.2),if_neg (by decide)]
theorem aat (l:List Bool) (k:Nat):LF (iM l k) k:=by
 have hp:(iM l k).Pairwise (·<·):=by
  unfold iM
  rw [List.pairwise_map]
  refine List.Pairwise.imp (fun h=>Int.ofNat_lt.2 h) (List.Pairwise.filter _ List.pairwise_lt_range)
 refine ⟨fun q hq=>?_,fun q r UO hr=>?_⟩
 ·obtain ⟨i,e,hi,_⟩:=Ke (wU (l:=iM l k) (d:=0) hq)
  omega
 ·have:=List.pairwise_iff_getElem.1 hp q r (by omega) hr UO
  rw [List.getD_eq_getElem?_getD,List.getElem?_eq_getElem (by omega),List.getD_eq_getElem?_getD,List.getElem?_eq_getElem hr]
  exact this
theorem abh {l:List Bool} {k i:Nat} (h:i<k) (hd:l.getD i false=true):∃ q,q<(iM l k).length∧(iM l k).getD q 0=(i:Int):=by
 have hm:(i:Int)∈iM l k:=by
  unfold iM
  exact List.mem_map.2 ⟨i,List.mem_filter.2 ⟨List.mem_range.2 h,hd⟩,rfl⟩
 obtain ⟨q,hq,e⟩:=List.getElem_of_mem hm
 exact ⟨q,hq,by rw [List.getD_eq_getElem?_getD,List.getElem?_eq_getElem hq]; exact e⟩
def dZ (D:aU):List Int:=iM D.dQ D.now.length
def Cons (D:aU):Prop:=∀ j,0≤j→j<(D.now.length:Int)→gA D j=false→jP D j=aX D j
theorem sw (hD:D.ok m) (keep:List Bool):(eE D keep).ok m∧
  (∀ j,0≤j→j<(m:Int)→gA D j=false→aX (eE D keep) j=aX D j∧jP (eE D keep) j=jP D j)∧
  (∀ q,q<(dZ D).length→aX (eE D keep) ((dZ D).getD q 0)=(if gR keep q=true then aX D ((dZ D).getD q 0) else jP D ((dZ D).getD q 0))∧jP (eE D keep) ((dZ D).getD q 0)=aX (eE D keep) ((dZ D).getD q 0))∧
  ∀ j,0≤j→j<(m:Int)→gA (eE D keep) j=false:=by
 have hn:=hD.now
 have hi:LF (dZ D) m:=by unfold dZ; rw [hn]; exact aat _ _
 obtain ⟨h0,h1,h2⟩:=abg hD keep hi _ (Nat.le_refl _)
 have hE:mh D keep (dZ D) (dZ D).length=eE D keep:=rfl
 rw [hE] at h0 h1 h2
 have jE:∀ j,0≤j→j<(m:Int)→gA D j=false→∀ q,q<(dZ D).length→(dZ D).getD q 0≠j:=by
  intro j hj hm hd q hq e
  obtain ⟨i,e2,_,hdi⟩:=Ke (wU (l:=dZ D) (d:=0) hq)
  rw [e] at e2
  unfold gA at hd
  rw [e2,Int.toNat_natCast,hdi] at hd
  cases hd
 refine ⟨h0,fun j hj hm hd=>?_,fun q hq=>⟨(h2 q hq).1,(h2 q hq).2.1⟩,fun j hj hm=>?_⟩
 ·obtain ⟨g1,g2,_⟩:=h1 j hj (jE j hj hm hd)
  exact ⟨g1,g2⟩
 ·cases hd:gA D j with
  | false=>rw [(h1 j hj (jE j hj hm hd)).2.2]; exact hd
  | true=>
   obtain ⟨q,hq,e⟩:=abh (l:=D.dQ) (k:=D.now.length) (i:=j.toNat) (by omega) hd
   have:=(h2 q hq).2.2
   have e:(dZ D).getD q 0=j:=by unfold dZ; rw [e]; omega
   rwa [e] at this
theorem yM (hD:D.ok m) {j:Int} (hj:0≤j∧j<(m:Int)) (hd:gA D j=true):∃ q,q<(dZ D).length∧(dZ D).getD q 0=j:=by
 have hn:=hD.now
 obtain ⟨q,hq,e⟩:=abh (l:=D.dQ) (k:=D.now.length) (i:=j.toNat) (by omega) hd
 exact ⟨q,hq,by unfold dZ; rw [e]; omega⟩
theorem R5 (hD:D.ok m) (hc:Cons D) (keep:List Bool):∀ j,0≤j→j<(m:Int)→jP (eE D keep) j=aX (eE D keep) j:=by
 have hn:=hD.now
 obtain ⟨h0,h1,h2,h3⟩:=sw hD keep
 intro j hj hm
 cases hd:gA D j with
 | false=>
  obtain ⟨g1,g2⟩:=h1 j hj hm hd
  rw [g1,g2]
  exact hc j hj (by omega) hd
 | true=>
  obtain ⟨q,hq,e⟩:=yM hD ⟨hj,hm⟩ hd
  have:=(h2 q hq).2
  rwa [e] at this
theorem AG (hD:D.ok m) (keep:List Bool):(eE D keep).now.length=D.now.length:=by rw [(sw hD keep).1.now,hD.now]
theorem ak1 (q:Nat):gR [true] q=true:=by
 unfold gR
 rw [show q % ([true]:List Bool).length=0 from Nat.mod_one q]; rfl
theorem R6 (hD:D.ok m) (j:Int) (hj:0≤j) (hm:j<(m:Int)):aX (eE D [true]) j=aX D j:=by
 obtain ⟨h0,h1,h2,h3⟩:=sw hD [true]
 cases hd:gA D j with
 | false=>exact (h1 j hj hm hd).1
 | true=>
  obtain ⟨q,hq,e⟩:=yM hD ⟨hj,hm⟩ hd
  have:=(h2 q hq).1
  rw [e,if_pos (ak1 q)] at this
  exact this
theorem am7 (hD:D.ok m) (keep:List Bool) (j:Int) (hj:0≤j∧j<(m:Int)):aX (eE D keep) j=aX D j∨(gA D j=true∧aX (eE D keep) j=jP D j):=by
 obtain ⟨h0,h1,h2,h3⟩:=sw hD keep
 cases hd:gA D j with
 | false=>exact .inl (h1 j hj.1 hj.2 hd).1
 | true=>
  obtain ⟨q,hq,e⟩:=yM hD hj hd
  have:=(h2 q hq).1
  rw [e] at this
  rw [this]
  cases gR keep q with
  | true=>exact .inl (if_pos rfl)
  | false=>exact .inr ⟨rfl,if_neg (by decide)⟩
theorem ZR (keep:List Bool):∀ k,lU keep k=k→∀ q,q<k→gR keep q=true
 | 0,_,q,hq=>by omega
 | k+1,h,q,hq=>by
  have hle:=KC keep k
  have h:lU keep k+(if gR keep k=true then 1 else 0)=k+1:=h
  split at h
  ·rename_i hk
   rcases Nat.lt_or_ge q k with h2 | h2
   ·exact ZR keep k (by omega) q h2
   ·rw [show q=k by omega]; exact hk
  ·omega
theorem ZS (keep:List Bool):∀ k,lU keep k=0→∀ q,q<k→gR keep q=false
 | 0,_,q,hq=>by omega
 | k+1,h,q,hq=>by
  have h:lU keep k+(if gR keep k=true then 1 else 0)=0:=h
  split at h
  ·omega
  ·rename_i hk
   rcases Nat.lt_or_ge q k with h2 | h2
   ·exact ZS keep k (by omega) q h2
   ·rw [show q=k by omega]; simpa using hk
theorem ak2 (hD:D.ok m) (keep:List Bool) (h:lU keep (dZ D).length=(dZ D).length) (j:Int) (hj:0≤j∧j<(m:Int)):aX (eE D keep) j=aX D j:=by
 obtain ⟨h0,h1,h2,h3⟩:=sw hD keep
 cases hd:gA D j with
 | false=>exact (h1 j hj.1 hj.2 hd).1
 | true=>
  obtain ⟨q,hq,e⟩:=yM hD hj hd
  have:=(h2 q hq).1
  rwa [e,if_pos (ZR keep _ h q hq)] at this
theorem ak3 (hD:D.ok m) (keep:List Bool) (h:lU keep (dZ D).length=0) (j:Int) (hj:0≤j∧j<(m:Int)) (hd:gA D j=true):aX (eE D keep) j=jP D j:=by
 obtain ⟨h0,h1,h2,h3⟩:=sw hD keep
 obtain ⟨q,hq,e⟩:=yM hD hj hd
 have:=(h2 q hq).1
 rwa [e,if_neg (by rw [ZS keep _ h q hq]; decide)] at this
theorem am8 (hD:D.ok m) {i:Int} {l:List B8} (hi:0≤i∧i<(D.now.length:Int)) (hl:l.length=512) (j:Int) (hj:0≤j):jP (lT D i l) j=jP D j∧gA (lT D i l) j=if j=i then true else gA D j:=by
 have hc:qJ D i l=0:=by unfold qJ gU; rw [if_pos hi,if_pos rfl,if_pos hl]
 have hd:=hD.dQ
 have hn:=hD.now
 unfold lT jP gA
 rw [if_pos hc]
 refine ⟨rfl,?_⟩
 show (D.dQ.set i.toNat true).getD j.toNat false=_
 rw [JW _ _ _ _ _ (by omega)]
 by_cases h:j=i
 ·rw [if_pos (by omega),if_pos h]
 ·rw [if_neg (by omega),if_neg h]
theorem abi (hD:D.ok m) {a gen number:Int} {n:Nat} {b:List B8} (ha:0≤a):∀ (k:Nat),a+(k:Int)≤(D.now.length:Int)→∀ j:Int,0≤j→jP (rN D a gen number n b k) j=jP D j∧gA (rN D a gen number n b k) j=if a≤j∧j<a+(k:Int) then true else gA D j
 | 0,_,j,hj=>by rw [if_neg (by omega)]; exact ⟨rfl,rfl⟩
 | k+1,hk,j,hj=>by
  obtain ⟨i1,i2⟩:=abi hD (gen:=gen) (number:=number) (n:=n) (b:=b) ha k (by omega) j hj
  obtain ⟨g1,g2⟩:=am8 (Fy hD a gen number n b k) (i:=a+(k:Int)) (l:=jO gen number (k:Int) (n:Int) (iy b k)) (by rw [Kg]; omega) (RY _ _ _ _ _ (Fh b k)) j hj
  show jP (lT (rN D a gen number n b k) (a+(k:Int)) (jO gen number (k:Int) (n:Int) (iy b k))) j=_∧gA (lT (rN D a gen number n b k) (a+(k:Int)) (jO gen number (k:Int) (n:Int) (iy b k))) j=_
  rw [g1,g2,i1,i2]
  refine ⟨rfl,?_⟩
  by_cases h:j=a+(k:Int)
  ·rw [if_pos h,if_pos (by omega)]
  ·rw [if_neg h]
   by_cases h2:a≤j∧j<a+(k:Int)
   ·rw [if_pos h2,if_pos (by omega)]
   ·rw [if_neg h2,if_neg (by omega)]
theorem Tr (hD:D.ok m) {a e gen number:Int} {b:List B8} (h:iz D a e gen number b=0) (j:Int) (hj:0≤j):jP (fM D a e gen number b) j=jP D j∧gA (fM D a e gen number b) j=if a≤j∧j<a+(bM b.length:Int) then true else gA D j:=by
 obtain ⟨h1,h2,h3,h4,h5⟩:=CK h
 unfold fM
 rw [if_pos h]
 exact abi hD h1.1 _ (by omega) j hj
theorem abj (hD:D.ok m) {a e gen number:Int} {b:List B8} (h:iz D a e gen number b=0) (j:Int) (hj:0≤j) (ho:¬ (a≤j∧j<a+(bM b.length:Int))):aX (fM D a e gen number b) j=aX D j:=by
 obtain ⟨h1,h2,h3,h4,h5⟩:=CK h
 unfold fM
 rw [if_pos h,FC hD h1.1 _ (by omega) _ hj,if_neg ho]
theorem SG (hD:D.ok m) (hc:Cons D) {a e gen number:Int} {b:List B8} (h:iz D a e gen number b=0):Cons (fM D a e gen number b):=by
 intro j hj hm hd
 obtain ⟨g1,g2⟩:=Tr hD h j hj
 rw [AF] at hm
 rw [g2] at hd
 split at hd
 ·cases hd
 ·rename_i ho
  rw [g1,abj hD h j hj ho]
  exact hc j hj hm hd
end
theorem ZT (n:Nat):Cons (cX n):=by
 intro j hj hm _
 rw [CL] at hm
 unfold jP aX cX
 rfl
end Go.Proofs.YtpchgbolambkcaaGreatDoor
end
section
set_option linter.unusedVariables false
set_option linter.unusedSimpArgs false
namespace Go.Proofs.YtpchgbolambkcaaGreatDoor
open Go Go.Ev
set_option maxRecDepth 20000
set_option linter.unusedVariables false
set_option maxHeartbeats 1000000
theorem ak4 (gen a:Int) (w:World):Ok Pr Co [.pointer none,.int .i64 gen,.int .i64 a] w fun v w'=>gy w w' v 1∧Mod [] w w':=by
 refine Xn ?_
 unfold Jq
 exact iB fun go bX=>ite_true rfl (aC (EA 1 (by omega) w) fun v w' h=>h)
theorem ait (gen a:Int) (name:ByteArray) (hI:-9223372036854775808≤gen∧gen≤9223372036854775807) (w:World) (hg:Laid w) :
  Ok Pr WK [.int .i64 gen,.int .i64 a,.string name] w fun v w'=>v=.bool true∧Mod [] w w':=by
 refine aeJ ?_
 unfold Nr
 have jV:∀ {w':World} {L:List aB},aq w [] w' L→ax Pr jG [] w' fun v w1=>aQ v fun t=>(fun (v:Value) (w':World)=>v=.bool true∧Mod [] w w') (.bool t) w1:=by
  intro w' L H
  refine aC (B0 w' (hg.gS H (by simp))) ?_
  rintro _ w2 ⟨rfl,m⟩
  exact bh ⟨rfl,H.mod.trans m⟩
 refine cN (fun _=>jV (aq.start w)) fun hc=>?_
 rw [Bool.or_eq_false_iff] at hc
 have pN:=ak0 hc.2
 have zy:=of_decide_eq_false hc.1
 have hn:1≤ByteArray.size name∧ByteArray.size name≤200:=⟨pN,by omega⟩
 obtain ⟨a1,a2,a3,a4,a5,a6,a7,a8,a9⟩:=dO
 obtain ⟨b1,b2,b3,b4,b5,b6,b7,b8⟩:=w3 hn
 have wp:=fun hg ha=>w4 hn (gen:=gen) (a:=a) hg ha
 have wn:=w4n name (gen:=gen) (a:=a) b3
 have UT:gD (lG name)=0:=by unfold gD; rw [b4]; rfl
 refine aC (Cn 100 (by omega) (by omega) w) ?_
 rintro _ w1 ⟨p,s,rfl,H⟩
 have hD:=vA 100 (by omega)
 refine yR (iB fun go bX=>ite_false rfl ?_)
 refine Rv H hD fY 1 0 fun e1 s1 w2 H HN=>?_
 rw [a1] at HN
 refine HN.isNil (ite_false rfl ?_)
 have H:aq w [] w2 (cu p s1 xU):=H
 refine Rv H a2 kC 2 0 fun e2 s2 w3 H l9=>?_
 rw [a3] at l9
 have H:aq w [] w3 (cu p s2 oF):=H
 refine l9.isNil (ite_false rfl (bX w3 ?_))
 refine aC (IP 1 name w3) ?_
 rintro _ w4 ⟨rfl,m4⟩
 have H:=H.frame m4
 refine wC (aC (IN H a4 80 2 0 ⟨by omega,by omega⟩ (jy 1 name) ⟨none,0,0⟩ [] [] [] (by show ByteArray.size name≤_; omega) (by simp) (by simp) (by simp) fun m=>⟨Bytes.nil _,Bytes.nil _,Bytes.nil _⟩) ?_)
 rintro _ w5 ⟨s3,e3,rfl,H⟩
 have e3D:fM oF 80 (oF.now.length:Int) 2 (0+2) (iA (jy 1 name) [] [] [])=lG name:=rfl
 have Wh:iz oF 80 (oF.now.length:Int) 2 (0+2) (iA (jy 1 name) [] [] [])=0:=b1
 rw [e3D,Wh] at H
 rw [Wh]
 have wv:eR w5 e3 0:=H.err 5 rfl
 refine ⟨_,rfl,cr ⟨rfl,wv.isNil (ite_false rfl ?_)⟩⟩
 have fa:=BZ fY
 have fb:=BZ kC
 have sa:=CM fY
 have sb:=CM kC
 clear hc a1 a2 a3 a4 a5 a6 a7 a8 a9 b1 b5 b6 b7 b8 e3D Wh
 generalize fN fY=TA at *
 generalize fN kC=TB at *
 generalize lG name=D3 at *
 refine aC (XR H.front b2 gen a) ?_
 rintro e4 w6 ⟨s4,H⟩
 refine Tq ?_
 by_cases hm:1≤gen∧80≤a∧a≤100
 case neg=>
  obtain ⟨c1,c2⟩:=wn hm
  rw [c1,c2] at H
  refine ite_true ?_ ?_
  ·show (!((decide (1≤gen) && decide (80≤a)) && decide (a≤100)))=true
   by_cases h1:1≤gen
   ·by_cases h2:80≤a
    ·rw [decide_eq_false (show ¬ a≤100 by omega),Bool.and_false]; rfl
    ·rw [decide_eq_false h2,Bool.and_false]; rfl
   ·rw [decide_eq_false h1]; rfl
  refine loadT (L:=[aB.err e4 2]) H b2 fun T f q e5 w7 H=>?_
  rw [b4,UT] at H
  have H:aq w [] w7 [.av p (pV s4) oI,.row bp 1 s4.nw (s4.xs.map ah.v),.row bp 1 s4.fm (s4.ys.map ah.v),.row jA 1 s4.dt (iC D3.dQ),.box s4.fp fun w=>br fo w s4.xs D3.now∧br fo w s4.ys D3.dI,aB.err e4 2,.box f fun w=>bN w T TB,aB.err e5 0,.av q (TB.cs T) aA]:=H
  refine aC (B9 e4 2 w7 (hg.gS H (by simp)) (H.err 5 rfl)) ?_
  rintro _ w8 ⟨rfl,m8⟩
  have H:=H.frame m8
  have he5:eR w8 e5 0:=H.err 7 rfl
  refine cr (ite_true rfl (he5.isNil (ite_true (by rw [b4]; rfl) ?_)))
  refine aC (ak4 1 80 w8) ?_
  rintro e6 w9 ⟨he6,m9⟩
  have H:=H.frame m9
  refine aC (B9 e6 1 w9 (hg.gS H (by simp)) he6.1) ?_
  rintro _ dN ⟨rfl,xP⟩
  exact cr (ite_true rfl (jV (H.frame xP)))
 obtain ⟨c1,c2,c3,T,at_,U,c4,c5,c6⟩:=wp ⟨hm.1,hI.2⟩ hm.2
 have DN:=abf b2 gen a
 rw [c1] at H
 generalize gw D3 gen a=D4 at *
 refine ite_false ?_ ?_
 ·show (!((decide (1≤gen) && decide (80≤a)) && decide (a≤100)))=false
  rw [decide_eq_true hm.1,decide_eq_true hm.2.1,decide_eq_true hm.2.2]; rfl
 refine loadT (L:=[aB.err e4 0]) H DN fun T1 f1 q1 e5 w7 H=>?_
 rw [c4,c2] at H
 rw [c4]
 have H:aq w [] w7 (cu p s4 D4 ++ [aB.err e4 0,.box f1 fun w=>bN w T1 T,aB.err e5 0,.av q1 (T.cs T1) aA]):=H
 refine Kj (L:=[aB.err e4 0,.box f1 fun w=>bN w T1 T,aB.err e5 0,.av q1 (T.cs T1) aA]) H (hg.gS H (by simp)) DN c3 fun T2 f2 q2 e6 w8 H=>?_
 rw [c6,c2] at H
 rw [c6]
 have H:aq w [] w8 [.av p (pV s4) oI,.row bp 1 s4.nw (s4.xs.map ah.v),.row bp 1 s4.fm (s4.ys.map ah.v),.row jA 1 s4.dt (iC D4.dQ),.box s4.fp fun w=>br fo w s4.xs D4.now∧br fo w s4.ys D4.dI,aB.err e4 0,.box f1 fun w=>bN w T1 T,aB.err e5 0,.av q1 (T.cs T1) aA,.box f2 fun w=>bN w T2 U,aB.err e6 0,.av q2 (U.cs T2) aA]:=H
 rw [lV]
 refine aC (fa w8) ?_
 rintro _ w9 hA
 obtain ⟨sA,rfl,lq⟩:=hA.boxed
 obtain ⟨f3,H⟩:=H.yK lq
 refine jT (H.nw fun q3 dN H _=>H.aV 13 rfl rfl fun fZ H=>iB fun iH fH=>⟨by omega,?_⟩)
 have hsT:T.small:=by rw [c5]; split <;> assumption
 have fin:∀ {dO:World} {sX:cL} {fX:List Nat} {M:List aB},aq w [] dO ([.av p (pV s4) oI,.row bp 1 s4.nw (s4.xs.map ah.v),.row bp 1 s4.fm (s4.ys.map ah.v),.row jA 1 s4.dt (iC D4.dQ),.box s4.fp fun w=>br fo w s4.xs D4.now∧br fo w s4.ys D4.dI,aB.err e4 0,.box f1 fun w=>bN w T1 T,aB.err e5 0,.av q1 (T.cs T1) aA,.box f2 fun w=>bN w T2 U,aB.err e6 0,.av q2 (U.cs T2) aA,.av q3 (T.cs sX) aA,.box fX fun w=>bN w sX T] ++ M)→iH dO:=by
  intro dO sX fX M H
  refine fH dO (gm fun go2 ku=>⟨by omega,?_⟩)
  have last:∀ many:Int,many=(if gen % 2=0∧80<a then 1 else 0)→go2 many dO:=by
   intro many em
   refine ku many dO ((H.err 5 rfl:eR dO e4 0).isNil (ite_true rfl ((H.err 7 rfl:eR dO e5 0).isNil (ite_true rfl ((H.err 10 rfl:eR dO e6 0).isNil (H.aG 8 rfl (H.aG 12 rfl (ite_true ?_ ?_))))))))
   ·have hq:=Int.tmod_eq_emod_of_nonneg (a:=gen) (b:=2) (by omega)
    show (decide ((0:Int)=0) && decide (2 - gen % 2=IntKind.wrap .i64 (2 - Int.tmod gen 2)))=true
    rw [hq,wrap_i64 (by omega) (by omega)]; simp
   refine aC (wA T1 sX T hsT dO (H.box 6 rfl) (H.box 13 rfl)) ?_
   rintro _ gH ⟨rfl,BP⟩
   refine bh (ite_true ?_ (jV (H.frame BP)))
   show (true && decide ((if gen % 2=0∧80<a then (1:Int) else 0)=many))=true
   rw [em,decide_eq_true rfl]; rfl
  refine cN (fun hc=>last 1 ?_) fun hc=>last 0 ?_
  ·simp only [Bool.and_eq_true,decide_eq_true_eq] at hc
   rw [if_pos hc]
  ·rw [if_neg]
   intro h
   rw [decide_eq_true h.1,decide_eq_true h.2] at hc
   cases hc
 have Hz:=H
 refine cN (fun he=>?_) fun ho=>?_
 ·have he:=of_decide_eq_true he
  rw [if_pos he] at c5
  subst c5
  refine aC (fb fZ) ?_
  rintro _ dO hA
  obtain ⟨sB,rfl,lq⟩:=hA.boxed
  obtain ⟨f4,H⟩:=Hz.yK lq
  refine jT (H.aV 13 rfl rfl fun gH H=>?_)
  exact fin (M:=[.box f3 fun w=>bN w sA TA]) (H.eu [0,1,2,3,4,5,6,7,8,9,10,11,13,14,12] (by decide) rfl)
 ·have ho:=of_decide_eq_false ho
  rw [if_neg ho] at c5
  subst c5
  exact fin (M:=[]) (Hz.eu [0,1,2,3,4,5,6,7,8,9,10,11,13,12] (by decide) rfl)
end Go.Proofs.YtpchgbolambkcaaGreatDoor
end
section
set_option linter.unusedVariables false
set_option linter.unusedSimpArgs false
namespace Go.Proofs.YtpchgbolambkcaaGreatDoor
open Go Go.Ev
set_option maxRecDepth 20000
set_option linter.unusedVariables false
theorem ZU (gen:Int):cR (gen+1)=bC gen∧bC (gen+1)=cR gen:=by unfold cR bC; omega
def xo (gen c:Int) (A:aJ):aU:=dB (cX 90) gen c A
def HO (gen c:Int) (A:aJ):aU:=eE (xo gen c A) [true]
def nh (gen c:Int) (A B:aJ):aU:=dB (HO gen c A) (gen+1) (c+1) B
theorem Gp {gen c:Int} {A B:aJ} (hg:1≤gen∧gen≤9) (hc:0≤c∧c≤9) (hA:oS A) (hB:oS B) (nA:nD A) (nB:nD B) (keep:List Bool) :
  oE (cX 90) gen c A=0∧(xo gen c A).ok 90∧(HO gen c A).ok 90∧oE (HO gen c A) (gen+1) (c+1) B=0∧(nh gen c A B).ok 90∧(eE (nh gen c A B) keep).ok 90∧1≤(dZ (nh gen c A B)).length∧
  (dK (eE (nh gen c A B) keep)=some (gen+1,c+1,B)∨dK (eE (nh gen c A B) keep)=some (gen,c,A))∧
  (lU keep (dZ (nh gen c A B)).length=(dZ (nh gen c A B)).length→dK (eE (nh gen c A B) keep)=some (gen+1,c+1,B))∧
  (lU keep (dZ (nh gen c A B)).length=0→dK (eE (nh gen c A B) keep)=some (gen,c,A)):=by
 have hD:=vA 90 (by decide)
 have hn:=CL 90
 have h90:((90:Nat):Int)=90:=rfl
 obtain ⟨h1,h2,h3⟩:=Dr (D:=cX 90) hA hg.1 ⟨hc.1,by omega⟩ (by omega)
 have h4:cQ (xo gen c A) (bC gen)=some (gen,c,A):=C3 hD hA nA ⟨hg.1,by omega⟩ ⟨hc.1,by omega⟩ (by omega)
 have hr:=qu gen
 obtain ⟨DO,LG⟩:=ZU gen
 unfold nh HO
 have e1:xo gen c A=fM (cX 90) (bC gen) (bC gen+40) gen (c+1) (fC A):=h2
 have BQ:(xo gen c A).ok 90:=by rw [e1]; exact AK hD _ _ _ _ _
 have cn1:Cons (xo gen c A):=by rw [e1]; exact SG hD (ZT 90) h3
 have bl1:∀ j,0≤j→j<90→(j<bC gen∨bC gen+40≤j)→aX (xo gen c A) j=fI:=fun j j1 j2 j3=>by rw [e1,JV hD j j1 j3]; exact tL 90 j ⟨j1,by omega⟩
 generalize xo gen c A=D1 at *
 have okF:=(sw BQ [true]).1
 have drF:=(sw BQ [true]).2.2.2
 have frF:=R5 BQ cn1 [true]
 have blF:=R6 BQ
 have lnF:=AG BQ [true]
 have n1:=BQ.now
 generalize eE D1 [true]=F at *
 have h5:cQ F (bC gen)=some (gen,c,A):=by rw [tC lnF fun j j1 j2=>blF j (by omega) (by omega)]; exact h4
 obtain ⟨g1,g2,g3⟩:=Dr (D:=F) (gen:=gen+1) (count:=c+1) hB (by omega) ⟨by omega,by omega⟩ (by omega)
 have rQ:(dB F (gen+1) (c+1) B).ok 90:=by rw [g2]; exact AK okF _ _ _ _ _
 have fd:=fun j hj=>Tr okF g3 j hj
 have ot:=fun j hj=>abj okF g3 j hj
 have li:=Kh okF g3
 have LH:=AF F (bC (gen+1)) (bC (gen+1)+40) (gen+1) (c+1+1) (fC B)
 rw [← g2] at fd ot li LH
 rw [LG] at fd ot li
 obtain ⟨_,_,_,p1,p2⟩:=CK g3
 have hp:=Fp p1
 generalize dB F (gen+1) (c+1) B=D2 at *
 obtain ⟨Wi,-,-,-⟩:=sw rQ keep
 have n2:=rQ.now
 have ln3:=AG rQ keep
 have cor:=fun j hj=>am7 rQ keep j hj
 have old:cQ (eE D2 keep) (bC gen)=some (gen,c,A):=by
  rw [← h5]
  refine tC (by omega) fun j j1 j2=>?_
  obtain ⟨f1,f2⟩:=fd j (by omega)
  rw [if_neg (by omega),drF j (by omega) (by omega)] at f2
  rcases cor j ⟨by omega,by omega⟩ with e | ⟨e,_⟩
  ·rw [e]; exact ot j (by omega) (by omega)
  ·rw [f2] at e; cases e
 have zF:∀ j,cR gen≤j→j<cR gen+40→jP D2 j=fI:=fun j j1 j2=>by
  rw [(fd j (by omega)).1,frF j (by omega) (by omega),blF j (by omega) (by omega)]
  exact bl1 j (by omega) (by omega) (by omega)
 have abk:gA D2 (cR gen)=true:=by
  have:=(fd (cR gen) (by omega)).2
  rwa [if_pos (by omega)] at this
 have Gp:=akU (D:=eE D2 keep) (gen:=gen+1) (count:=c+1) hB nB (by omega) (by omega) (by omega) fun k hk=>by
  rw [LG]
  rcases cor (cR gen+(k:Int)) ⟨by omega,by omega⟩ with e | ⟨_,e⟩
  ·rw [e]; exact .inl (li k hk)
  ·rw [e]; exact .inr (zF _ (by omega) (by omega))
 rw [LG] at Gp
 have yes:cQ (eE D2 keep) (cR gen)=some (gen+1,c+1,B)→dK (eE D2 keep)=some (gen+1,c+1,B):=fun h=>
  CU (g:=gen+1) (by rw [LG]; exact h) (.inr ⟨_,by rw [DO]; exact old,by show gen<gen+1; omega⟩)
 have no:cQ (eE D2 keep) (cR gen)=none→dK (eE D2 keep)=some (gen,c,A):=fun h=>CU (g:=gen) old (.inl h)
 refine ⟨h1,BQ,okF,g1,rQ,Wi,?_,?_,fun hk=>yes ?_,fun hk=>no ?_⟩
 ·obtain ⟨q,hq,_⟩:=yM rQ (j:=cR gen) ⟨by omega,by omega⟩ abk
  omega
 ·rcases Gp with ⟨_,h⟩ | ⟨_,h⟩
  ·exact .inl (yes h)
  ·exact .inr (no h)
 ·rcases Gp with ⟨_,h⟩ | ⟨h,_⟩
  ·exact h
  ·exfalso
   apply h
   intro k pS
   rw [ak2 rQ keep hk _ ⟨by omega,by omega⟩]
   exact li k pS
 ·refine sv ?_
  rw [ak3 rQ keep hk (cR gen) ⟨by omega,by omega⟩ abk,zF _ (by omega) (by omega)]
  exact rj
end Go.Proofs.YtpchgbolambkcaaGreatDoor
end
section
set_option linter.unusedVariables false
set_option linter.unusedSimpArgs false
namespace Go.Proofs.YtpchgbolambkcaaGreatDoor
open Go Go.Ev
set_option maxRecDepth 20000
set_option linter.unusedVariables false
set_option maxHeartbeats 1000000
theorem aiP (sA sB:cL) (A B:aJ) (gen count:Int) (xk:ah) (keep:List Bool) (w:World) (hg:Laid w) (hA:bN w sA A) (hB:bN w sB B) (fA:∀ g∈A.cM,g.fit) (fB:∀ g∈B.cM,g.fit) (nA:nD A) (nB:nD B) (hk:yY w xk keep) :
  Ok Pr WO [.agg ⟨A.cs sA⟩,.agg ⟨B.cs sB⟩,.int .i64 gen,.int .i64 count,.slice xk.a xk.n xk.c] w fun v w'=>v=.bool true∧Mod [] w w':=by
 refine aeZ ?_
 unfold Ny
 have jV:∀ {w':World} {L:List aB},aq w [] w' L→ax Pr jG [] w' fun v w1=>aQ v fun t=>(fun (v:Value) (w':World)=>v=.bool true∧Mod [] w w') (.bool t) w1:=by
  intro w' L H
  refine aC (B0 w' (hg.gS H (by simp))) ?_
  rintro _ w2 ⟨rfl,m⟩
  exact bh ⟨rfl,H.mod.trans m⟩
 have bR:=hk.len
 refine (aq.start w).nw fun p w1 H _=>H.nw fun p1 w2 H _=>?_
 have H:aq w [] w2 [.av p (A.cs sA) aA,.av p1 (B.cs sB) aA]:=H
 refine iB fun go bX=>?_
 have main:∀ {w3:World},aq w [] w3 [.av p (A.cs sA) aA,.av p1 (B.cs sB) aA]→A.small→B.small→oS A→oS B→go w3:=by
  intro w3 H HP HQ mA mB
  refine bX w3 (aC (yw gen 9 (by omega) (by omega) w3) ?_)
  rintro _ w4 ⟨rfl,e4⟩
  rw [e4]
  have uN:=AI (x:=gen) (n:=9) (by omega)
  refine cr ⟨by unfold aH; omega,aC (yw count 9 (by omega) (by omega) w3) ?_⟩
  rintro _ w5 ⟨rfl,e5⟩
  rw [e5]
  have vX:=AI (x:=count) (n:=9) (by omega)
  obtain ⟨a1,a2,a3,a4,a5,a6,a7,a8,a9,LC⟩:=Gp (gen:=1+(low gen 9:Int)) (c:=(low count 9:Int)) (A:=A) (B:=B) ⟨by omega,by omega⟩ ⟨by omega,by omega⟩ mA mB nA nB keep
  have vT:(0:Int)≤(low gen 9:Int):=by omega
  have uw:(0:Int)≤(low count 9:Int):=by omega
  generalize (low gen 9:Int)=g at *
  generalize (low count 9:Int)=c at *
  refine cr (aC (Cn 90 (by omega) (by omega) w3) ?_)
  rintro _ w6 ⟨d,s,rfl,G⟩
  have hD:=vA 90 (by omega)
  have H:=(H.join G).eu (L':=cu d s (cX 90) ++ [.av p (A.cs sA) aA,.av p1 (B.cs sB) aA]) [2,3,4,5,6,0,1] (by decide) rfl
  refine yR (iB fun iH fH=>H.aG 5 rfl (ite_false rfl ?_))
  refine aC (Ao H.sub hD (1+g) c sA A HP fun m=>hA.aI (H.mod.trans' m H.F3)) ?_
  rintro e1 w7 ⟨s1,X⟩
  have H:=H.back X
  rw [a1] at H
  have H:aq w [] w7 (cu d s1 (xo (1+g) c A) ++ [aB.err e1 0,.av p (A.cs sA) aA,.av p1 (B.cs sB) aA]):=H
  refine (H.err 5 rfl:eR w7 e1 0).isNil (ite_false rfl (fH w7 ?_))
  refine aC (Ou H.sub a2) ?_
  rintro _ w8 ⟨s2,rfl,X⟩
  have H:=H.back X
  have H:aq w [] w8 (cu d s2 (HO (1+g) c A) ++ [aB.err e1 0,.av p (A.cs sA) aA,.av p1 (B.cs sB) aA]):=H
  refine ⟨by unfold aH; omega,by unfold aH; omega,H.aG 7 rfl ?_⟩
  refine aC (Ao H.sub a3 (1+g+1) (c+1) sB B HQ fun m=>hB.aI (H.mod.trans' m H.F3)) ?_
  rintro e2 w9 ⟨s3,X⟩
  have H:=H.back X
  rw [a4] at H
  have H:aq w [] w9 (cu d s3 (nh (1+g) c A B) ++ [aB.err e2 0,aB.err e1 0,.av p (A.cs sA) aA,.av p1 (B.cs sB) aA]):=H
  refine (H.err 5 rfl:eR w9 e2 0).isNil (ite_false rfl ?_)
  refine aC (Oq (mV H) a5) ?_
  rintro _ dN ⟨y,rfl,X⟩
  have H:=H.join X
  have gW:=jX.len (H.dz 9 rfl)
  have H:aq w [] dN (cu d s3 (nh (1+g) c A B) ++ [.av p (A.cs sA) aA,.av p1 (B.cs sB) aA]):=H.eu [0,1,2,3,4,7,8] (by decide) rfl
  have LI:iM (nh (1+g) c A B).dQ 90=dZ (nh (1+g) c A B):=by unfold dZ; rw [a5.now]
  rw [LI] at gW
  refine dP (aC (Ot H.sub a5 xk keep fun m=>Sl.aI hk (H.mod.trans' m H.F3)) ?_)
  rintro _ fZ ⟨s4,rfl,X⟩
  have H:=H.back X
  rw [LI]
  refine cr ?_
  generalize eE (nh (1+g) c A B) keep=D3 at *
  have hle:=KC keep (dZ (nh (1+g) c A B)).length
  generalize (dZ (nh (1+g) c A B)).length=many at *
  generalize lU keep many=n at *
  refine loadT (L:=[.av p (A.cs sA) aA,.av p1 (B.cs sB) aA]) H a6 fun T f q e3 dO H=>?_
  have BB:gD D3=0:=by
   unfold gD
   rcases a8 with h | h <;> rw [h] <;> rfl
  rw [BB] at H
  have H:aq w [] dO [.av d (pV s4) oI,.row bp 1 s4.nw (s4.xs.map ah.v),.row bp 1 s4.fm (s4.ys.map ah.v),.row jA 1 s4.dt (iC D3.dQ),.box s4.fp fun w=>br fo w s4.xs D3.now∧br fo w s4.ys D3.dI,.av p (A.cs sA) aA,.av p1 (B.cs sB) aA,.box f fun w=>bN w T ((dK D3).getD jR).2.2,aB.err e3 0,.av q (((dK D3).getD jR).2.2.cs T) aA]:=H
  refine (H.err 8 rfl:eR dO e3 0).isNil (ite_false rfl (gm fun go2 ku=>⟨by unfold aH; omega,?_⟩))
  have hz:(y.n:Int)=(many:Int):=by omega
  rcases a8 with h | h
  ·rw [h] at H ⊢
   refine H.aG 9 rfl (H.aG 6 rfl (ite_true ?_ (aC (wA T sB B HQ dO (H.box 7 rfl) (hB.aI H.mod)) ?_)))
   ·show (decide (1+g+1=1+g+1) && decide (c+1=IntKind.wrap .i64 (c+1)))=true
    rw [wrap_i64 (by omega) (by omega)]; simp
   rintro _ gH ⟨rfl,BP⟩
   have H:=H.frame BP
   refine bh (ku true gH (gm fun Wj Gq=>H.aG 9 rfl (H.aG 5 rfl (ite_false ?_ (Gq false gH (ite_true ?_ (jV H)))))))
   ·show (decide (((dK D3).getD jR).1=1+g) && _)=false
    rw [h]
    show (decide (1+g+1=1+g) && _)=false
    rw [decide_eq_false (by omega)]; rfl
   ·show (((decide ((n:Int)=(y.n:Int)) && true) || (decide ((n:Int)=0) && false)) || ((decide ((0:Int)<(n:Int)) && decide ((n:Int)<(y.n:Int))) && (true || false)))=true
    rw [hz]
    have h0:n≠0:=fun h0=>by have:=LC h0; rw [h] at this; simp only [Option.some.injEq,Prod.mk.injEq] at this; omega
    by_cases hn:n=many
    ·simp [hn]
    ·simp; omega
  ·rw [h] at H ⊢
   refine H.aG 9 rfl (H.aG 6 rfl (ite_false ?_ (ku false dO (gm fun Wj Gq=>H.aG 9 rfl (H.aG 5 rfl (ite_true ?_ (aC (wA T sA A HP dO (H.box 7 rfl) (hA.aI H.mod)) ?_)))))))
   ·show (decide (1+g=1+g+1) && _)=false
    rw [decide_eq_false (by omega)]; rfl
   ·show (decide (((dK D3).getD jR).1=1+g) && decide (((dK D3).getD jR).2.1=c))=true
    rw [h]
    show (decide (1+g=1+g) && decide (c=c))=true
    simp
   rintro _ gH ⟨rfl,BP⟩
   have H:=H.frame BP
   refine bh (Gq true gH (ite_true ?_ (jV H)))
   show (((decide ((n:Int)=(y.n:Int)) && false) || (decide ((n:Int)=0) && true)) || ((decide ((0:Int)<(n:Int)) && decide ((n:Int)<(y.n:Int))) && (false || true)))=true
   rw [hz]
   have h0:n≠many:=fun h0=>by have:=a9 h0; rw [h] at this; simp only [Option.some.injEq,Prod.mk.injEq] at this; omega
   by_cases hn:n=0
   ·simp [hn]
   ·simp; omega
 refine gm fun Wk K1=>H.aG 0 rfl ?_
 have no:∀ {w4:World} {L:List aB},aq w [] w4 L→Wk true w4:=fun H=>K1 true _ (ite_true rfl (jV H))
 refine aC (Ix sA A w2 (hA.aI H.mod)) ?_
 rintro _ w3 ⟨b1,rfl,m3,hlA⟩
 have H:=H.frame m3
 refine bh (H.aG 1 rfl ?_)
 cases b1 with
 | true=>exact ite_true rfl (H.aG 0 rfl (H.aG 1 rfl (no H)))
 | false=>
 have HP:=(hlA rfl).small fA
 refine ite_false rfl (aC (Ix sB B w3 (hB.aI H.mod)) ?_)
 rintro _ w4 ⟨b2,rfl,m4,hlB⟩
 have H:=H.frame m4
 refine bh (H.aG 0 rfl ?_)
 cases b2 with
 | true=>exact ite_true rfl (H.aG 1 rfl (no H))
 | false=>
 have HQ:=(hlB rfl).small fB
 refine ite_false rfl (aC (Ch sA A HP w4 (hA.aI H.mod)) ?_)
 rintro _ w5 ⟨rfl,m5⟩
 have H:=H.frame m5
 refine bh (H.aG 1 rfl ?_)
 cases mA:dh A with
 | false=>exact ite_true rfl (no H)
 | true=>
 refine ite_false rfl (aC (Ch sB B HQ w5 (hB.aI H.mod)) ?_)
 rintro _ w6 ⟨rfl,m6⟩
 have H:=H.frame m6
 refine bh ?_
 cases mB:dh B with
 | false=>exact no H
 | true=>
 cases asX:decide ((60:Int)<(xk.n:Int)) with
 | true=>exact no H
 | false=>exact K1 false w6 (ite_false rfl (main H HP HQ (mQ.1 mA) (mQ.1 mB)))
end Go.Proofs.YtpchgbolambkcaaGreatDoor
end
section
set_option linter.unusedVariables false
set_option linter.unusedSimpArgs false
namespace Go.Ev
open Go Go.RowKit Go.ChangeShapes Go.WideShapes Go.ChangeAt Go.Deep
variable {H:Type} {enc:TypeId×Value→H} {P:Program} {w:World} {held:Bool}
inductive Lk where
 | int (k:IntKind) | str | bool | bytes
def Gr (w:World):Lk→Value→Prop
 | .int k,v=>∃ z,v=.int k z∧k.min≤z∧z≤k.max
 | .str,v=>∃ s:ByteArray,v=.string s∧s.size≤9223372036854775807
 | .bool,v=>∃ b,v=.bool b
 | .bytes,v=>∃ (s:ah) (l:List B8),v=.slice s.a s.n s.c∧Bytes w s l∧s.n≤9223372036854775807
def wW (P:Program) (t:TypeId):Lk→Bool
 | .int k=>match P.underlying t with | some (.int k')=>decide (k'=k) | _=>false
 | .str=>match P.underlying t with | some .string=>true | _=>false
 | .bool=>match P.underlying t with | some .bool=>true | _=>false
 | .bytes=>match P.underlying t with | some (.slice e)=>(match P.underlying e with | some (.int .u8)=>decide (P.cellsOf e=1) | _=>false) | _=>false
theorem Y9 {t:TypeId} {k:Lk} {c:Value} {n:Nat} {x:DataW H×List MemPlace} (hk:wW P t k=true) (h:DataW.trod enc P w 0 (fun _=>true) held n t [c]=some x):Gr w k c:=by
 cases k with
 | int k=>
  simp only [wW] at hk
  split at hk
  ·rename_i k' hu
   have:k'=k:=of_decide_eq_true hk
   subst this
   obtain ⟨z,hz,_,hw⟩:=DataW.trod_int hu h
   have hz:c=.int k' z:=by simpa using hz
   have:=Kx hw
   exact ⟨z,hz,this.1,this.2⟩
  ·cases hk
 | str=>
  simp only [wW] at hk
  split at hk
  ·rename_i hu
   obtain ⟨s,hs,_,hm⟩:=DataW.trod_string hu h
   have hs:c=.string s:=by simpa using hs
   exact ⟨s,hs,by simp only [maxLen] at hm; omega⟩
  ·cases hk
 | bool=>
  simp only [wW] at hk
  split at hk
  ·rename_i hu
   obtain ⟨b,hb,_⟩:=DataW.trod_bool hu h
   exact ⟨b,by simpa using hb⟩
  ·cases hk
 | bytes=>
  simp only [wW] at hk
  split at hk
  ·rename_i e hu
   split at hk
   ·rename_i he
    have hc:P.cellsOf e=1:=of_decide_eq_true hk
    rcases open_ints hu he hc h with ⟨gN,-⟩ | ⟨a,len,cap,zs,gN,-,hl,hm,hz,-,mG,hw⟩
    ·exact ⟨⟨none,0,0⟩,[],by simpa using gN,Bytes.nil w,by show 0≤_; omega⟩
    ·simp only [if_true] at hz
     have hI:TD w ⟨some a,len,cap⟩ .u8 (zs.take len):=by
      refine ⟨⟨?_,hl,fun _=>rfl,fun i x hx=>?_⟩,fun x hx=>Kx (hw x (List.mem_of_mem_take hx))⟩
      ·simp only [List.length_map,List.length_take,Nat.mul_one]; omega
      ·rw [List.getElem?_map,List.getElem?_take] at hx
       split at hx
       ·rename_i hi
        have:=mG i (by omega)
        rw [List.getD_eq_getElem?_getD] at this
        cases GL:zs[i]? with
        | none=>rw [GL] at hx; cases hx
        | some z=>
         rw [GL] at hx this
         simp only [Option.map_some,Option.some.injEq] at hx
         subst hx
         exact this
       ·cases hx
     exact ⟨⟨some a,len,cap⟩,_,by simpa using gN,Xw hI,by simp only [maxLen] at hm; show len≤_; omega⟩
   ·cases hk
  ·cases hk
def nN (w:World):List Lk→List Value→Prop
 | [],[]=>True
 | k :: ks,c :: cs=>Gr w k c∧nN w ks cs
 | _,_=>False
theorem nN.cons {w:World} {k:Lk} {ks:List Lk} {cs:List Value} (h:nN w (k :: ks) cs):∃ c r,cs=c :: r∧Gr w k c∧nN w ks r:=by
 cases cs with
 | nil=>exact h.elim
 | cons c r=>exact ⟨c,r,rfl,h.1,h.2⟩
theorem nN.nil {w:World} {cs:List Value} (h:nN w [] cs):cs=[]:=by
 cases cs with
 | nil=>rfl
 | cons c r=>exact h.elim
def uu (P:Program) (t:TypeId):Array Field:=match P.underlying t with | some (.struct fs)=>fs | _=>#[]
def E1 (P:Program) (t:TypeId):Bool:=match P.underlying t with | some (.struct _)=>true | _=>false
def S1 (P:Program) (fs:List Field):List Lk→Bool:=go fs
where
 go:List Field→List Lk→Bool
  | [],[]=>true
  | f :: fs,k :: ks=>wW P f.type k && go fs ks
  | _,_=>false
def Fq (P:Program) (t:TypeId) (ks:List Lk):Bool:=E1 P t && (oneCellFields P (uu P t) && (decide (P.cellsOf t=ks.length) && (decide ((uu P t).size=ks.length) && S1 P (uu P t).toList ks)))
theorem S2 {t:TypeId} (h:E1 P t=true):P.underlying t=some (.struct (uu P t)):=by
 unfold E1 at h
 unfold uu
 split at h
 ·rename_i fs hu; rw [hu]
 ·cases h
theorem ZV:∀ (fs:List Field) (ks:List Lk) (cs:List Value),S1 P fs ks=true→cs.length=ks.length→(∀ (i:Nat) (f:Field) (c:Value),fs[i]? = some f→cs[i]? = some c→∃ n x,DataW.trod enc P w 0 (fun _=>true) held n f.type [c]=some x)→nN w ks cs
 | [],[],[],_,_,_=>trivial
 | [],[],_ :: _,_,h,_=>by simp at h
 | [],_ :: _,_,h,_,_=>by cases h
 | _ :: _,[],_,h,_,_=>by cases h
 | _ :: _,_ :: _,[],_,h,_=>by simp at h
 | f :: fs,k :: ks,c :: cs,h,hl,hc=>by
  have h:(wW P f.type k && S1 P fs ks)=true:=h
  simp only [Bool.and_eq_true] at h
  obtain ⟨n,x,hx⟩:=hc 0 f c rfl rfl
  exact ⟨Y9 h.1 hx,ZV fs ks cs h.2 (by simpa using hl) fun i f' c' hf vU=>hc (i+1) f' c' (by simpa using hf) (by simpa using vU)⟩
theorem ajp {t:TypeId} {ks:List Lk} {cs:List Value} {n:Nat} {x:DataW H×List MemPlace} (hs:Fq P t ks=true) (h:DataW.trod enc P w 0 (fun _=>true) held n t cs=some x):nN w ks cs∧cs.length=ks.length:=by
 unfold Fq at hs
 simp only [Bool.and_eq_true,decide_eq_true_eq] at hs
 obtain ⟨h1,h2,h3,h4,h5⟩:=hs
 obtain ⟨xs,m,_,_,hl,cH,hf⟩:=DataW.trod_struct (S2 h1) h
 refine ⟨ZV (enc:=enc) (held:=held) _ ks cs h5 (by omega) fun i f c hfi rD=>?_,by omega⟩
 have T5:(uu P t)[i]? = some f:=by simpa using hfi
 have hi:i<(uu P t).size:=(Array.getElem?_eq_some_iff.1 T5).1
 obtain ⟨ho,sR⟩:=hone_of h2 i f T5
 have:=hf i f T5
 rw [ho,sR,take1_drop cs i undef (by omega),List.getElem?_eq_getElem (by omega)] at this
 have hcd:cs.getD i undef=c:=by simp [List.getD_eq_getElem?_getD,rD]
 rw [hcd] at this
 exact ⟨m,_,this⟩
end Go.Ev
end
section
set_option linter.unusedVariables false
set_option linter.unusedSimpArgs false
namespace Go.Ev
open Go Go.RowKit Go.ChangeShapes Go.WideShapes Go.ChangeAt Go.Deep
variable {P:Program}
def Reads (P:Program) (t:TypeId) (n:Nat) (Q:World→List Value→Prop):Prop:=
 ∀ {H:Type} {enc:TypeId×Value→H} {w:World} {held:Bool} {fuel:Nat} {cs:List Value} {x:DataW H×List MemPlace},DataW.trod enc P w 0 (fun _=>true) held fuel t cs=some x→Q w cs∧cs.length=n
theorem EO {t:TypeId} {ks:List Lk} (hs:Fq P t ks=true):Reads P t ks.length (fun w cs=>nN w ks cs):=fun h=>ajp hs h
theorem ak5 {H:Type} {enc:TypeId×Value→H} {w:World} {held:Bool} {t:TypeId} {k:Lk} {n:Nat} {cs:List Value} {x:DataW H×List MemPlace} (hk:wW P t k=true) (h1:cs.length=1) (h:DataW.trod enc P w 0 (fun _=>true) held n t cs=some x):∃ c,cs=[c]∧Gr w k c:=by
 match cs,h1 with
 | [c],_=>exact ⟨c,rfl,Y9 hk h⟩
def tY (k:Lk):World→List Value→Prop:=fun w cs=>∃ c,cs=[c]∧Gr w k c
def yN:List (TypeId×Nat×(World→List Value→Prop))→World→List Value→Prop
 | [],_,cs=>cs=[]
 | (_,n,Q) :: r,w,cs=>∃ a b,cs=a ++ b∧Q w a∧a.length=n∧yN r w b
def Kk (P:Program):List Field→Nat→List (TypeId×Nat)→Bool
 | [],_,[]=>true
 | f :: fs,o,(t,n) :: l=>decide (f.type=t) && (decide (f.offset=o) && (decide (P.cellsOf t=n) && Kk P fs (o+n) l))
 | _,_,_=>false
def abl (P:Program) (t:TypeId) (l:List (TypeId×Nat)):Bool:=E1 P t && (decide (P.cellsOf t=(l.map (·.2)).sum) && Kk P (uu P t).toList 0 l)
def Part (P:Program) (x:TypeId×Nat×(World→List Value→Prop)):Prop:=
 ∀ {H:Type} {enc:TypeId×Value→H} {w:World} {held:Bool} {fuel:Nat} {cs:List Value} {y:DataW H×List MemPlace},cs.length=x.2.1→DataW.trod enc P w 0 (fun _=>true) held fuel x.1 cs=some y→x.2.2 w cs
theorem Part.leaf {t:TypeId} {k:Lk} (hk:wW P t k=true):Part P (t,1,tY k):=fun hl h=>ak5 hk hl h
theorem Part.of {t:TypeId} {n:Nat} {Q:World→List Value→Prop} (h:Reads P t n Q):Part P (t,n,Q):=fun _ k=>(h k).1
theorem ZW {H:Type} {enc:TypeId×Value→H} {w:World} {held:Bool} {m:Nat} {cs:List Value}:∀ (l:List (TypeId×Nat×(World→List Value→Prop))) (fs:List Field) (o:Nat),Kk P fs o (l.map fun x=>(x.1,x.2.1))=true→(∀ x∈l,Part P x)→
  cs.length=o+(l.map (·.2.1)).sum→(∀ f∈fs,∃ y,DataW.trod enc P w 0 (fun _=>true) held m f.type ((cs.drop f.offset).take (P.cellsOf f.type))=some y)→yN l w (cs.drop o)
 | [],[],o,_,_,hl,_=>by
  show cs.drop o=[]
  exact List.drop_eq_nil_of_le (by rw [hl]; simp)
 | [],_ :: _,_,h,_,_,_=>by cases h
 | _ :: _,[],_,h,_,_,_=>by cases h
 | (t,n,Q) :: l,f :: fs,o,h,hp,hl,hf=>by
  have h:(decide (f.type=t) && (decide (f.offset=o) && (decide (P.cellsOf t=n) && Kk P fs (o+n) (l.map fun x=>(x.1,x.2.1)))))=true:=h
  simp only [Bool.and_eq_true,decide_eq_true_eq] at h
  obtain ⟨h1,h2,h3,h4⟩:=h
  have hl:cs.length=o+(n+(l.map (·.2.1)).sum):=hl
  obtain ⟨y,hy⟩:=hf f (List.mem_cons_self ..)
  rw [h1,h2,h3] at hy
  have hal:((cs.drop o).take n).length=n:=by rw [List.length_take,List.length_drop]; omega
  refine ⟨(cs.drop o).take n,cs.drop (o+n),?_,hp (t,n,Q) (List.mem_cons_self ..) hal hy,hal,ZW l fs (o+n) h4 (fun x hx=>hp x (List.mem_cons_of_mem _ hx)) (by omega) fun g hg=>hf g (List.mem_cons_of_mem _ hg)⟩
  rw [← List.drop_drop,List.take_append_drop]
theorem QS {t:TypeId} (l:List (TypeId×Nat×(World→List Value→Prop))) (hb:abl P t (l.map fun x=>(x.1,x.2.1))=true) (hp:∀ x∈l,Part P x):Reads P t (l.map (·.2.1)).sum (yN l):=by
 intro H enc w held fuel cs x h
 unfold abl at hb
 simp only [Bool.and_eq_true,decide_eq_true_eq,List.map_map] at hb
 obtain ⟨h1,h2,h3⟩:=hb
 obtain ⟨xs,m,_,_,hl,cH,hf⟩:=DataW.trod_struct (S2 h1) h
 have hl:cs.length=(l.map (·.2.1)).sum:=hl.trans h2
 refine ⟨?_,hl⟩
 have:=ZW (enc:=enc) (held:=held) (m:=m) (cs:=cs) (w:=w) l (uu P t).toList 0 h3 hp (by omega) fun f Gx=>?_
 ·simpa using this
 ·obtain ⟨i,hi,rfl⟩:=List.getElem_of_mem Gx
  have Bw:i<(uu P t).size:=by simpa using hi
  have:=hf i ((uu P t).toList[i]) (by rw [Array.getElem_toList]; exact Array.getElem?_eq_getElem Bw)
  rw [List.getElem?_eq_getElem (by omega)] at this
  exact ⟨_,this⟩
def yT (n:Nat) (Q:World→List Value→Prop):World→List Value→Prop:=fun w cs=>
 ∃ (s:ah) (rows:List (List Value)),cs=[s.v]∧Sl w s n rows.flatten∧rows.length=s.n∧(∀ row∈rows,Q w row∧row.length=n)∧s.n≤9223372036854775807
theorem ZX {n:Nat}:∀ (rows:List (List Value)),(∀ row∈rows,row.length=n)→rows.flatten.length=rows.length * n
 | [],_=>by simp
 | r :: rs,h=>by
  rw [List.flatten_cons,List.length_append,ZX rs fun row hr=>h row (List.mem_cons_of_mem _ hr),h r (List.mem_cons_self ..),List.length_cons,Nat.succ_mul]
  omega
theorem aau {n:Nat}:∀ (rows:List (List Value)),(∀ row∈rows,row.length=n)→∀ (j:Nat) (v:Value),rows.flatten[j]? = some v→∃ i row,rows[i]? = some row∧i * n≤j∧row[j - i * n]? = some v
 | [],_,j,v,h=>by simp at h
 | r :: rs,hr,j,v,h=>by
  have hl:=hr r (List.mem_cons_self ..)
  rw [List.flatten_cons] at h
  rcases Nat.lt_or_ge j r.length with k | k
  ·rw [List.getElem?_append_left k] at h
   exact ⟨0,r,rfl,by omega,by simpa using h⟩
  ·rw [List.getElem?_append_right k] at h
   obtain ⟨i,row,h1,h2,h3⟩:=aau rs (fun row hx=>hr row (List.mem_cons_of_mem _ hx)) _ v h
   refine ⟨i+1,row,by simpa using h1,by rw [Nat.succ_mul]; omega,?_⟩
   rw [show j - (i+1) * n=j - r.length - i * n by rw [Nat.succ_mul]; omega]
   exact h3
theorem As {t e:TypeId} {n:Nat} {Q:World→List Value→Prop} (ht:P.underlying t=some (.slice e)) (hn:P.cellsOf e=n) (hr:Reads P e n Q):Reads P t 1 (yT n Q):=by
 intro H enc w held fuel cs x h
 rcases open_slice ht h with ⟨gN,-⟩ | ⟨a,len,cap,m,k,D,Pl,gN,-,hl,hm,hmm,-,hx⟩
 ·subst gN
  exact ⟨⟨⟨none,0,0⟩,[],rfl,Sl.nil w _,rfl,(fun _ h=>by cases h),by show 0≤_; omega⟩,rfl⟩
 ·simp only [if_true] at hmm
  subst hmm
  have hex:∀ i:Nat,∃ fS,i<m→(w.cells? 0 (a.add (i * P.cellsOf e)) (P.cellsOf e)=some fS∧DataW.trod enc P w 0 (fun _=>true) held k e fS=some (D i,Pl i)):=fun i=>by
   by_cases hi:i<m
   ·obtain ⟨fS,h1⟩:=hx i hi; exact ⟨fS,fun _=>h1⟩
   ·exact ⟨[],fun h=>absurd h hi⟩
  obtain ⟨C,hC⟩:=Classical.axiomOfChoice hex
  have jL:∀ i,i<m→Q w (C i)∧(C i).length=n:=fun i hi=>hr (hC i hi).2
  have nP:∀ row∈(List.range len).map C,Q w row∧row.length=n:=fun row hx=>by
   obtain ⟨i,hi,rfl⟩:=List.mem_map.1 hx
   exact jL i (by have:=List.mem_range.1 hi; omega)
  subst gN
  refine ⟨⟨⟨some a,len,m⟩,(List.range len).map C,rfl,⟨?_,hl,fun _=>rfl,fun j v hj=>?_⟩,by simp,nP,by simp only [maxLen] at hm; show len≤_; omega⟩,rfl⟩
  ·rw [ZX _ fun row hx=>(nP row hx).2,List.length_map,List.length_range]
  ·obtain ⟨i,row,h1,h2,h3⟩:=aau _ (fun row hx=>(nP row hx).2) j v hj
   rw [List.getElem?_map] at h1
   have hi:i<len:=by
    rcases Nat.lt_or_ge i len with e | e
    ·exact e
    ·rw [List.getElem?_eq_none (by simp; exact e)] at h1; cases h1
   rw [List.getElem?_range hi] at h1
   obtain rfl:C i=row:=Option.some.inj h1
   obtain ⟨_,_,mG⟩:=World.cells?_some (hC i (by omega)).1
   have hjl:=(List.getElem?_eq_some_iff.1 h3).1
   have h4:=mG (j - i * n) (by have:=(jL i (by omega)).2; omega)
   rw [h3,add_add,hn,show i * n+(j - i * n)=j by omega] at h4
   exact h4
theorem E3 {A:Type} {C:A→ah→List Value} {E:World→ah→A→Prop} {p:A→Prop} {w:World}:∀ (rows:List (List Value)),(∀ row∈rows,∃ a x,row=C a x∧E w x a∧p a)→∃ ls xs,rows.flatten=bP C ls xs∧br E w xs ls∧∀ a∈ls,p a
 | [],_=>⟨[],[],rfl,⟨rfl,fun i x l h=>by simp at h⟩,fun a h=>by cases h⟩
 | r :: rs,h=>by
  obtain ⟨ls,xs,h1,h2,h5⟩:=E3 rs fun row hr=>h row (List.mem_cons_of_mem _ hr)
  obtain ⟨a,x,h3,h4,h6⟩:=h r (List.mem_cons_self ..)
  refine ⟨a :: ls,x :: xs,?_,?_,fun b hb=>?_⟩
  ·rw [List.flatten_cons,h1,h3,tH]
  ·refine ⟨by simp [h2.1],fun i y l hy hl=>?_⟩
   cases i with
   | zero=>simp at hy hl; subst hy hl; exact h4
   | succ i=>exact h2.2 i y l (by simpa using hy) (by simpa using hl)
  ·rcases List.mem_cons.1 hb with rfl | hb
   ·exact h6
   ·exact h5 b hb
theorem Zh {t:TypeId} {n:Nat} {Q:World→List Value→Prop} (hr:Reads P t n Q) (pO:E1 P t=true) {H:Type} {enc:TypeId×Value→H} {w:World} {held:Bool} {v:Value} {d:DataW H} {ps:List MemPlace} {r:Reach} {base:Nat} (hv:Value.okWide P w r base t v) (h:DataW.Trod enc P w 0 (fun _=>true) held t v d ps):∃ cs,v=.agg ⟨cs⟩∧Q w cs:=by
 obtain ⟨cs,rfl,gV⟩:=okWide_struct (S2 pO) hv
 obtain ⟨fuel,h⟩:=h
 exact ⟨cs.toList,rfl,(hr (by simpa [Value.cells] using h)).1⟩
theorem ZY {t e:TypeId} {n:Nat} {Q:World→List Value→Prop} (ht:P.underlying t=some (.slice e)) (hr:Reads P t 1 (yT n Q)) {H:Type} {enc:TypeId×Value→H} {w:World} {held:Bool} {v:Value} {d:DataW H} {ps:List MemPlace} {r:Reach} {base:Nat} (hv:Value.okWide P w r base t v) (h:DataW.Trod enc P w 0 (fun _=>true) held t v d ps) :
  ∃ (s:ah) (rows:List (List Value)),v=.slice s.a s.n s.c∧Sl w s n rows.flatten∧rows.length=s.n∧(∀ row∈rows,Q w row∧row.length=n)∧s.n≤9223372036854775807:=by
 obtain ⟨va,vn,vc,rfl⟩:=Go.WideShapes.okWide_slice ht hv
 obtain ⟨fuel,h⟩:=h
 obtain ⟨⟨s,rows,h1,h2⟩,_⟩:=hr (by simpa [Value.cells] using h)
 exact ⟨s,rows,by simpa [ah.v] using h1,h2⟩
end Go.Ev
end
section
set_option linter.unusedVariables false
set_option linter.unusedSimpArgs false
namespace Go.Proofs.YtpchgbolambkcaaGreatDoor
open Go Go.Ev Go.RowKit
set_option maxRecDepth 20000
def R7:List Lk:=[.int .i64,.int .i64,.int .i64,.int .i64,.int .i64,.int .i64,.int .i64,.int .i64,.int .i64,.int .i64,.int .i64,.str,.bytes,.bytes]
theorem ajV:Fq Pr dx R7=true:=by kernel_rfl
end Go.Proofs.YtpchgbolambkcaaGreatDoor
end
section
set_option linter.unusedVariables false
set_option linter.unusedSimpArgs false
namespace Go.Proofs.YtpchgbolambkcaaGreatDoor
open Go Go.Ev Go.RowKit
set_option maxRecDepth 20000
def Kl:List Lk:=[.int .i64,.int .i64,.int .i64,.int .i64,.int .i64,.bool]
theorem aiQ:Fq Pr dJ Kl=true:=by kernel_rfl
end Go.Proofs.YtpchgbolambkcaaGreatDoor
end
section
set_option linter.unusedVariables false
set_option linter.unusedSimpArgs false
namespace Go.Proofs.YtpchgbolambkcaaGreatDoor
open Go Go.Ev Go.RowKit
set_option maxRecDepth 20000
set_option linter.unusedVariables false
def aav:List Lk:=[.int .i64,.int .i64,.str]
def aaw:List Lk:=[.int .i64,.int .i64,.bytes,.int .i64,.int .u64]
def SH:List Lk:=[.int .i64,.int .i64,.int .i64,.bytes]
def JX:List (TypeId×Nat×(World→List Value→Prop)):=[(bn,1,tY (.int .i64)),(bn,1,tY (.int .i64)),(bn,1,tY (.int .i64)),(rS,1,yT 4 fun w cs=>nN w SH cs)]
def JY:List (TypeId×Nat×(World→List Value→Prop)):=[(bn,1,tY (.int .i64)),(bp,1,tY .bytes),(jU,1,yT 3 fun w cs=>nN w aav cs),(nE,1,yT 5 fun w cs=>nN w aaw cs),(nH,1,yT 4 (yN JX)),(nF,1,yT 6 fun w cs=>nN w Kl cs)]
theorem ajq:Reads Pr rS 1 (yT 4 fun w cs=>nN w SH cs):=As (e:=eW) (by kernel_rfl) (by kernel_rfl) (EO (ks:=SH) (by kernel_rfl))
theorem ajW:Reads Pr bW 4 (yN JX):=QS JX (by kernel_rfl) fun x hx=>by
 simp only [JX,List.mem_cons,List.not_mem_nil,or_false] at hx
 rcases hx with rfl | rfl | rfl | rfl
 ·exact Part.leaf (by kernel_rfl)
 ·exact Part.leaf (by kernel_rfl)
 ·exact Part.leaf (by kernel_rfl)
 ·exact Part.of ajq
theorem ajX:Reads Pr aA 6 (yN JY):=QS JY (by kernel_rfl) fun x hx=>by
 simp only [JY,List.mem_cons,List.not_mem_nil,or_false] at hx
 rcases hx with rfl | rfl | rfl | rfl | rfl | rfl
 ·exact Part.leaf (by kernel_rfl)
 ·exact Part.leaf (by kernel_rfl)
 ·exact Part.of (As (e:=cZ) (by kernel_rfl) (by kernel_rfl) (EO (ks:=aav) (by kernel_rfl)))
 ·exact Part.of (As (e:=ey) (by kernel_rfl) (by kernel_rfl) (EO (ks:=aaw) (by kernel_rfl)))
 ·exact Part.of (As (e:=bW) (by kernel_rfl) (by kernel_rfl) ajW)
 ·exact Part.of (As (e:=dJ) (by kernel_rfl) (by kernel_rfl) (EO aiQ))
end Go.Proofs.YtpchgbolambkcaaGreatDoor
end
section
set_option linter.unusedVariables false
set_option linter.unusedSimpArgs false
namespace Go.Proofs.YtpchgbolambkcaaGreatDoor
open Go Go.Ev
set_option maxRecDepth 20000
set_option linter.unusedVariables false
structure KN (D:aU) (G:Int):Prop where
 ok:D.ok 90
 oth:cQ D (cR G)=none∨∃ r,cQ D (cR G)=some r∧r.1<G
 z:aX D 80=fI
theorem ajY (G:Int):KN (cX 90) G:=by
 have h:=tL 90
 refine ⟨vA 90 (by decide),.inl (sv ?_),h 80 (by omega)⟩
 have hr:=qu G
 rw [h (cR G) (by omega)]
 exact rj
def lH (D:aU) (G c:Int):aU:=fM D 80 (D.now.length:Int) (G - 1) (c - 3+2) (gu 1 xC)
def D7 (D:aU) (G c:Int):Int:=iz D 80 (D.now.length:Int) (G - 1) (c - 3+2) (gu 1 xC)
theorem ak6 {D:aU} {G c:Int} {T:aJ} (h:KN D G) (hG:1≤G∧G≤1000) (hc:0≤c∧c≤1000) (hT:oS T) (nT:nD T) :
  oE D G c T=0∧(dB D G c T).ok 90∧(D7 (dB D G c T) G c=0↔(1≤G - 1∧1≤c - 3+2))∧(lH (dB D G c T) G c).ok 90∧dK (lH (dB D G c T) G c)=some (G,c,T)∧
  (pn ir (lH (dB D G c T) G c)=(G,c,80,T)∧uT oO ir (lH (dB D G c T) G c)∧gD (lH (dB D G c T) G c)=0)∧
  xQ (lH (dB D G c T) G c) G 80=0∧(pn ir (gw (lH (dB D G c T) G c) G 80)=(G,c,80,T)∧uT oO ir (gw (lH (dB D G c T) G c) G 80)∧gD (gw (lH (dB D G c T) G c) G 80)=0)∧
  KN (gw (lH (dB D G c T) G c) G 80) (G+1):=by
 have hn:=h.ok.now
 obtain ⟨s1,s2,s3,s4,s5⟩:=AM h.ok (gen:=G) (count:=c) hT nT ⟨hG.1,by omega⟩ ⟨hc.1,by omega⟩ (by omega) h.oth
 have s6:=C3 h.ok (gen:=G) (count:=c) hT nT ⟨hG.1,by omega⟩ ⟨hc.1,by omega⟩ (by omega)
 have hr:=qu G
 have z1:aX (dB D G c T) 80=fI:=by rw [s4 80 (by omega) (by omega)]; exact h.z
 have hx:ByteArray.size xC=1:=rfl
 have hp:bM (gu 1 xC).length=1:=tI (by omega)
 generalize dB D G c T=D1 at *
 have sR:D7 D1 G c=0↔(1≤G - 1∧1≤c - 3+2):=by
  unfold D7 iz fJ
  rw [hp,if_pos (show 0≤(80:Int)∧(80:Int)≤(D1.now.length:Int)∧(D1.now.length:Int)≤(D1.now.length:Int) by omega),if_pos rfl]
  by_cases h1:G - 1<1∨c - 3+2<1
  ·rw [if_pos h1]; omega
  ·rw [if_neg h1,if_neg (by omega)]; omega
 have rQ:(lH D1 G c).ok 90:=AK s5 _ _ _ _ _
 have LH:(lH D1 G c).now.length=D1.now.length:=AF _ _ _ _ _ _
 have bl2:∀ j,0≤j→j<80→aX (lH D1 G c) j=aX D1 j:=fun j j1 j2=>JV s5 j j1 (.inl j2)
 have LJ:∀ n,fO (lH D1 G c) 80 ((lH D1 G c).now.length:Int) G n=none:=by
  intro n
  by_cases h0:D7 D1 G c=0
  ·obtain ⟨g1,g2⟩:=sR.1 h0
   exact aas ⟨g1,by omega⟩ ⟨g2,by omega⟩ (by rw [hp]; decide) (Kh s5 h0) (by omega)
  ·refine AV fun _=>?_
   have:lH D1 G c=D1:=by unfold lH fM; exact if_neg h0
   rw [this]; exact z1
 have lo2:dK (lH D1 G c)=some (G,c,T):=by rw [Ar LH bl2]; exact s2
 have ld2:cQ (lH D1 G c) (bC G)=some (G,c,T):=by rw [tC LH fun j j1 j2=>bl2 j (by omega) (by omega)]; exact s6
 have n2:=rQ.now
 generalize lH D1 G c=D2 at *
 have rp2:kJ oO ir D2 G (D2.now.length+1) 80 c T (c,80,T):=kJ.stop (LJ _)
 obtain ⟨w1,w2,w3⟩:=abL rQ hG.1 (a:=80) (by omega)
 have Wi:=abf rQ G 80
 generalize gw D2 G 80=D3 at *
 have z3:aX D3 80=fI:=by rw [w3 80 (by omega),if_pos (.inr (by omega))]
 have ld3:cQ D3 (bC G)=some (G,c,T):=by rw [tC w2 fun j j1 j2=>by rw [w3 j (by omega),if_neg (by omega)]]; exact ld2
 have ot3:cQ D3 (cR G)=none:=sv (by rw [w3 (cR G) (by omega),if_pos (.inl (by omega))]; exact rj)
 have lo3:dK D3=some (G,c,T):=CU ld3 (.inl ot3)
 have rp3:kJ oO ir D3 G (D3.now.length+1) 80 c T (c,80,T):=kJ.stop (AV fun _=>z3)
 have r2:=AL lo2 (by omega) rp2
 have r3:=AL lo3 (by omega) rp3
 exact ⟨s1,s5,sR,rQ,lo2,r2,w1,r3,⟨Wi,.inr ⟨_,by rw [(ZU G).1]; exact ld3,by show G<G+1; omega⟩,z3⟩⟩
end Go.Proofs.YtpchgbolambkcaaGreatDoor
end
section
set_option linter.unusedVariables false
set_option linter.unusedSimpArgs false
namespace Go.Proofs.YtpchgbolambkcaaGreatDoor
open Go Go.Ev
set_option maxRecDepth 20000
set_option linter.unusedVariables false
set_option maxHeartbeats 1000000
def xq (w:World) (x:ah) (ns:List ByteArray):Prop:=Sl w x 1 (ns.map Value.string)
theorem xq.len {w:World} {x:ah} {ns:List ByteArray} (h:xq w x ns):ns.length=x.n:=by have:=Sl.len h; rw [List.length_map] at this; omega
theorem xq.at {w:World} {x:ah} {ns:List ByteArray} (h:xq w x ns) {i:Nat} (hi:i<ns.length):(x.a.isSome=true∧(0:Int)≤(i:Int)∧(i:Int)<(x.n:Int))∧w.cell? (Addr.add (base x.a) (Int.toNat (i:Int) * 1))=some (.string (ns.getD i eO)):=by
 have hl:=h.len
 refine ⟨⟨Sl.pre h (by omega),by omega,by omega⟩,?_⟩
 rw [Int.toNat_natCast]
 exact Sl.cell h _ _ (by rw [Nat.mul_one,List.getElem?_map,AE (d:=eO) hi]; rfl)
theorem aiR (x:ah) (ns:List ByteArray) (gen:Int) (w:World) (hg:Laid w) (hx:xq w x ns) :
  Ok Pr WQ [.slice x.a x.n x.c,.int .i64 gen] w fun v w'=>v=.bool true∧Mod [] w w':=by
 refine ae0 ?_
 unfold Nz
 have jV:∀ {w':World} {L:List aB},aq w [] w' L→ax Pr jG [] w' fun v w1=>aQ v fun t=>(fun (v:Value) (w':World)=>v=.bool true∧Mod [] w w') (.bool t) w1:=by
  intro w' L H
  refine aC (B0 w' (hg.gS H (by simp))) ?_
  rintro _ w2 ⟨rfl,m⟩
  exact bh ⟨rfl,H.mod.trans m⟩
 have cH:=hx.len
 refine cN (fun _=>jV (aq.start w)) fun hc=>?_
 have hc:=of_decide_eq_false hc
 refine aC (yw gen 50 (by omega) (by omega) w) ?_
 rintro _ w2 ⟨rfl,e2⟩
 rw [e2]
 have uN:=AI (x:=gen) (n:=50) (by omega)
 have hl0:(0:Int)≤(low gen 50:Int):=by omega
 generalize (low gen 50:Int)=g at *
 refine cr ⟨by unfold aH; omega,aC (Cn 90 (by omega) (by omega) w) ?_⟩
 rintro _ w3 ⟨d,s0,rfl,H⟩
 refine yR (ite_false rfl ?_)
 refine ep 0 ns.length (fun i w'=>∃ (s:gB) (D:aU),aq w [] w' (cu d s D)∧KN D (1+g+(i:Int))) rfl (by omega) ⟨s0,cX 90,H,ajY _⟩ ?_ ?_
 case refine_2=>
  rintro again w4 ⟨s,D,H,_⟩
  exact ite_false (decide_eq_false (by omega)) (jV H)
 rintro again i w4 _ hi ⟨s,D,H,hR⟩ aR
 obtain ⟨cU,_⟩:=hx.at hi
 have cell:∀ {w':World},Mod [] w w'→w'.cell? (Addr.add (base x.a) (Int.toNat (i:Int) * 1))=some (.string (ns.getD i eO)):=fun m=>(xq.at (Sl.aI hx m) hi).2
 refine ite_true (decide_eq_true (by omega)) ⟨cU,_,cell H.mod,?_⟩
 generalize ns.getD i eO=name at *
 have hI:(0:Int)≤(i:Int)∧(i:Int)<6:=by omega
 refine aC (BZ name w4) ?_
 rintro _ w5 hA
 have BR:=CM name
 have j7:=AW name
 have uo:=am5 (name:=name)
 generalize fN name=T at *
 obtain ⟨sT,rfl,lq⟩:=hA.boxed
 obtain ⟨f,H⟩:=H.yK lq
 rw [lV]
 refine jT (H.nw fun q w6 H _=>H.aV 6 rfl rfl fun w7 H=>?_)
 have H:aq w [] w7 (cu d s D ++ [.box f fun w=>bN w sT T,.av q (T.cs sT) aA]):=H
 have vS:=(H.box 5 rfl:bN w7 sT T).aE.len
 refine iB fun go bX=>?_
 have main:T.aE.length=1→go w7:=by
  intro h1
  refine bX w7 ?_
  obtain ⟨a1,a2,a3,a4,a5,⟨a6,a7,a8⟩,a9,⟨b1,b2,b3⟩,b4⟩:=ak6 (G:=1+g+(i:Int)) (c:=3 * (i:Int)) hR ⟨by omega,by omega⟩ ⟨by omega,by omega⟩ (uo h1) j7
  have eG:(1+g+(i:Int))+1=1+g+((i+1:Nat):Int):=by omega
  rw [eG] at b4
  refine ⟨by unfold aH; omega,by unfold aH; omega,H.aG 6 rfl ?_⟩
  refine aC (Ao H.sub hR.ok (1+g+(i:Int)) (3 * (i:Int)) sT T BR fun m=>(H.beside m).box 0 rfl) ?_
  rintro e1 w8 ⟨s1,X⟩
  have H:=H.back X
  rw [a1] at H
  generalize zG:dB D (1+g+(i:Int)) (3 * (i:Int)) T=D1 at *
  have H:aq w [] w8 (cu d s1 D1 ++ [aB.err e1 0,.box f fun w=>bN w sT T,.av q (T.cs sT) aA]):=H
  refine (H.err 5 rfl:eR w8 e1 0).isNil (ite_false rfl ⟨by unfold aH; omega,by unfold aH; omega,by unfold aH; omega,by unfold aH; omega,?_⟩)
  refine aC (IP 1 xC w8) ?_
  rintro _ w9 ⟨rfl,m9⟩
  have H:=H.frame m9
  refine wC (aC (IN H.sub a2 80 (1+g+(i:Int) - 1) (3 * (i:Int) - 3) ⟨by omega,by omega⟩ (jy 1 xC) ⟨none,0,0⟩ [] [] [] (by show 1≤_; omega) (by simp) (by simp) (by simp) fun m=>⟨Bytes.nil _,Bytes.nil _,Bytes.nil _⟩) ?_)
  rintro _ dN ⟨s2,e2,rfl,X⟩
  have eD:fM D1 80 (D1.now.length:Int) (1+g+(i:Int) - 1) (3 * (i:Int) - 3+2) (iA (jy 1 xC) [] [] [])=lH D1 (1+g+(i:Int)) (3 * (i:Int)):=rfl
  have eC:iz D1 80 (D1.now.length:Int) (1+g+(i:Int) - 1) (3 * (i:Int) - 3+2) (iA (jy 1 xC) [] [] [])=D7 D1 (1+g+(i:Int)) (3 * (i:Int)):=rfl
  rw [eD,eC] at X
  rw [eC]
  have H:=H.back X
  generalize lH D1 (1+g+(i:Int)) (3 * (i:Int))=D2 at *
  generalize D7 D1 (1+g+(i:Int)) (3 * (i:Int))=C2 at *
  have H:aq w [] dN (cu d s2 D2 ++ [aB.err e2 C2,aB.err e1 0,.box f fun w=>bN w sT T,.av q (T.cs sT) aA]):=H
  refine ⟨_,rfl,cr ⟨rfl,(H.err 5 rfl:eR dN e2 C2).isNil ⟨by unfold aH; omega,by unfold aH; omega,ite_false ?_ ?_⟩⟩⟩
  ·show (!(decide (C2=0) == (decide ((1:Int)≤1+g+(i:Int) - 1) && decide ((1:Int)≤IntKind.wrap .i64 (IntKind.wrap .i64 (IntKind.wrap .i64 (3 * (i:Int)) - 3)+2)))))=false
   rw [wrap_i64 (show -9223372036854775808≤3 * (i:Int) by omega) (by omega),wrap_i64 (show -9223372036854775808≤3 * (i:Int) - 3 by omega) (by omega),wrap_i64 (show -9223372036854775808≤3 * (i:Int) - 3+2 by omega) (by omega)]
   by_cases h0:C2=0
   ·obtain ⟨g1,g2⟩:=a3.1 h0
    rw [decide_eq_true h0,decide_eq_true g1,decide_eq_true g2]; rfl
   ·rw [decide_eq_false h0]
    by_cases g1:(1:Int)≤1+g+(i:Int) - 1
    ·rw [decide_eq_false (fun g2=>h0 (a3.2 ⟨g1,g2⟩)),Bool.and_false]; rfl
    ·rw [decide_eq_false g1]; rfl
  refine loadT (L:=[aB.err e2 C2,aB.err e1 0,.box f fun w=>bN w sT T,.av q (T.cs sT) aA]) H a4 fun T1 f1 q1 e3 fZ H=>?_
  rw [a5,a8] at H
  rw [a5]
  have H:aq w [] fZ (cu d s2 D2 ++ [.box f fun w=>bN w sT T,.av q (T.cs sT) aA,.box f1 fun w=>bN w T1 T,aB.err e3 0,.av q1 (T.cs T1) aA]):=H.eu [0,1,2,3,4,7,8,9,10,11] (by decide) rfl
  refine Kj (L:=[.box f fun w=>bN w sT T,.av q (T.cs sT) aA,.box f1 fun w=>bN w T1 T,aB.err e3 0,.av q1 (T.cs T1) aA]) H (hg.gS H (by simp)) a4 a7 fun T2 f2 q2 e4 dO H=>?_
  rw [a6,a8] at H
  rw [a6]
  have H:aq w [] dO (cu d s2 D2 ++ [.box f fun w=>bN w sT T,.av q (T.cs sT) aA,.box f1 fun w=>bN w T1 T,aB.err e3 0,.av q1 (T.cs T1) aA,.box f2 fun w=>bN w T2 T,aB.err e4 0,.av q2 (T.cs T2) aA]):=H
  refine iB fun iH fH=>?_
  refine (H.err 8 rfl:eR dO e3 0).isNil (ite_false rfl ((H.err 11 rfl:eR dO e4 0).isNil (H.aG 9 rfl (H.aG 6 rfl (ite_false ?_ ?_)))))
  ·rw [wrap_i64 (show -9223372036854775808≤1+g+(i:Int) by omega) (by omega),wrap_i64 (show -9223372036854775808≤3 * (i:Int) by omega) (by omega)]
   simp [jR]
  refine aC (wA T1 sT T BR dO (H.box 7 rfl) (H.box 5 rfl)) ?_
  rintro _ gH ⟨rfl,BP⟩
  have H:=H.frame BP
  refine bh (H.aG 12 rfl (H.aG 6 rfl (ite_false rfl (aC (wA T2 sT T BR gH (H.box 10 rfl) (H.box 5 rfl)) ?_))))
  rintro _ kN ⟨rfl,Lu⟩
  have H:=H.frame Lu
  refine bh (ite_false rfl (fH kN ?_))
  refine aC (XR H.sub a4 (1+g+(i:Int)) 80) ?_
  rintro e5 nv ⟨s3,X⟩
  have H:=H.back X
  rw [a9] at H
  generalize gw D2 (1+g+(i:Int)) 80=D3 at *
  have H:aq w [] nv (cu d s3 D3 ++ [.box f fun w=>bN w sT T,.av q (T.cs sT) aA,aB.err e5 0]):=H.eu [0,1,2,3,4,6,7,5] (by decide) rfl
  refine (H.err 7 rfl:eR nv e5 0).isNil (ite_false rfl ?_)
  refine Kj (L:=[.box f fun w=>bN w sT T,.av q (T.cs sT) aA,aB.err e5 0]) H (hg.gS H (by simp)) b4.ok b2 fun T3 f3 q3 e6 mN H=>?_
  rw [b1,b3] at H
  have H:aq w [] mN (cu d s3 D3 ++ [.box f fun w=>bN w sT T,.av q (T.cs sT) aA,aB.err e5 0,.box f3 fun w=>bN w T3 T,aB.err e6 0,.av q3 (T.cs T3) aA]):=H
  refine (H.err 9 rfl:eR mN e6 0).isNil (H.aG 10 rfl (H.aG 6 rfl (ite_false rfl (aC (wA T3 sT T BR mN (H.box 8 rfl) (H.box 5 rfl)) ?_))))
  rintro _ pU ⟨rfl,rL⟩
  have H:=H.frame rL
  exact bh (ite_false rfl ⟨by unfold aH; omega,aR pU ⟨s3,D3,H.front,b4⟩⟩)
 refine gm fun go2 ku=>⟨cU,_,cell H.mod,?_⟩
 have no:go2 true w7:=ku true _ (ite_true rfl (jV H))
 refine cN (fun _=>H.ay 6 rfl (an q 3) rfl no) fun he=>⟨cU,_,cell H.mod,H.ay 6 rfl (an q 3) rfl ?_⟩
 by_cases h3:(300:Int)<(ByteArray.size name:Int)
 ·rw [decide_eq_true h3]; exact no
 by_cases h1:T.aE.length=1
 ·rw [decide_eq_false h3,decide_eq_true (show ((sT.aE.n:Nat):Int)=1 by omega)]
  exact ku false _ (ite_false rfl (main h1))
 ·rw [decide_eq_false h3,decide_eq_false (show ¬ ((sT.aE.n:Nat):Int)=1 by omega)]
  exact no
end Go.Proofs.YtpchgbolambkcaaGreatDoor
end
section
set_option linter.unusedVariables false
set_option linter.unusedSimpArgs false
namespace Go.Proofs.YtpchgbolambkcaaGreatDoor
open Go Go.Ev
set_option maxRecDepth 20000
set_option linter.unusedVariables false
set_option maxHeartbeats 1000000
theorem ajZ (s:cL) (t:aJ) (q:bL) (h1:q.n2=1) (hs:t.small) (w:World) (hx:bN w s t):Ok Pr OB [.agg ⟨t.cs s⟩,.agg ⟨q.cells⟩] w fun v w'=>v=.bool (aW 1 (t.bq.length:Int) q.n3)∧Mod [] w w':=by
 refine af6 ?_
 unfold O5
 refine (aq.start w).nw fun p w1 H _=>H.nw fun p1 w2 H _=>?_
 have H:aq w [] w2 [.av p (t.cs s) aA,.av p1 q.cells dx]:=H
 refine H.au 1 rfl (an p1 2) rfl (aC (Xm q.n2 w2) ?_)
 rintro _ w3 ⟨rfl,e3⟩
 rw [e3,h1]
 refine ⟨_,rfl,bh (bh (bh (bh (bh ⟨rfl,iB fun go2 ku=>H.ay 0 rfl (an p 2) rfl (H.au 1 rfl (an p1 3) rfl (ite_true rfl (aC (Es s.ten t.bq q.n3 _ (hx.ten.aI H.mod)) ?_)))⟩))))⟩
 rintro _ gH ⟨rfl,Wl⟩
 rw [Wl]
 refine bh (H.au 1 rfl (an p1 4) rfl (H.au 1 rfl (an p1 4) rfl (H.ay 0 rfl (an p 4) rfl ?_)))
 cases hf:aW 1 (t.bq.length:Int) q.n3 with
 | false=>exact ite_true rfl ⟨rfl,H.mod⟩
 | true=>
  refine ite_false rfl (ku _ (iB fun go bX=>ite_false rfl (bX _ ?_)))
  exact H.au 1 rfl (an p1 7) rfl (H.au 1 rfl (an p1 7) rfl (H.ay 0 rfl (an p 5) rfl (H.au 1 rfl (an p1 8) rfl (H.au 1 rfl (an p1 8) rfl (H.ay 0 rfl (an p 3) rfl ⟨by rw [hf]; rfl,H.mod⟩)))))
theorem aj0 (s:cL) (t:aJ) (q:bL) (h1:q.n2=1) (w:World):Ok Pr OD [.agg ⟨t.cs s⟩,.agg ⟨q.cells⟩] w fun v w'=>v=.int .i64 q.n3∧Mod [] w w':=by
 refine af7 ?_
 unfold O6
 refine (aq.start w).nw fun p w1 H _=>H.nw fun p1 w2 H _=>?_
 have H:aq w [] w2 [.av p (t.cs s) aA,.av p1 q.cells dx]:=H
 refine H.au 1 rfl (an p1 2) rfl (aC (Xm q.n2 w2) ?_)
 rintro _ w3 ⟨rfl,e3⟩
 rw [e3,h1]
 exact ⟨_,rfl,bh (bh (bh (bh (bh ⟨rfl,ite_true rfl (H.au 1 rfl (an p1 3) rfl ⟨rfl,H.mod⟩)⟩))))⟩
theorem amf (s:cL) (t:aJ) (q:bL) (h1:q.n2=1) (hs:t.small) (w:World) (hx:bN w s t) :
  Ok Pr Qm [.agg ⟨t.cs s⟩,.agg ⟨q.cells⟩] w fun v w'=>v=.int .i64 (rP q t)∧Mod [] w w':=by
 refine aho ?_
 unfold QJ
 rw [E9,abF]
 have rJ:=hx.aE.len
 have rK:=hs.ten
 have sS:=hs.aE
 have xL:=hs.gr
 have hC:rP q t=if (dh t && iP q)=true then (if aW 1 (t.aE.length:Int) q.n0=true then (if kU (dy q t).high (dy q t).used q.n1=0 then (if aW 1 (t.bq.length:Int) q.n3=true then D6 q t else 9) else 8) else 6) else 2:=rfl
 have hD:D6 q t=if wR t.bq (dy q t).ten q.n3=true then 0 else 10:=rfl
 generalize rP q t=C at *
 refine (aq.start w).nw fun p w1 H _=>H.nw fun p1 w2 H _=>?_
 have H:aq w [] w2 [.av p (t.cs s) aA,.av p1 q.cells dx]:=H
 refine iB fun go bX=>?_
 have beh:∀ w3,aq w [] w3 [.av p (t.cs s) aA,.av p1 q.cells dx]→dh t=true→iP q=true→aW 1 (t.aE.length:Int) q.n0=true→go w3:=by
  intro w3 H hm hq hw
  rw [hm,hq,if_pos (show (true && true)=true from rfl),if_pos hw] at hC
  have mZ:=(Rq hm).2.2.1
  obtain ⟨i,ei,en,hi⟩:=Ap hw
  have T6:dy q t=t.aE.getD i eJ:=by unfold dy; rw [en]
  have h82:=akE hm hw
  obtain ⟨cU,x,_,hc⟩:=(hx.aE.aI H.mod).at hi
  rw [← T6] at hc
  refine bX w3 (H.ay 0 rfl (an p 3) rfl (H.au 1 rfl (an p1 0) rfl ⟨by unfold aH; omega,?_⟩))
  show aZ s.aE.a (q.n0 - 1) s.aE.n _
  rw [ei]
  refine ⟨cU,Ep hc (H.nw fun p2 w4 H _=>H.p9 2 rfl rfl fun w5 H=>H.au 2 rfl (an p2 3) rfl (H.au 2 rfl (an p2 4) rfl (H.au 1 rfl (an p1 1) rfl (aC (XM (dy q t).high (dy q t).used q.n1 _) ?_))))⟩
  rintro _ w6 ⟨rfl,m6⟩
  have H:aq w [] w6 [.av p (t.cs s) aA,.av p1 q.cells dx,.av p2 (rU (dy q t).id (dy q t).ten x (dy q t).high ((dy q t).used.toNat:Int)) ey]:=H.frame m6
  refine ⟨_,rfl,_,rfl,_,rfl,_,rfl,rfl,?_⟩
  by_cases hu:kU (dy q t).high (dy q t).used q.n1=0
  case neg=>
   rw [if_neg hu] at hC
   exact ite_true (by rw [decide_eq_false hu]; rfl) ⟨by rw [h82 hu,hC],H.mod⟩
  rw [if_pos hu] at hC
  refine ite_false (by rw [decide_eq_true hu]; rfl) (H.aG 0 rfl (H.dD 1 rfl (aC (ajZ s t q h1 hs _ (hx.aI H.mod)) ?_)))
  rintro _ w7 ⟨rfl,m7⟩
  have H:=H.frame m7
  refine bh ?_
  cases hf:aW 1 (t.bq.length:Int) q.n3 with
  | false=>
   rw [hf,if_neg (by decide)] at hC
   exact ite_true rfl ⟨by rw [hC],H.mod⟩
  | true=>
  rw [hf,if_pos rfl] at hC
  have K:=H.drew
  refine ite_false rfl (K.ay 0 rfl (an p 2) rfl (K.au 2 rfl (an p2 1) rfl (K.aG 0 rfl (K.dD 1 rfl (aC (aj0 s t q h1 _) ?_)))))
  rintro _ w8 ⟨rfl,m8⟩
  have K2:=K.frame m8
  refine ⟨_,rfl,K.kept m8 2 rfl (an p2 1) 1,K.kept m8 0 rfl (an p 2) 1,aC (ahn s.ten t.bq rK _ _ _ (hx.ten.aI K2.mod)) ?_⟩
  rintro _ w9 ⟨rfl,m9⟩
  have H:=K2.frame m9
  refine bh ?_
  rw [hD] at hC
  cases ha:wR t.bq (dy q t).ten (q.n3) with
  | true=>
   rw [ha,if_pos rfl] at hC
   exact ite_true rfl ⟨by rw [hC],H.mod⟩
  | false=>
  rw [ha,if_neg (by decide)] at hC
  refine ite_false rfl (H.au 1 rfl (an p1 2) rfl (H.au 1 rfl (an p1 2) rfl (H.au 1 rfl (an p1 2) rfl ?_)))
  refine ite_true ?_ ⟨by rw [hC],H.mod⟩
  show (((!decide (q.n2=9)) && (!decide (q.n2=10))) && (!decide (q.n2=11)))=true
  rw [h1]; rfl
 refine gm fun iH fH=>?_
 have LJ:∀ w4,aq w [] w4 [.av p (t.cs s) aA,.av p1 q.cells dx]→(dh t && iP q)=false→iH true w4:=by
  intro w4 K e
  rw [e,if_neg (by decide)] at hC
  exact fH _ _ (ite_true rfl ⟨by rw [hC],K.mod⟩)
 refine H.aG 0 rfl (aC (Ch s t hs _ (hx.aI H.mod)) ?_)
 rintro _ nv ⟨rfl,HR⟩
 have H:=H.frame HR
 refine bh (H.dD 1 rfl ?_)
 cases hm:dh t with
 | false=>exact ite_true rfl (LJ _ H (by rw [hm]; rfl))
 | true=>
  refine ite_false rfl (aC (aif q _) ?_)
  rintro _ mN ⟨rfl,Wm⟩
  have H:=H.frame Wm
  refine bh ?_
  cases hq:iP q with
  | false=>exact LJ _ H (by rw [hm,hq]; rfl)
  | true=>
   have hwh:=aji hq
   refine fH _ _ (ite_false rfl (H.au 1 rfl (an p1 0) rfl (H.ay 0 rfl (an p 3) rfl ?_)))
   show az (decide ((s.aE.n:Int)<q.n0)) _ _
   by_cases hw:(s.aE.n:Int)<q.n0
   ·have e:aW 1 (t.aE.length:Int) q.n0=false:=by unfold aW; rw [decide_eq_false (show ¬ q.n0≤(t.aE.length:Int) by omega),Bool.and_false]
    rw [hm,hq,if_pos (show (true && true)=true from rfl),e,if_neg (by decide)] at hC
    exact ite_true (decide_eq_true hw) ⟨by rw [hC],H.mod⟩
   ·refine ite_false (decide_eq_false hw) (beh _ H hm hq ?_)
    unfold aW
    rw [decide_eq_true (show 1≤q.n0 by omega),decide_eq_true (show q.n0≤(t.aE.length:Int) by omega)]; rfl
theorem aj1 {w0 w:World} {S:List Nat} {q:bL} {t:aJ} {s:cL} {sd:ah} {ys zs:List ah} {fp fq:List Nat} (H:aq w0 S w (kA s t ys zs fp fq)) (hs:t.small) (e1:q.n2=1) :
 Ok Pr Oy [.agg ⟨t.cs s⟩,.agg ⟨q.cells⟩,.slice sd.a sd.n sd.c] w fun v w'=>Made w0 S w' v (rA q t) (A9 q t) (kV t.bq q.n3 q.name):=by
 refine af5 ?_
 unfold O4
 rw [lV,wM,CQ]
 have hR0:bN w s t:=SU (L:=[]) H
 have rJ:=hR0.aE.len
 have zK:=hR0.key.len
 have rK:=hs.ten
 refine H.nw fun p w1 H _=>H.nw fun p1 w2 H _=>H.nw fun p2 w3 H _=>H.nw fun p3 w4 H _=>?_
 have H:aq w0 S w4 (kA s t ys zs fp fq ++ [.av p (t.cs s) aA,.av p1 q.cells dx,.av p2 (bK.cs sZ) aA,.av p3 (gx 0 0 ⟨none,0,0⟩ ⟨none,0,0⟩) eH]):=H
 refine H.au 8 rfl (an p1 2) rfl ?_
 refine ite_true (decide_eq_true e1) (H.ay 7 rfl (an p 2) rfl (H.au 8 rfl (an p1 3) rfl (H.dR 8 rfl (an p1 11) rfl (aC (aip s.ten t.bq (by omega) q.n3 q.name _ (fE.of (H.gQ 1 rfl))) ?_))))
 rintro _ w5 ⟨y,rfl,K⟩
 have H:=H.join K
 refine ⟨_,rfl,y,rfl,_,rfl,_,rfl,rfl,H.st 7 rfl (an p 2) (by show 2<6; omega) rfl fun w6 H=>H.aG 7 rfl ?_⟩
 refine akF H (T':=rA q t) (s':=⟨s.sec,y,s.aE,s.key,s.gr⟩) 9 10 rfl rfl rfl rfl (by decide) fun w' H h0=>?_
 refine ⟨rfl,rfl,ys,zs,fp,fq,?_⟩
 exact KV (H.eu (L':=kA ⟨s.sec,y,s.aE,s.key,s.gr⟩ (rA q t) ys zs fp fq) [0,11,2,3,4,5,6] (by decide) rfl)
theorem amg (s:cL) (t:aJ) (q:bL) (sd:ah) (e1:q.n2=1) (hs:t.small) (w:World) (hx:bN w s t) :
  Ok Pr QY [.agg ⟨t.cs s⟩,.agg ⟨q.cells⟩,.slice sd.a sd.n sd.c] w fun v w'=>F9 w w' v (jz q t) (jS q t) (zS q t):=by
 refine ahV ?_
 unfold Rr
 rw [lV,wM,E9]
 have hC:jS q t=if rP q t=0 then kV t.bq q.n3 q.name else rP q t:=rfl
 have hT:jz q t=if jS q t=0 then rA q (mW q t) else bK:=rfl
 have hR:zS q t=if jS q t=0 then A9 q t else ⟨0,[],[]⟩:=rfl
 generalize jS q t=C at *
 generalize jz q t=T at *
 generalize zS q t=R at *
 refine (aq.start w).nw fun p w1 H _=>H.nw fun p1 w2 H _=>H.nw fun p2 w3 H _=>H.nw fun p3 w4 H _=>?_
 have H:aq w [] w4 [.av p (t.cs s) aA,.av p1 q.cells dx,.av p2 (bK.cs sZ) aA,.av p3 (gx 0 0 ⟨none,0,0⟩ ⟨none,0,0⟩) eH]:=H
 refine H.aG 0 rfl (H.dD 1 rfl (aC (amf s t q e1 hs _ (hx.aI H.mod)) ?_))
 rintro _ w5 ⟨rfl,m5⟩
 have H:=H.frame m5
 have fail:∀ {w6:World} {e:Int},e≠0→C=e→aq w [] w6 [.av p2 (bK.cs sZ) aA,.av p3 (gx 0 0 ⟨none,0,0⟩ ⟨none,0,0⟩) eH]→
   aV ⟨p2,0,none⟩ 0 ⟨none,0,0⟩ ⟨none,0,0⟩ ⟨none,0,0⟩ ⟨none,0,0⟩ ⟨none,0,0⟩ w6 fun w7=>ew ⟨p3,0,none⟩ e 0 ⟨none,0,0⟩ ⟨none,0,0⟩ w7 fun w8=>aG ⟨p2,0,none⟩ w8 fun g0 g1 g2 g3 g4 g5=>eX ⟨p3,0,none⟩ w8 fun r0 r1 r2 r3=>
    F9 w w8 (.tuple ⟨[.agg ⟨[.int .i64 g0,.slice g1.a g1.n g1.c,.slice g2.a g2.n g2.c,.slice g3.a g3.n g3.c,.slice g4.a g4.n g4.c,.slice g5.a g5.n g5.c]⟩,.agg ⟨[.int .i64 r0,.int .i64 r1,.slice r2.a r2.n r2.c,.slice r3.a r3.n r3.c]⟩,.int .i64 e]⟩) T C R:=by
  intro w6 e he hCe K
  rw [hCe] at hT hR ⊢
  rw [if_neg he] at hT hR
  subst hT hR
  refine K.aV 0 rfl rfl fun w7 K=>K.ew 1 rfl rfl fun w8 K=>K.aG 0 rfl (K.eX 1 rfl ?_)
  exact ⟨sZ,[],[],[],[],⟨none,0,0⟩,⟨none,0,0⟩,rfl,(KV (RW K)).drop 2⟩
 refine ⟨_,rfl,?_⟩
 by_cases h0:rP q t=0
 case neg=>
  rw [if_neg h0] at hC
  exact ite_true (by rw [decide_eq_false h0]; rfl) (fail h0 hC (H.drop 2))
 rw [if_pos h0] at hC
 have hw:aW 1 (t.aE.length:Int) q.n0=true:=by
  unfold rP xm at h0
  split at h0
  ·split at h0
   ·assumption
   ·omega
  ·omega
 refine ite_false (by rw [decide_eq_true h0]; rfl) (H.aG 0 rfl (aC (XA s t hs _ (hx.aI H.mod)) ?_))
 rintro _ w8 ⟨s',ys,zs,fp,fq,rfl,K⟩
 have H:=H.join K
 refine jT (H.nw fun p4 w9 H _=>H.aV 11 rfl rfl fun dN H=>H.nw fun p5 fZ H _=>?_)
 have H:aq w [] fZ (kA s' t ys zs fp fq ++ [.av p1 q.cells dx,.av p2 (bK.cs sZ) aA,.av p3 (gx 0 0 ⟨none,0,0⟩ ⟨none,0,0⟩) eH,.av p4 (t.cs s') aA,.av p5 (gx 0 0 ⟨none,0,0⟩ ⟨none,0,0⟩) eH]):=H.eu [4,5,6,7,8,9,10,1,2,3,11,12] (by decide) rfl
 refine gm fun go bX=>?_
 have bad:∀ {dO:World},C≠0→aq w [] dO [.av p2 (bK.cs sZ) aA,.av p3 (gx 0 0 ⟨none,0,0⟩ ⟨none,0,0⟩) eH]→go C dO:=fun hc K=>
  bX _ _ (ite_true (by rw [decide_eq_false hc]; rfl) (fail hc rfl K))
 have aN:∀ {dO:World} {s2:cL} {zT HS:List ah} {l6 HT:List Nat} {y z:ah},C=0→aq w [] dO (kA s2 (rA q t) zT HS l6 HT ++ [.cut y R.dG,.cut z R.ex,.av p1 q.cells dx,.av p2 (bK.cs sZ) aA,.av p3 (gx 0 0 ⟨none,0,0⟩ ⟨none,0,0⟩) eH,.av p4 ((rA q t).cs s2) aA,.av p5 (gx 0 R.id y z) eH])→go 0 dO:=by
  intro dO s2 zT HS l6 HT y z hc K
  rw [hc] at hT hR
  rw [if_pos rfl] at hT
  have hT:T=mW q (rA q t):=hT
  have hp1:(rA q t).aE.length=t.aE.length:=rfl
  have sS:=hs.aE
  obtain ⟨i,ei,en,hi⟩:=Ap hw
  generalize rA q t=T2 at *
  have DJ:i<T2.aE.length:=by omega
  have T6:dy q T2=T2.aE.getD i eJ:=by unfold dy; rw [en]
  refine bX _ _ (ite_false rfl ?_)
  obtain ⟨zM,cU,x,fK,LD⟩:=al1 K DJ
  rw [← T6] at zM LD
  have Wn:aH (q.n0 - 1):=by unfold aH; omega
  refine K.ay 12 rfl (an p4 3) rfl (K.au 9 rfl (an p1 0) rfl ⟨Wn,?_⟩)
  show aZ s2.aE.a (q.n0 - 1) s2.aE.n _
  rw [ei]
  refine ⟨cU,Ep LD (K.nw fun p6 nv K _=>K.p9 14 rfl rfl fun mN K=>?_)⟩
  have Hu:zT.length=T2.aE.length:=(K.box 4 rfl:br lE _ zT T2.aE).1
  have D:=K.drew
  refine D.ay 12 rfl (an p4 3) rfl (D.au 9 rfl (an p1 0) rfl ⟨Wn,D.ay 12 rfl (an p4 3) rfl (D.au 9 rfl (an p1 0) rfl ⟨Wn,D.au 14 rfl (an p6 3) rfl (D.au 14 rfl (an p6 4) rfl (D.au 9 rfl (an p1 1) rfl (aC (XM (dy q T2).high (dy q T2).used q.n1 _) ?_)))⟩)⟩)
  rintro _ pU ⟨rfl,rL⟩
  have E:=D.frame rL
  refine ⟨_,rfl,_,rfl,_,rfl,_,rfl,rfl,D.kept rL 9 rfl (an p1 0) 1,D.kept rL 12 rfl (an p4 3) 1,D.kept rL 9 rfl (an p1 0) 1,D.kept rL 12 rfl (an p4 3) 1,?_⟩
  show aZ s2.aE.a (q.n0 - 1) s2.aE.n _
  rw [ei]
  refine ⟨cU,E.nO 3 rfl cv.eo Hu zM fK (a':={ dy q T2 with high:=ur (dy q T2).high (dy q T2).used q.n1 }) (by omega:3<5) rfl rfl fun wh F=>⟨X6 (E.av 9 rfl) (F.av 9 rfl) 0 1,X6 (E.av 12 rfl) (F.av 12 rfl) 3 1,?_⟩⟩
  refine ⟨cU,F.nO 3 rfl cv.eo (by rw [List.length_set]; exact Hu) (a:={ dy q T2 with high:=ur (dy q T2).high (dy q T2).used q.n1 }) (a':=yX q (dy q T2)) (by rw [List.getElem?_set,if_pos rfl,if_pos DJ]) fK (by omega:4<5) rfl rfl fun xN G=>?_⟩
  rw [List.set_set,List.set_set] at G
  have G:=G.E8 (Q':=fun w=>br lE w zT (T2.aE.set i (yX q (dy q T2)))) 4 rfl fun w h=>by
   have:=br.put h (i:=i) (x:=x) (a:=yX q (dy q T2)) (h.2 i x _ fK zM:lE w x (dy q T2))
   rwa [Cm fK] at this
  have eT:mW q T2={ T2 with aE:=T2.aE.set i (yX q (dy q T2)) }:=by unfold mW; rw [en]
  have G:aq w [] xN.drew (kA s2 (mW q T2) zT HS l6 HT ++ [.cut y R.dG,.cut z R.ex,.av p2 (bK.cs sZ) aA,.av p3 (gx 0 0 ⟨none,0,0⟩ ⟨none,0,0⟩) eH,.av p4 ((mW q T2).cs s2) aA,.av p5 (gx 0 R.id y z) eH]):=by
   rw [eT]
   exact G.drew.eu [0,1,2,3,4,5,6,7,8,10,11,12,13] (by decide) rfl
  refine G.aG 11 rfl (G.eX 12 rfl (G.aV 9 rfl rfl fun Lr G2=>⟨ZK (G.av 12 rfl) (G2.av 12 rfl) 4,G2.ew 10 rfl rfl fun Ls G=>G.aG 9 rfl (G.eX 10 rfl ?_)⟩))
  rw [hT,hc]
  exact ⟨s2,zT,HS,l6,HT,y,z,rfl,G.take 9⟩
 refine H.au 7 rfl (an p1 2) rfl (ite_true (by rw [e1]; rfl) (H.aG 10 rfl (H.dD 7 rfl ?_)))
 refine aC (aj1 H.sub hs e1) ?_
 rintro _ LB ⟨T',s2,rc,ri,y,z,rfl,K0,h2⟩
 rw [← hC] at h2 ⊢
 refine ⟨_,rfl,jT (zW ⟨_,rfl,rfl,?_⟩)⟩
 by_cases hc:C=0
 ·obtain ⟨rfl,rfl,rfl,zT,HS,l6,HT,K⟩:=h2 hc
  have V8:R=A9 q t:=by rw [hR,if_pos hc]
  rw [← V8] at K ⊢
  have K:=H.back K
  refine K.aV 12 rfl rfl fun xR K=>K.ew 13 rfl rfl fun HU K=>?_
  rw [hc]
  exact aN hc K
 ·have K:=H.back K0
  exact K.aV 3 rfl rfl fun xR K=>K.ew 4 rfl rfl fun HU K=>bad hc (K.eu [1,2] (by decide) rfl)
theorem aiS (s:cL) (t:aJ) (q:bL) (sd:ah) (h1:q.n2=1) (hs:t.small) (w:World) (hx:bN w s t) :
  Ok Pr NW [.agg ⟨t.cs s⟩,.agg ⟨cY q sd⟩] w fun v w'=>F9 w w' v (jz q t) (jS q t) (zS q t):=by
 refine afB ?_
 unfold Ow
 rw [lV,wM]
 refine (aq.start w).nw fun p w1 H _=>H.nw fun p1 w2 H _=>H.nw fun p2 w3 H _=>H.nw fun p3 w4 H _=>?_
 have H:aq w [] w4 [.av p (t.cs s) aA,.av p1 (cY q sd) cV,.av p2 (bK.cs sZ) aA,.av p3 (gx 0 0 ⟨none,0,0⟩ ⟨none,0,0⟩) eH]:=H
 refine H.au 1 (i:=2) rfl (by rw [an,tN]) rfl (ite_true (by rw [decide_eq_false (show ¬ q.n2=14 by omega)]; rfl) (H.aG 0 rfl ?_))
 refine Ey (c0:=q.n0) (c1:=q.n1) (c2:=q.n2) (c3:=q.n3) (c4:=q.n4) (c5:=q.n5) (c6:=q.n6) (c7:=q.n7) (c8:=q.n8) (c9:=q.n9) (eZ:=q.l7) (fh:=q.name) (dS:=q.dG) (dU:=q.tok) (fun i v hv=>?_) ?_
 ·refine H.cell 1 (i:=i) rfl (by rw [an,an]) ?_
  have hi:=(List.getElem?_eq_some_iff.1 hv).1
  have:(cY q sd)[i]? = (q.cells ++ [sd.v])[i]?:=rfl
  rw [this,List.getElem?_append_left hi]
  exact hv
 refine H.ay 1 rfl (an p1 14) rfl (aC (amg s t q sd h1 hs w4 (hx.aI H.mod)) ?_)
 rintro _ w5 ⟨s',ys,zs,fp,fq,y,z,rfl,G⟩
 have K:=H.join G
 refine ⟨_,rfl,jT (zW (cr ⟨rfl,K.aV 2 rfl rfl fun w6 K=>K.ew 3 rfl rfl fun w7 K=>K.aG 2 rfl (K.eX 3 rfl ?_)⟩))⟩
 refine ⟨s',ys,zs,fp,fq,y,z,rfl,?_⟩
 exact K.eu (L':=kA s' (jz q t) ys zs fp fq ++ [.cut y (zS q t).dG,.cut z (zS q t).ex]) [4,5,6,7,8,9,10,11,12] (by decide) rfl
end Go.Proofs.YtpchgbolambkcaaGreatDoor
end
section
set_option linter.unusedVariables false
set_option linter.unusedSimpArgs false
namespace Go.Proofs.YtpchgbolambkcaaGreatDoor
open Go Go.Ev
set_option maxRecDepth 20000
set_option linter.unusedVariables false
structure pL (gen count:Int) (D:aU) (nl:List ByteArray) (ts:List aJ):Prop where
 ok:D.ok 110
 Wo:dK D=some (gen,count,ts.getD 0 bK)
 Wp:∀ j,0≤j→j<80→gA D j=false
 HV:nl.length≤10
 len:ts.length=nl.length+1
 step:∀ k,k<nl.length→ByteArray.size (nl.getD k eO)≤300∧jS (j9 ((k:Int)+1) (nl.getD k eO)).q (ts.getD k bK)=0∧ts.getD (k+1) bK=jz (j9 ((k:Int)+1) (nl.getD k eO)).q (ts.getD k bK)
 av:∀ k,k<nl.length→lZ D (80+(k:Int)) gen (count+(k:Int)+2) (gu ((k:Int)+1) (nl.getD k eO))
 HW:∀ j,80+(nl.length:Int)≤j→j<110→aX D j=fI∧gA D j=false
 frm:∀ j,80≤j→j<110→gA D j=true→jP D j=fI
 cons:Cons D
section
variable {gen count:Int} {D:aU} {nl:List ByteArray} {ts:List aJ}
theorem Ts {D D':aU} {a gen number n:Int} {name:ByteArray} (hn:ByteArray.size name≤300) (h:lZ D a gen number (gu n name)) (e:aX D' a=aX D a):lZ D' a gen number (gu n name):=by
 have hp:bM (gu n name).length=1:=tI (by omega)
 refine h.congr fun j j1 j2=>?_
 rw [hp] at j2
 rw [show j=a by omega]; exact e
theorem pL.flush (h:pL gen count D nl ts):pL gen count (eE D [true]) nl ts:=by
 have hn:=h.ok.now
 obtain ⟨c1,c2,c3,c4⟩:=sw h.ok [true]
 have fl:=fun j j1 (j2:j<110)=>R6 h.ok j j1 j2
 refine ⟨c1,?_,fun j j1 j2=>c4 j j1 (by omega),h.HV,h.len,h.step,fun k hk=>?_,fun j j1 j2=>⟨?_,c4 j (by omega) (by omega)⟩,fun j j1 j2 hd=>?_,fun j j1 j2 _=>?_⟩
 ·rw [Ar (AG h.ok _) fun j j1 j2=>fl j j1 (by omega)]; exact h.Wo
 ·have:=h.HV
  exact Ts (h.step k hk).1 (h.av k hk) (fl _ (by omega) (by omega))
 ·rw [fl j (by omega) j2]; exact (h.HW j j1 j2).1
 ·rw [c4 j (by omega) (by omega)] at hd; cases hd
 ·rw [AG h.ok,hn] at j2
  exact R5 h.ok h.cons [true] j j1 j2
theorem pL.app (h:pL gen count D nl ts) (hg:1≤gen∧gen≤100) (hc:0≤count∧count≤100) (cI:nl.length<10) {name:ByteArray} (hn:ByteArray.size name≤300) (hq:jS (j9 ((nl.length:Int)+1) name).q (ts.getD nl.length bK)=0) :
  iz D (80+(nl.length:Int)) (D.now.length:Int) gen (count+(nl.length:Int)+2) (gu ((nl.length:Int)+1) name)=0∧
   pL gen count (fM D (80+(nl.length:Int)) (D.now.length:Int) gen (count+(nl.length:Int)+2) (gu ((nl.length:Int)+1) name)) (nl ++ [name]) (ts ++ [jz (j9 ((nl.length:Int)+1) name).q (ts.getD nl.length bK)]):=by
 have hD:=h.ok.now
 have hl:=h.len
 have hp:bM (gu ((nl.length:Int)+1) name).length=1:=tI (by omega)
 obtain ⟨g1,g2,g3,g4⟩:=Wc h.ok (a:=80+(nl.length:Int)) (gen:=gen) (c:=count+(nl.length:Int)) (n:=(nl.length:Int)+1) (name:=name) (by omega) (by omega) (by omega) (by omega)
 have fd:=fun j j1=>Tr h.ok g1 j j1
 have cn:=SG h.ok h.cons g1
 have ok:=AK h.ok (80+(nl.length:Int)) (D.now.length:Int) gen (count+(nl.length:Int)+2) (gu ((nl.length:Int)+1) name)
 rw [hp] at fd
 refine ⟨g1,?_⟩
 generalize fM D (80+(nl.length:Int)) (D.now.length:Int) gen (count+(nl.length:Int)+2) (gu ((nl.length:Int)+1) name)=D2 at *
 have eN:∀ k,k<nl.length→(nl ++ [name]).getD k eO=nl.getD k eO:=fun k hk=>by rw [List.getD_eq_getElem?_getD,List.getElem?_append_left hk,List.getD_eq_getElem?_getD]
 have eT:∀ k,k<ts.length→(ts ++ [jz (j9 ((nl.length:Int)+1) name).q (ts.getD nl.length bK)]).getD k bK=ts.getD k bK:=fun k hk=>by rw [List.getD_eq_getElem?_getD,List.getElem?_append_left hk,List.getD_eq_getElem?_getD]
 have eN2:(nl ++ [name]).getD nl.length eO=name:=by rw [List.getD_eq_getElem?_getD,List.getElem?_append_right (Nat.le_refl _),Nat.sub_self]; rfl
 have Wq:(ts ++ [jz (j9 ((nl.length:Int)+1) name).q (ts.getD nl.length bK)]).getD (nl.length+1) bK=jz (j9 ((nl.length:Int)+1) name).q (ts.getD nl.length bK):=by rw [← hl,List.getD_eq_getElem?_getD,List.getElem?_append_right (Nat.le_refl _),Nat.sub_self]; rfl
 have hL:(nl ++ [name]).length=nl.length+1:=by simp
 refine ⟨ok,?_,fun j j1 j2=>?_,by omega,by simp [hl],fun k hk=>?_,fun k hk=>?_,fun j j1 j2=>?_,fun j j1 j2 hd=>?_,cn⟩
 ·rw [eT 0 (by omega),Ar g3 fun j j1 j2=>g4 j j1 (by omega)]; exact h.Wo
 ·rw [(fd j j1).2,if_neg (by omega)]; exact h.Wp j j1 j2
 ·rw [hL] at hk
  rcases Nat.lt_or_ge k nl.length with h1 | h1
  ·rw [eN k h1,eT k (by omega),eT (k+1) (by omega)]; exact h.step k h1
  ·obtain rfl:k=nl.length:=by omega
   rw [eN2,eT _ (by omega),Wq]
   exact ⟨hn,hq,rfl⟩
 ·rw [hL] at hk
  rcases Nat.lt_or_ge k nl.length with h1 | h1
  ·rw [eN k h1]
   exact Ts (h.step k h1).1 (h.av k h1) (g4 _ (by omega) (by omega))
  ·obtain rfl:k=nl.length:=by omega
   rw [eN2]; exact g2
 ·rw [hL] at j1
  rw [g4 j (by omega) (by omega),(fd j (by omega)).2,if_neg (by omega)]
  exact h.HW j (by omega) j2
 ·rw [(fd j (by omega)).1]
  by_cases hj:80+(nl.length:Int)≤j
  ·obtain ⟨z1,z2⟩:=h.HW j hj j2
   rw [h.cons j (by omega) (by omega) z2]; exact z1
  ·rw [(fd j (by omega)).2,if_neg (by omega)] at hd
   exact h.frm j j1 j2 hd
def abN (D:aU) (keep:List Bool) (a L:Int):Prop:=(∃ q,q<(dZ D).length∧gR keep q=false∧L=(dZ D).getD q 0∧∀ r,r<q→gR keep r=true)∨(L=a∧∀ r,r<(dZ D).length→gR keep r=true)
theorem pL.replay {D':aU} (hn':D'.now.length=110) (h:pL gen count D nl ts) (hg:1≤gen∧gen≤100) (hc:0≤count∧count≤100) {n:Nat} (hn:n≤nl.length) (hb:∀ k:Nat,k<n→aX D' (80+(k:Int))=aX D (80+(k:Int))) (hz:aX D' (80+(n:Int))=fI) :
  ∀ (d k K:Nat),k+d=n→d<K→kJ oO ir D' gen K (80+(k:Int)) (count+(k:Int)) (ts.getD k bK) (count+(n:Int),80+(n:Int),ts.getD n bK)
 | 0,k,K,hk,hK=>by
  obtain rfl:k=n:=by omega
  cases K with
  | zero=>omega
  | succ K=>exact kJ.stop (AV fun _=>hz)
 | d+1,k,K,hk,hK=>by
  cases K with
  | zero=>omega
  | succ K=>
  have hf:=h.HV
  obtain ⟨s1,s2,s3⟩:=h.step k (by omega)
  have hp:bM (gu ((k:Int)+1) (nl.getD k eO)).length=1:=tI (by omega)
  have ih:=pL.replay hn' h hg hc hn hb hz d (k+1) K (by omega) (by omega)
  refine kJ.step (RJ (by omega) (by omega) (by omega) (by omega) (Ts s1 (h.av k (by omega)) (hb k (by omega)))) (S0 ⟨by omega,by omega⟩ s1) rfl (u:=ts.getD (k+1) bK) ?_ ?_
  ·unfold ir
   rw [if_pos s2,s3]
  ·rw [hp,show 80+(k:Int)+((1:Nat):Int)=80+((k+1:Nat):Int) by omega,show count+(k:Int)+1=count+((k+1:Nat):Int) by omega]
   exact ih
theorem pL.anV (h:pL gen count D nl ts) (hg:1≤gen∧gen≤100) (hc:0≤count∧count≤100) {keep:List Bool} {L:Int} (hL:abN D keep (80+(nl.length:Int)) L) :
  ∃ n:Nat,n≤nl.length∧L=80+(n:Int)∧(eE D keep).ok 110∧pn ir (eE D keep)=(gen,count+(n:Int),80+(n:Int),ts.getD n bK)∧uT oO ir (eE D keep)∧gD (eE D keep)=0:=by
 have hD:=h.ok.now
 have hf:=h.HV
 obtain ⟨c1,c2,c3,c4⟩:=sw h.ok keep
 have ln:=AG h.ok keep
 have hi:LF (dZ D) 110:=by unfold dZ; rw [hD]; exact aat _ _
 have dr:∀ q,q<(dZ D).length→gA D ((dZ D).getD q 0)=true∧80≤(dZ D).getD q 0∧(dZ D).getD q 0<80+(nl.length:Int):=by
  intro q hq
  have hr:=hi.Wf q hq
  obtain ⟨i,e,_,hd⟩:=Ke (wU (l:=dZ D) (d:=0) hq)
  have hd:gA D ((dZ D).getD q 0)=true:=by unfold gA; rw [e,Int.toNat_natCast]; exact hd
  refine ⟨hd,?_,?_⟩
  ·apply Classical.byContradiction
   intro cI
   rw [h.Wp _ hr.1 (by omega)] at hd; cases hd
  ·apply Classical.byContradiction
   intro cI
   rw [(h.HW _ (by omega) (by omega)).2] at hd; cases hd
 have nU:dK (eE D keep)=some (gen,count,ts.getD 0 bK):=by
  rw [Ar ln fun j j1 j2=>(c2 j j1 (by omega) (h.Wp j j1 j2)).1]; exact h.Wo
 have main:∀ n:Nat,n≤nl.length→(∀ k:Nat,k<n→aX (eE D keep) (80+(k:Int))=aX D (80+(k:Int)))→aX (eE D keep) (80+(n:Int))=fI→
   pn ir (eE D keep)=(gen,count+(n:Int),80+(n:Int),ts.getD n bK)∧uT oO ir (eE D keep)∧gD (eE D keep)=0:=by
  intro n hn hb hz
  have:=pL.replay (by omega) h hg hc hn hb hz n 0 ((eE D keep).now.length+1) (by omega) (by omega)
  rw [show (80:Int)+((0:Nat):Int)=80 by omega,show count+((0:Nat):Int)=count by omega] at this
  exact AL nU (by omega) this
 rcases hL with ⟨q,hq,hk,rfl,aoT⟩ | ⟨rfl,nP⟩
 ·obtain ⟨d1,d2,d3⟩:=dr q hq
  obtain ⟨n,hn⟩:∃ n:Nat,(dZ D).getD q 0=80+(n:Int):=⟨((dZ D).getD q 0 - 80).toNat,by omega⟩
  refine ⟨n,by omega,hn,c1,main n (by omega) (fun k xy=>?_) ?_⟩
  ·cases hd:gA D (80+(k:Int)) with
   | false=>exact (c2 _ (by omega) (by omega) hd).1
   | true=>
    obtain ⟨r,hr,e⟩:=yM h.ok (j:=80+(k:Int)) ⟨by omega,by omega⟩ hd
    have hrq:r<q:=by
     rcases Nat.lt_trichotomy r q with h1 | h1 | h1
     ·exact h1
     ·subst h1; omega
     ·have:=hi.lt q r h1 hr; omega
    have:=(c3 r hr).1
    rwa [e,aoT r hrq,if_pos rfl] at this
  ·have:=(c3 q hq).1
   rw [hk,if_neg (by decide),hn] at this
   rw [this]
   exact h.frm _ (by omega) (by omega) (by rw [← hn]; exact d1)
 ·refine ⟨nl.length,Nat.le_refl _,rfl,c1,main nl.length (Nat.le_refl _) (fun k xy=>?_) ?_⟩
  ·cases hd:gA D (80+(k:Int)) with
   | false=>exact (c2 _ (by omega) (by omega) hd).1
   | true=>
    obtain ⟨r,hr,e⟩:=yM h.ok (j:=80+(k:Int)) ⟨by omega,by omega⟩ hd
    have:=(c3 r hr).1
    rwa [e,nP r hr,if_pos rfl] at this
  ·obtain ⟨z1,z2⟩:=h.HW (80+(nl.length:Int)) (by omega) (by omega)
   rw [(c2 _ (by omega) (by omega) z2).1]; exact z1
end
theorem ak7 {gen count:Int} (hg:1≤gen∧gen≤100) (hc:0≤count∧count≤100):oE (cX 110) gen count (fN gq)=0∧(dB (cX 110) gen count (fN gq)).ok 110∧pL gen count (eE (dB (cX 110) gen count (fN gq)) [true]) [] [fN gq]:=by
 have hD:=vA 110 (by decide)
 have hn:=CL 110
 have hr:=qu gen
 have hz:cQ (cX 110) (cR gen)=none:=sv (by rw [tL 110 (cR gen) (by omega)]; exact rj)
 have hM:=mQ.1 ack
 obtain ⟨h1,h2,h3,h4,h5⟩:=AM hD (gen:=gen) (count:=count) hM (AW _) ⟨hg.1,by omega⟩ ⟨hc.1,by omega⟩ (by omega) (.inl hz)
 obtain ⟨k1,k2,k3⟩:=Dr (D:=cX 110) (gen:=gen) (count:=count) hM hg.1 ⟨hc.1,by omega⟩ (by omega)
 have cn:Cons (dB (cX 110) gen count (fN gq)):=by rw [k2]; exact SG hD (ZT 110) k3
 generalize fN gq=T at *
 refine ⟨h1,h5,?_⟩
 generalize dB (cX 110) gen count T=D at *
 have pN:=h5.now
 obtain ⟨c1,c2,c3,c4⟩:=sw h5 [true]
 have fl:=fun j j1 (j2:j<110)=>R6 h5 j j1 j2
 refine ⟨c1,?_,fun j j1 j2=>c4 j j1 (by omega),by simp,rfl,fun k hk=>(by cases hk),fun k hk=>(by cases hk),fun j j1 j2=>⟨?_,c4 j (by omega) (by omega)⟩,fun j j1 j2 hd=>?_,fun j j1 j2 _=>?_⟩
 ·rw [Ar (AG h5 _) fun j j1 j2=>fl j j1 (by omega)]; exact h2
 ·have j1:80≤j:=by simpa using j1
  rw [fl j (by omega) j2,h4 j (by omega) (by omega)]
  exact tL 110 j ⟨by omega,by omega⟩
 ·rw [c4 j (by omega) (by omega)] at hd; cases hd
 ·rw [AG h5,pN] at j2
  exact R5 h5 cn [true] j j1 j2
end Go.Proofs.YtpchgbolambkcaaGreatDoor
end
section
set_option linter.unusedVariables false
set_option linter.unusedSimpArgs false
namespace Go.Proofs.YtpchgbolambkcaaGreatDoor
open Go Go.Ev
set_option maxRecDepth 20000
set_option linter.unusedVariables false
set_option maxHeartbeats 1000000
theorem amh:fQ Pr IV aA 6 128:=fQ.of (by kernel_rfl)
def lI:List cL→List aJ→List Value
 | s :: ss,t :: ts=>t.cs s ++ lI ss ts
 | _,_=>[]
theorem aax:∀ (ss:List cL) (ts:List aJ),ss.length=ts.length→(lI ss ts).length=6 * ts.length
 | [],[],_=>rfl
 | s :: ss,t :: ts,h=>by
  show (t.cs s ++ lI ss ts).length=_
  rw [List.length_append,aax ss ts (by simpa using h)]
  show 6+6 * ts.length=6 * (ts.length+1)
  omega
 | [],_ :: _,h=>by simp at h
 | _ :: _,[],h=>by simp at h
theorem abm:∀ (ss:List cL) (ts:List aJ),ss.length=ts.length→∀ (k:Nat) (s:cL) (t:aJ),ss[k]? = some s→ts[k]? = some t→∀ (j:Nat) (v:Value),(t.cs s)[j]? = some v→(lI ss ts)[k * 6+j]? = some v
 | s :: ss,t :: ts,h,k,s',t',hs,ht,j,v,hv=>by
  have hj:j<6:=(List.getElem?_eq_some_iff.1 hv).1
  show (t.cs s ++ lI ss ts)[k * 6+j]? = some v
  cases k with
  | zero=>
   simp only [List.getElem?_cons_zero,Option.some.injEq] at hs ht
   subst hs ht
   rw [List.getElem?_append_left (show 0 * 6+j<6 by omega),show 0 * 6+j=j by omega]; exact hv
  | succ k=>
   simp only [List.getElem?_cons_succ] at hs ht
   rw [List.getElem?_append_right (show 6≤(k+1) * 6+j by omega)]
   have:=abm ss ts (by simpa using h) k s' t' hs ht j v hv
   have e:(k+1) * 6+j - (t.cs s).length=k * 6+j:=by show (k+1) * 6+j - 6=_; omega
   rw [e]; exact this
 | [],_,_,k,_,_,hs,_,_,_,_=>by simp at hs
 | _ :: _,[],h,_,_,_,_,_,_,_,_=>by simp at h
theorem aay:∀ (ss:List cL) (ts:List aJ),ss.length=ts.length→∀ (s:cL) (t:aJ),lI (ss ++ [s]) (ts ++ [t])=lI ss ts ++ t.cs s
 | [],[],_,s,t=>by show t.cs s ++ []=[] ++ t.cs s; simp
 | s' :: ss,t' :: ts,h,s,t=>by
  show t'.cs s' ++ lI (ss ++ [s]) (ts ++ [t])=(t'.cs s' ++ lI ss ts) ++ t.cs s
  rw [aay ss ts (by simpa using h),List.append_assoc]
 | [],_ :: _,h,_,_=>by simp at h
 | _ :: _,[],h,_,_=>by simp at h
def lQ (ss:List cL) (ts:List aJ) (w:World):Prop:=∀ (k:Nat) (s:cL) (t:aJ),ss[k]? = some s→ts[k]? = some t→bN w s t
theorem lQ.snoc {ss:List cL} {ts:List aJ} {w:World} (hl:ss.length=ts.length) (h:lQ ss ts w) {s:cL} {t:aJ} (hx:bN w s t):lQ (ss ++ [s]) (ts ++ [t]) w:=by
 intro k s' t' hs ht
 rcases Nat.lt_or_ge k ss.length with h1 | h1
 ·rw [List.getElem?_append_left h1] at hs
  rw [List.getElem?_append_left (by omega)] at ht
  exact h k s' t' hs ht
 ·rw [List.getElem?_append_right h1] at hs
  rw [List.getElem?_append_right (by omega)] at ht
  obtain h2:k - ss.length=0:=by
   have:=(List.getElem?_eq_some_iff.1 hs).1
   simp at this; omega
  rw [h2] at hs
  rw [show k - ts.length=0 by omega] at ht
  simp only [List.getElem?_cons_zero,Option.some.injEq] at hs ht
  subst hs ht
  exact hx
def lJ (c:Nat):List Int:=(List.range (c+1)).map fun k:Nat=>80+(k:Int)
theorem SI (c:Nat):(lJ c).length=c+1:=by unfold lJ; simp
theorem abn {c k:Nat} (h:k≤c):(lJ c).getD k 0=80+(k:Int):=by
 unfold lJ
 rw [List.getD_eq_getElem?_getD,List.getElem?_map,List.getElem?_range (by omega)]; rfl
theorem ak8 (c:Nat):lJ (c+1)=lJ c ++ [80+((c+1:Nat):Int)]:=by
 unfold lJ
 rw [List.range_succ,List.map_append]; rfl
theorem F9.box {w w':World} {v:Value} {T:aJ} {c:Int} {R:rz} (h:F9 w w' v T c R):∃ s y z,v=.tuple ⟨[.agg ⟨T.cs s⟩,.agg ⟨gx c R.id y z⟩,.int .i64 c]⟩∧oN w w' fun w=>bN w s T:=by
 obtain ⟨s,ys,zs,fp,fq,y,z,rfl,H⟩:=h
 exact ⟨s,y,z,rfl,H.boxed fun w' ok=>
  ⟨Own.bytes (ok 0 (.row aM 1 s.sec (aL T.fy)) rfl),fE.of (Own.sl (ok 1 (.row cZ 3 s.ten (gM T.bq)) rfl)),⟨ys,Own.sl (ok 3 (.row ey 5 s.aE (bP cv.cs T.aE ys)) rfl),JR ((ok 4 (.box fp fun w=>br lE w ys T.aE) rfl).2 w' fun _ _=>rfl)⟩,
   ⟨zs,Own.sl (ok 5 (.row bW 4 s.key (bP ct.cs T.keys zs)) rfl),JS ((ok 6 (.box fq fun w=>br qI w zs T.keys) rfl).2 w' fun _ _=>rfl)⟩,Own.sl (ok 2 (.row dJ 6 s.gr (gX T.cM)) rfl)⟩⟩
theorem Tt {w:World} {s:ah} {l:List Int} (h:jX w s l) {i:Nat} (hi:i<l.length) {x:Int} (hx:x=(i:Int)) {K:Int→Prop} (hk:K (l.getD i 0)):aZ s.a x s.n (au .i64 (Addr.add (base s.a) (Int.toNat x * 1)) w K):=jX.ld h hi hx hk
theorem aaz {keep:List Bool} {q:Nat}:gR keep q=(decide (0<keep.length) && keep.getD (q % keep.length) false):=rfl
theorem ahu (x xk:ah) (ns:List ByteArray) (keep:List Bool) (gen count wN:Int) (w:World) (hg:Laid w) (hx:xq w x ns) (hk:yY w xk keep) :
  Ok Pr WC [.slice x.a x.n x.c,.int .i64 gen,.int .i64 count,.int .i64 wN,.slice xk.a xk.n xk.c] w fun v w'=>v=.bool true∧Mod [] w w':=by
 refine aeh ?_
 unfold MI
 have jV:∀ {w':World} {L:List aB},aq w [] w' L→ax Pr jG [] w' fun v w1=>aQ v fun t=>(fun (v:Value) (w':World)=>v=.bool true∧Mod [] w w') (.bool t) w1:=by
  intro w' L H
  refine aC (B0 w' (hg.gS H (by simp))) ?_
  rintro _ w2 ⟨rfl,m⟩
  exact bh ⟨rfl,H.mod.trans m⟩
 have cH:=hx.len
 have bR:=hk.len
 refine cN (fun _=>jV (aq.start w)) fun hc=>?_
 simp only [Bool.or_eq_false_iff,decide_eq_false_iff_not] at hc
 obtain ⟨sR,Lq⟩:=hc
 refine aC (yw gen 9 (by omega) (by omega) w) ?_
 rintro _ w2 ⟨rfl,e2⟩
 rw [e2]
 have uN:=AI (x:=gen) (n:=9) (by omega)
 have vT:(0:Int)≤(low gen 9:Int):=by omega
 generalize (low gen 9:Int)=g0 at *
 refine cr ⟨by unfold aH; omega,aC (yw count 9 (by omega) (by omega) w) ?_⟩
 rintro _ w3 ⟨rfl,e3⟩
 rw [e3]
 have vX:=AI (x:=count) (n:=9) (by omega)
 have uw:(0:Int)≤(low count 9:Int):=by omega
 generalize (low count 9:Int)=c0 at *
 refine cr (aC (Cn 110 (by omega) (by omega) w) ?_)
 rintro _ w4 ⟨d,s0,rfl,H⟩
 obtain ⟨a1,a2,a3⟩:=ak7 (gen:=1+g0) (count:=c0) ⟨by omega,by omega⟩ ⟨by omega,by omega⟩
 have hD:=vA 110 (by omega)
 refine yR (iB fun go bX=>ite_false rfl ?_)
 refine Rv H hD gq (1+g0) c0 fun e1 s1 w5 H HN=>?_
 rw [a1] at HN
 refine HN.isNil (ite_false rfl (bX w5 ?_))
 refine aC (Ou H a2) ?_
 rintro _ w6 ⟨s2,rfl,H⟩
 generalize eE (dB (cX 110) (1+g0) c0 (fN gq)) [true]=D0 at a3 H
 have H0:=H
 refine ⟨by unfold aH; omega,aC (yw wN ((x.n:Int)+1) (by omega) (by omega) w6) ?_⟩
 rintro _ w7 ⟨rfl,e7⟩
 rw [e7]
 generalize (low wN ((x.n:Int)+1):Int)=fl
 refine cr (aC (BZ gq w6) ?_)
 rintro _ w8 hA
 have BR:=CM gq
 generalize fN gq=T0 at hA BR a3
 obtain ⟨sT,rfl,lq⟩:=hA.boxed
 obtain ⟨f,H⟩:=H0.yK lq
 rw [lV,CT,wM]
 refine jT (H.nw fun p w9 H _=>H.aV 6 rfl rfl fun dN H=>H.aG 6 rfl (H.nw fun p1 fZ H _=>H.nw fun p2 dO H _=>?_))
 have H:aq w [] dO [.av d (pV s2) oI,.row bp 1 s2.nw (s2.xs.map ah.v),.row bp 1 s2.fm (s2.ys.map ah.v),.row jA 1 s2.dt (iC D0.dQ),.box s2.fp fun w=>br fo w s2.xs D0.now∧br fo w s2.ys D0.dI,.box f fun w=>bN w sT T0,.av p (T0.cs sT) aA,.av p1 (T0.cs sT) aA,.av p2 (dw [80]) bn]:=H
 have H:=H.tW 7 6 1 1 rfl rfl (Nat.le_refl _) (by simp only [maxLen]; omega)
 have H:=H.tW 8 1 1 1 rfl rfl (Nat.le_refl _) (by simp only [maxLen]; omega)
 have H:=H.E8 (Q':=lQ [sT] [T0]) 5 rfl fun w h k s t hs ht=>by
  match k,hs,ht with
  | 0,hs,ht=>cases hs; cases ht; exact h
  | k+1,hs,ht=>simp at hs
 have H:aq w [] dO (cu d s2 D0 ++ [.av p (T0.cs sT) aA,.row aA 6 ⟨some ⟨p1,0,none⟩,1,1⟩ (lI [sT] [T0]),.row bn 1 ⟨some ⟨p2,0,none⟩,1,1⟩ (dw (lJ 0)),.box f (lQ [sT] [T0])]):=H.eu [0,1,2,3,4,6,7,8,5] (by decide) rfl
 refine akn (fun (tables:ah) (at_:Int) (ends:ah) (iv:Int) w'=>∃ (i:Nat) (s:gB) (D:aU) (nl:List ByteArray) (ts:List aJ) (ss:List cL) (sL:cL) (fp:List Nat),iv=(i:Int)∧i≤ns.length∧nl.length≤i∧at_=80+(nl.length:Int)∧pL (1+g0) c0 D nl ts∧ss.length=ts.length∧ss[nl.length]? = some sL∧(∀ t∈ts,t.small)∧
   aq w [] w' (cu d s D ++ [.av p ((ts.getD nl.length bK).cs sL) aA,.row aA 6 tables (lI ss ts),.row bn 1 ends (dw (lJ nl.length)),.box fp (lQ ss ts)]))
  (fun _ _ _ iv _=>(ns.length:Int).toNat - iv.toNat) ⟨0,s2,D0,[],[T0],[sT],sT,f,rfl,by omega,by simp,by simp,a3,rfl,rfl,by simpa using BR,H⟩ ?_
 rintro again tables at_ ends iv gH ⟨i,s,D,nl,ts,ss,sL,fp,rfl,hi,hni,rfl,hS,BS,hsL,nu,H⟩ aR
 have hlen:=hS.len
 have asY:=hS.HV
 have hDn:=hS.ok.now
 have htL:ts[nl.length]? = some (ts.getD nl.length bK):=AE (by omega)
 have acn:(ts.getD nl.length bK).small:=nu _ (List.mem_of_getElem? htL)
 have K5:tables.n=ts.length:=by have:=Sl.len (H.gQ 6 rfl); rw [aax _ _ BS] at this; omega
 have asH:ends.n=nl.length+1:=by have:=jX.len (H.dz 7 rfl); rw [SI] at this; omega
 by_cases dM:i<ns.length
 case pos=>
  obtain ⟨cU,_⟩:=hx.at dM
  have cell:∀ {w':World},Mod [] w w'→w'.cell? (Addr.add (base x.a) (Int.toNat (i:Int) * 1))=some (.string (ns.getD i eO)):=fun m=>(xq.at (Sl.aI hx m) dM).2
  refine ite_true (decide_eq_true (by omega)) ⟨cU,_,cell H.mod,?_⟩
  generalize ns.getD i eO=name at *
  refine cN (fun _=>jV H) fun gV=>⟨cU,_,cell H.mod,?_⟩
  have gV:=of_decide_eq_false gV
  rw [K5,hlen]
  refine aC (IP ((nl.length+1:Nat):Int) name gH) ?_
  rintro _ nv ⟨rfl,HR⟩
  have H:=H.frame HR
  refine wC (H.nw fun p3 mN H _=>H.iN 9 rfl rfl fun pU H=>H.aG 5 rfl (H.jH 9 rfl ?_))
  have hq1:jy ((nl.length+1:Nat):Int) name=jy ((nl.length:Int)+1) name:=by congr 1
  rw [hq1]
  have hTR:bN pU sL (ts.getD nl.length bK):=(H.box 8 rfl:lQ ss ts pU) _ _ _ hsL htL
  refine aC (aiS sL (ts.getD nl.length bK) (jy ((nl.length:Int)+1) name) ⟨none,0,0⟩ rfl acn pU hTR) ?_
  rintro _ wh hR
  obtain ⟨sN,y1,z1,rfl,lq⟩:=hR.box
  obtain ⟨e4,e5⟩:=abe (q:=jy ((nl.length:Int)+1) name) (lb:=[]) (lt:=[]) (ts.getD nl.length bK) rfl rfl
  have e4:jS (j9 ((nl.length:Int)+1) name).q (ts.getD nl.length bK)=jS (jy ((nl.length:Int)+1) name) (ts.getD nl.length bK):=e4
  have e5:jz (j9 ((nl.length:Int)+1) name).q (ts.getD nl.length bK)=jz (jy ((nl.length:Int)+1) name) (ts.getD nl.length bK):=e5
  have hTN:(jz (jy ((nl.length:Int)+1) name) (ts.getD nl.length bK)).small:=Y8 acn
  obtain ⟨f2,H⟩:=H.yK lq
  refine ⟨_,rfl,jT (zW (cr ⟨rfl,H.nw fun p4 xN H _=>H.nw fun p5 Lr H _=>H.aV 11 rfl rfl fun Ls H=>H.ew 12 rfl rfl fun LB H=>?_⟩))⟩
  by_cases h0:jS (jy ((nl.length:Int)+1) name) (ts.getD nl.length bK)=0
  case neg=>
   refine ite_true (by rw [decide_eq_false h0]; rfl) ⟨by unfold aH; omega,aR _ _ _ _ LB ⟨i+1,s,D,nl,ts,ss,sL,fp,by omega,by omega,by omega,rfl,hS,BS,hsL,nu,H.take 9⟩ (by omega)⟩
  rw [← e4] at h0
  obtain ⟨b1,b2⟩:=hS.app ⟨by omega,by omega⟩ ⟨by omega,by omega⟩ (by omega) (by omega) h0
  rw [e5] at b2
  rw [e4] at h0
  generalize jz (jy ((nl.length:Int)+1) name) (ts.getD nl.length bK)=TN at *
  rw [h0]
  have H:aq w [] LB (cu d s D ++ [.av p ((ts.getD nl.length bK).cs sL) aA,.row aA 6 tables (lI ss ts),.row bn 1 ends (dw (lJ nl.length)),.box fp (lQ ss ts),.av p3 (cY (jy ((nl.length:Int)+1) name) ⟨none,0,0⟩) cV,.box f2 fun w=>bN w sN TN,.av p4 (TN.cs sN) aA]):=H.take 12
  refine ite_false rfl ⟨by unfold aH; omega,by unfold aH; omega,H.jH 9 rfl ?_⟩
  rw [show c0+((nl.length+1:Nat):Int) - 1=c0+(nl.length:Int) by omega]
  refine aC (IN H.sub hS.ok (80+(nl.length:Int)) (1+g0) (c0+(nl.length:Int)) ⟨by omega,by omega⟩ (jy ((nl.length:Int)+1) name) ⟨none,0,0⟩ [] [] [] (by show ByteArray.size name≤_; omega) (by simp) (by simp) (by simp) fun m=>⟨Bytes.nil _,Bytes.nil _,Bytes.nil _⟩) ?_
  rintro _ xR ⟨s3,e6,rfl,X⟩
  have eC:iz D (80+(nl.length:Int)) (D.now.length:Int) (1+g0) (c0+(nl.length:Int)+2) (iA (jy ((nl.length:Int)+1) name) [] [] [])=0:=b1
  have eP:bM (iA (jy ((nl.length:Int)+1) name) [] [] []).length=1:=tI (n:=(nl.length:Int)+1) (name:=name) (by omega)
  have eD:fM D (80+(nl.length:Int)) (D.now.length:Int) (1+g0) (c0+(nl.length:Int)+2) (iA (jy ((nl.length:Int)+1) name) [] [] [])=fM D (80+(nl.length:Int)) (D.now.length:Int) (1+g0) (c0+(nl.length:Int)+2) (gu ((nl.length:Int)+1) name):=rfl
  rw [eD,eC] at X
  rw [eC,eP]
  have H:=H.back X
  generalize fM D (80+(nl.length:Int)) (D.now.length:Int) (1+g0) (c0+(nl.length:Int)+2) (gu ((nl.length:Int)+1) name)=D2 at *
  have H:aq w [] xR (cu d s3 D2 ++ [.av p ((ts.getD nl.length bK).cs sL) aA,.row aA 6 tables (lI ss ts),.row bn 1 ends (dw (lJ nl.length)),.box fp (lQ ss ts),.box f2 fun w=>bN w sN TN,.av p4 (TN.cs sN) aA,aB.err e6 0]):=H.eu [0,1,2,3,4,6,7,8,9,11,12,5] (by decide) rfl
  have e80:(if (0:Int)=0 then 80+(nl.length:Int)+((1:Nat):Int) else 0)=80+((nl.length+1:Nat):Int):=by rw [if_pos rfl]; omega
  rw [e80]
  refine ⟨_,rfl,cr ⟨rfl,(H.err 11 rfl:eR xR e6 0).isNil (ite_false ?_ ?_)⟩⟩
  ·rw [decide_eq_false (show ¬ 80+((nl.length+1:Nat):Int)≤80+(nl.length:Int) by omega)]; rfl
  refine H.aG 10 rfl (H.aV 5 rfl rfl fun HU H=>?_)
  have H:aq w [] HU (cu d s3 D2 ++ [.av p (TN.cs sN) aA,.row aA 6 tables (lI ss ts),.row bn 1 ends (dw (lJ nl.length)),.box fp (lQ ss ts),.box f2 fun w=>bN w sN TN]):=H.take 10
  refine H.aG 5 rfl ?_
  have tb1:(tables.n+1) * 128≤140737488355328∧tables.n+1≤9223372036854775807:=by omega
  have en1:(ends.n+1) * 8≤140737488355328∧ends.n+1≤9223372036854775807:=by omega
  have htx:tables=⟨tables.a,nl.length+1,tables.c⟩:=by rw [← hlen,← K5]
  rw [htx] at H
  refine H.vJ (s:=⟨tables.a,nl.length+1,tables.c⟩) 6 amh rfl rfl (aJ.alW TN sN) (by rw [← hlen,← K5]; exact tb1.1) (by rw [← hlen,← K5]; exact tb1.2) fun HX w26 H htb=>?_
  have H:aq w [] w26 (cu d s3 D2 ++ [.av p (TN.cs sN) aA,.row aA 6 HX (lI ss ts ++ TN.cs sN),.row bn 1 ends (dw (lJ nl.length)),.box fp (lQ ss ts),.box f2 fun w=>bN w sN TN]):=H
  refine H.vJ 7 RX rfl rfl (by simp [fW]) en1.1 en1.2 fun LK w28 H hen=>?_
  have hE:dw (lJ nl.length) ++ [.int .i64 (80+((nl.length+1:Nat):Int))]=dw (lJ (nl.length+1)):=by rw [ak8]; simp [dw,i64]
  have H:aq w [] w28 (cu d s3 D2 ++ [.av p (TN.cs sN) aA,.row aA 6 HX (lI ss ts ++ TN.cs sN),.row bn 1 LK (dw (lJ nl.length) ++ [.int .i64 (80+((nl.length+1:Nat):Int))]),.box fp (lQ ss ts),.box f2 fun w=>bN w sN TN]):=H
  rw [hE,← aay ss ts BS] at H
  have H:=H.merge 8 9 (t:=.box (fp ++ f2) (lQ (ss ++ [sN]) (ts ++ [TN]))) rfl rfl (by omega) (fun h1 h2=>⟨fun b hb=>?_,fun w2 h3=>?_⟩) (fun b hb=>List.mem_append.1 hb)
  rotate_left
  ·rcases List.mem_append.1 hb with h | h
   ·exact h1.1 b h
   ·exact h2.1 b h
  ·exact lQ.snoc BS (h1.2 w2 fun b hb=>h3 b (List.mem_append_left _ hb)) (h2.2 w2 fun b hb=>h3 b (List.mem_append_right _ hb))
  have eL:(nl ++ [name]).length=nl.length+1:=by simp
  have Wq:(ts ++ [TN]).getD (nl.length+1) bK=TN:=by rw [← hlen,List.getD_eq_getElem?_getD,List.getElem?_append_right (Nat.le_refl _),Nat.sub_self]; rfl
  have eS2:(ss ++ [sN])[nl.length+1]? = some sN:=by rw [← hlen,← BS,List.getElem?_append_right (Nat.le_refl _),Nat.sub_self]; rfl
  have next:∀ {BN:World} {s4:gB} {D4:aU},pL (1+g0) c0 D4 (nl ++ [name]) (ts ++ [TN])→aq w [] BN (cu d s4 D4 ++ [.av p (TN.cs sN) aA,.row aA 6 HX (lI (ss ++ [sN]) (ts ++ [TN])),.row bn 1 LK (dw (lJ (nl.length+1))),.box (fp ++ f2) (lQ (ss ++ [sN]) (ts ++ [TN]))])→again HX (80+((nl.length+1:Nat):Int)) LK ((i:Int)+1) BN:=by
   intro BN s4 D4 hS4 H4
   refine aR _ _ _ _ BN ⟨i+1,s4,D4,nl ++ [name],ts ++ [TN],ss ++ [sN],sN,fp ++ f2,by omega,by omega,by omega,by rw [eL],hS4,by simp [BS],by rw [eL]; exact eS2,fun t ht=>?_,?_⟩ (by omega)
   ·rcases List.mem_append.1 ht with h | h
    ·exact nu t h
    ·rw [List.mem_singleton.1 h]; exact hTN
   ·rw [eL,Wq]; exact H4
  have H:aq w [] w28 (cu d s3 D2 ++ [.av p (TN.cs sN) aA,.row aA 6 HX (lI (ss ++ [sN]) (ts ++ [TN])),.row bn 1 LK (dw (lJ (nl.length+1))),.box (fp ++ f2) (lQ (ss ++ [sN]) (ts ++ [TN]))]):=H.take 9
  refine cN (fun _=>?_) fun _=>⟨by unfold aH; omega,next b2 H⟩
  refine aC (Ou H.sub b2.ok) ?_
  rintro _ BN ⟨s4,rfl,X⟩
  exact ⟨by unfold aH; omega,next b2.flush (H.back X)⟩
 refine ite_false (decide_eq_false (by omega)) (aC (Oq (mV H) hS.ok) ?_)
 rintro _ xS ⟨y,rfl,X⟩
 have H:=H.join X
 have LI:iM D.dQ 110=dZ D:=by unfold dZ; rw [hDn]
 rw [LI] at H
 have H:aq w [] xS (cu d s D ++ [.av p ((ts.getD nl.length bK).cs sL) aA,.row aA 6 tables (lI ss ts),.row bn 1 ends (dw (lJ nl.length)),.box fp (lQ ss ts),.row bn 1 y (dw (dZ D))]):=H
 have gW:=jX.len (H.dz 9 rfl)
 refine dP (aC (Ot H.sub hS.ok xk keep fun m=>Sl.aI hk (H.mod.trans' m H.F3)) ?_)
 rintro _ BL ⟨s3,rfl,X⟩
 have H:=H.back X
 have H:aq w [] BL (cu d s3 (eE D keep) ++ [.av p ((ts.getD nl.length bK).cs sL) aA,.row aA 6 tables (lI ss ts),.row bn 1 ends (dw (lJ nl.length)),.box fp (lQ ss ts),.row bn 1 y (dw (dZ D))]):=H
 have zO:(dZ D).length≤110:=by have:=Sz D.dQ D.now.length; unfold dZ; omega
 refine cr ⟨by unfold aH; omega,Tq ?_⟩
 have HK:yY BL xk keep:=Sl.aI hk H.mod
 refine tG (fun (L iv:Int) w'=>∃ j:Nat,iv=(j:Int) - 1∧j≤(dZ D).length∧w'=BL∧((∃ q,j≤q∧q<(dZ D).length∧gR keep q=false∧L=(dZ D).getD q 0∧∀ r,j≤r→r<q→gR keep r=true)∨(L=80+(nl.length:Int)∧∀ r,j≤r→r<(dZ D).length→gR keep r=true)))
  (fun _ iv _=>(iv+1).toNat) ⟨(dZ D).length,by omega,Nat.le_refl _,rfl,.inr ⟨rfl,fun r h1 h2=>by omega⟩⟩ ?_
 rintro AJ L iv BM ⟨j,rfl,hj,rfl,hL⟩ um
 rcases Nat.eq_zero_or_pos j with rfl | hj0
 case inr=>
  obtain ⟨q,rfl⟩:∃ q,j=q+1:=⟨j - 1,by omega⟩
  rw [show ((q+1:Nat):Int) - 1=(q:Int) by omega]
  refine ite_true (decide_eq_true (by omega)) (gm fun Wj Gq=>?_)
  have FU:Wj (!gR keep q) BM:=by
   refine Gq _ _ ?_
   cases Wr:gR keep q with
   | false=>
    refine ite_true rfl (Tt (H.dz 9 rfl) (i:=q) (by omega) rfl ⟨by unfold aH; omega,um _ _ BM ⟨q,rfl,by omega,rfl,.inl ⟨q,Nat.le_refl _,by omega,Wr,rfl,fun r h1 h2=>by omega⟩⟩ (by omega)⟩)
   | true=>
    refine ite_false rfl ⟨by unfold aH; omega,um _ _ BM ⟨q,rfl,by omega,rfl,?_⟩ (by omega)⟩
    rcases hL with ⟨q',h1,h2,h3,h4,h5⟩ | ⟨h1,h2⟩
    ·refine .inl ⟨q',by omega,h2,h3,h4,fun r r1 r2=>?_⟩
     rcases Nat.lt_or_ge q r with h | h
     ·exact h5 r (by omega) r2
     ·rw [show r=q by omega]; exact Wr
    ·refine .inr ⟨h1,fun r r1 r2=>?_⟩
     rcases Nat.lt_or_ge q r with h | h
     ·exact h2 r (by omega) r2
     ·rw [show r=q by omega]; exact Wr
  by_cases wk:keep.length=0
  ·have:gR keep q=false:=by rw [aaz,wk]; rfl
   rw [this] at FU
   exact ite_true (decide_eq_true (by omega)) FU
  ·refine ite_false (decide_eq_false (by omega)) ?_
   obtain ⟨n1,pN⟩:∃ n1:Nat,xk.n=n1+1:=⟨xk.n - 1,by omega⟩
   have Dx:(q:Int) % (xk.n:Int)=((q % keep.length:Nat):Int):=by rw [bR]; rfl
   have cI:q % keep.length<keep.length:=Nat.mod_lt _ (by omega)
   rw [Dx]
   have e:gR keep q=keep.getD (q % keep.length) false:=by rw [aaz,decide_eq_true (by omega)]; rfl
   rw [e] at FU
   rw [pN]
   show (0≤(q:Int))∧aZ xk.a ((q % keep.length:Nat):Int) (n1+1) _
   rw [← pN]
   refine ⟨by omega,⟨Sl.pre HK (by omega),by omega,by omega⟩,_,?_,FU⟩
   rw [Int.toNat_natCast]
   exact Sl.cell HK _ _ (by unfold iC; rw [Nat.mul_one,List.getElem?_map,AE (d:=false) cI]; rfl)
 have hLS:abN D keep (80+(nl.length:Int)) L:=by
  rcases hL with ⟨q,h1,h2,h3,h4,h5⟩ | ⟨h1,h2⟩
  ·exact .inl ⟨q,h2,h3,h4,fun r hr=>h5 r (Nat.zero_le _) hr⟩
  ·exact .inr ⟨h1,fun r hr=>h2 r (Nat.zero_le _) hr⟩
 obtain ⟨n,k1,rfl,k3,k4,k5,k6⟩:=hS.anV ⟨by omega,by omega⟩ ⟨by omega,by omega⟩ hLS
 generalize eE D keep=D3 at *
 refine ite_false (decide_eq_false (by omega)) (gm fun Wk K1=>?_)
 have fin:Wk (n:Int) BM:=by
  refine K1 _ _ (Kj (L:=[.av p ((ts.getD nl.length bK).cs sL) aA,.row aA 6 tables (lI ss ts),.row bn 1 ends (dw (lJ nl.length)),.box fp (lQ ss ts),.row bn 1 y (dw (dZ D))]) H (hg.gS H (by simp)) k3 k5 fun T1 f1 q1 e7 V7 H=>?_)
  rw [k4,k6] at H
  rw [k4]
  obtain ⟨Tn,Ws⟩:∃ Tn,Tn=ts.getD n bK:=⟨_,rfl⟩
  have Wt:ts[n]? = some Tn:=by rw [Ws]; exact AE (by omega)
  obtain ⟨sn,hsn⟩:∃ sn,ss[n]? = some sn:=⟨_,List.getElem?_eq_getElem (by omega)⟩
  rw [← Ws] at H
  have H:aq w [] V7 [.av d (pV s3) oI,.row bp 1 s3.nw (s3.xs.map ah.v),.row bp 1 s3.fm (s3.ys.map ah.v),.row jA 1 s3.dt (iC D3.dQ),.box s3.fp fun w=>br fo w s3.xs D3.now∧br fo w s3.ys D3.dI,.av p ((ts.getD nl.length bK).cs sL) aA,.row aA 6 tables (lI ss ts),.row bn 1 ends (dw (lJ nl.length)),.box fp (lQ ss ts),.row bn 1 y (dw (dZ D)),.box f1 fun w=>bN w T1 Tn,aB.err e7 0,.av q1 (Tn.cs T1) aA]:=H
  refine (H.err 11 rfl:eR V7 e7 0).isNil (ite_true ?_ ?_)
  ·rw [wrap_i64 (show -9223372036854775808≤c0+(n:Int) by omega) (by omega)]
   simp
  have H:=H.drew
  rw [← Ws]
  refine Tt (H.dz 7 rfl) (i:=n) (by rw [SI]; omega) rfl (H.aG 12 rfl ?_)
  rw [abn k1]
  have xO:=H.gQ 6 rfl
  refine ite_true (decide_eq_true rfl) ⟨⟨Sl.pre xO (by omega),by omega,by omega⟩,?_⟩
  refine NI (fun j v hv=>?_) (aC (wA T1 sn Tn (nu _ (List.mem_of_getElem? Wt)) _ (H.box 10 rfl) ((H.box 8 rfl:lQ ss ts _) _ _ _ hsn Wt)) ?_)
  ·rw [Int.toNat_natCast,add_add]
   exact Sl.cell xO _ _ (abm ss ts BS n sn Tn hsn Wt j v hv)
  rintro _ w38 ⟨rfl,m38⟩
  exact bh (ite_true rfl (jV (H.frame m38)))
 refine CI (fun (iv:Int) w'=>∃ k:Nat,iv=(k:Int)∧k≤n∧w'=BM) (fun iv _=>(200 - iv).toNat) ⟨0,rfl,Nat.zero_le _,rfl⟩ ?_
 rintro aaV _ _ ⟨k,rfl,xy,rfl⟩ TT
 refine ⟨by unfold aH; omega,cN (fun cI=>?_) fun kW=>?_⟩
 ·have cI:=of_decide_eq_true cI
  rw [wrap_i64 (by omega) (by omega)]
  refine Tt (H.dz 7 rfl) (i:=k+1) (by rw [SI]; omega) (by omega) ?_
  rw [abn (by omega)]
  by_cases hle:k+1≤n
  ·exact ite_true (decide_eq_true (by omega)) ⟨by unfold aH; omega,TT _ _ ⟨k+1,by omega,hle,rfl⟩ (by omega)⟩
  ·rw [show (k:Int)=(n:Int) by omega]
   exact ite_false (decide_eq_false (by omega)) fin
 ·have kW:=of_decide_eq_false kW
  rw [show (k:Int)=(n:Int) by omega]
  exact fin
end Go.Proofs.YtpchgbolambkcaaGreatDoor
end
section
set_option linter.unusedVariables false
set_option linter.unusedSimpArgs false
namespace Go.Proofs.YtpchgbolambkcaaGreatDoor
open Go Go.Ev
set_option maxRecDepth 20000
set_option linter.unusedVariables false
set_option maxHeartbeats 1000000
theorem ahZ (x:ah) (l:List B8) (hl:l.length≤100000) (w:World) (hx:Bytes w x l):Ok Pr Pf [.slice x.a x.n x.c] w fun v w'=>
  ∃ (q:bL) (sd:ah) (lb lt ld:List B8) (s:Rs),Bn l q lb lt ld s∧v=.tuple ⟨[.agg ⟨if fP s=true then cY q sd else cY iK ⟨none,0,0⟩⟩,.int .i64 (if fP s=true then 0 else 4)]⟩∧aq w [] w' [.row aM 1 q.dG (aL lb),.row aM 1 q.tok (aL lt),.row aM 1 sd (aL ld)]:=by
 refine agO ?_
 unfold PW
 rw [CT]
 refine (aq.start w).nw fun p w1 H0 _=>oL fun b w2 hb h1 m2 _=>?_
 have H:aq w [] w2 ([.av b [x.v,.bool false] gP] ++ [.av p (cY iK ⟨none,0,0⟩) cV]):=by
  have H:=H0.push (r:=.av b [x.v,.bool false] gP) m2 h1 (by simp [aB.av,hb])
  exact H.eu (L':=[.av b [x.v,.bool false] gP,.av p (cY iK ⟨none,0,0⟩) cV]) [1,0] (by decide) rfl
 have wj:Bytes w2 x l:=hx.aI H.mod
 have gV:=H0.mod.size
 have ho:off [b] x:=Sl.alr hx (by omega) fun c hc=>by rw [List.mem_singleton.1 hc]; omega
 refine aC (aht _ _ b x l w2 h1 wj ho (by omega)) ?_
 rintro _ w3 ⟨q,lb,lt,s,x3,TZ,rfl,qD,K,hs⟩
 obtain ⟨ld,s',ed⟩:∃ v s',cF 100 s=(v,s'):=⟨_,_,rfl⟩
 have j5:Bn l q lb lt ld s':=by
  obtain ⟨s1,s2,s3,s4,s5,s6,s7,s8,s9,qM,pX,sa,sb,nm,e1,e2,e3,e4,e5,e6,e7,e8,e9,uP,uQ,ea,en,eb,et⟩:=qD
  exact ⟨s1,s2,s3,s4,s5,s6,s7,s8,s9,qM,pX,sa,sb,s,nm,e1,e2,e3,e4,e5,e6,e7,e8,e9,uP,uQ,ea,en,eb,et,ed⟩
 refine ahC (K.nw fun p2 w4 K _=>K.iN 3 rfl rfl fun w5 K=>?_)
 have K:aq w2 [b] w5 (.av b [x3.v,.bool TZ] gP :: [.row aM 1 q.dG (aL lb),.row aM 1 q.tok (aL lt),.av p2 (cY q ⟨none,0,0⟩) cV]):=K
 refine R3 wj ho (by omega) K hs (by omega) ed fun x6 sG y w6 K uR=>K.st 3 rfl (an p2 14) (show 14<15 by omega) rfl fun w7 K=>?_
 have K:aq w2 [b] w7 [.av b [x6.v,.bool sG] gP,.row aM 1 q.dG (aL lb),.row aM 1 q.tok (aL lt),.av p2 (cY q y) cV,.row aM 1 y (aL ld)]:=K
 refine aC (ae1 b x l x6 sG s' w7 (K.av 0 rfl) uR (wj.mod K.mod ho)) ?_
 rintro _ w8 ⟨rfl,e8⟩
 rw [e8]
 have H:=H.back K
 refine cr ?_
 cases qC:fP s' with
 | false=>
  refine ite_true rfl (H.iN 5 rfl rfl fun w9 H=>H.jH 5 rfl ⟨q,y,lb,lt,ld,s',j5,by rw [qC]; rfl,?_⟩)
  exact H.eu [1,2,4] (by decide) rfl
 | true=>
  refine ite_false rfl (H.jH 3 rfl (H.iN 5 rfl rfl fun w9 H=>H.jH 5 rfl ⟨q,y,lb,lt,ld,s',j5,by rw [qC]; rfl,?_⟩))
  exact H.eu [1,2,4] (by decide) rfl
theorem Jw {m:Int} {p:List B8} (h:m<(p.length:Int)) (h0:0≤m) (hp:p.length≤1000000) (r:List B8):(cF m (some (laid p ++ r))).2=none:=by
 unfold cF laid
 rw [List.append_assoc]
 have e:(be (p.length:Int) ++ (p ++ r)).take 8=be (p.length:Int):=List.take_left' (pE _)
 rw [Aw,if_neg (by rw [List.length_append,pE]; omega),e,JU (by omega),if_pos (by omega)]
 rfl
theorem Ct (m:Int):(cF m none).2=none:=rfl
theorem ak9 {q:bL} {lb lt ld:List B8} (hn:∀ n∈q.dz,cO n) (h0:q.name.size≤1000) (h1:lb.length≤10000) (h2:lt.length≤10000) (h3:ld.length≤10000) (h:¬ (q.name.size≤300∧lb.length≤2000∧lt.length≤100∧ld.length≤100)):fP (zu (iA q lb lt ld)).2=false:=by
 unfold bL.dz at hn
 have g:∀ i (h:i<11),cO ([q.n0,q.n1,q.n2,q.n3,q.n4,q.n5,q.n6,q.n7,q.n8,q.n9,q.l7].get ⟨i,h⟩):=fun i h=>hn _ (List.get_mem _ _)
 have hb:(eF q.name).length=q.name.size:=qp _
 have eB:iA q lb lt ld=be q.n0 ++ (be q.n1 ++ (be q.n2 ++ (be q.n3 ++ (be q.n4 ++ (be q.n5 ++ (be q.n6 ++ (be q.n7 ++ (be q.n8 ++ (be q.n9 ++ (be q.l7 ++ (laid (eF q.name) ++ (laid lb ++ (laid lt ++ (laid ld ++ [])))))))))))))):=by
  unfold iA bL.dz cG iq
  simp
 have g0:=g 0 (by omega)
 have g1:=g 1 (by omega)
 have g2:=g 2 (by omega)
 have g3:=g 3 (by omega)
 have g4:=g 4 (by omega)
 have g5:=g 5 (by omega)
 have g6:=g 6 (by omega)
 have g7:=g 7 (by omega)
 have g8:=g 8 (by omega)
 have g9:=g 9 (by omega)
 have g10:=g 10 (by omega)
 simp only [List.get_eq_getElem,List.getElem_cons_zero,List.getElem_cons_succ] at g0 g1 g2 g3 g4 g5 g6 g7 g8 g9 g10
 have e:(zu (iA q lb lt ld)).2=(cF 100 (cF 100 (cF 2000 (cF 300 (some (laid (eF q.name) ++ (laid lb ++ (laid lt ++ (laid ld ++ [])))))).2).2).2).2:=by
  rw [eB]
  unfold zu
  simp only [fR g0,fR g1,fR g2,fR g3,fR g4,fR g5,fR g6,fR g7,fR g8,fR g9,fR g10]
 rw [e]
 by_cases c0:q.name.size≤300
 ·rw [tA (by omega) (by omega)]
  by_cases c1:lb.length≤2000
  ·rw [tA (by omega) (by omega)]
   by_cases c2:lt.length≤100
   ·rw [tA (by omega) (by omega)]
    rw [Jw (by omega) (by omega) (by omega)]; rfl
   ·rw [Jw (by omega) (by omega) (by omega),Ct]; rfl
  ·rw [Jw (by omega) (by omega) (by omega),Ct,Ct]; rfl
 ·rw [Jw (by omega) (by omega) (by omega),Ct,Ct,Ct]; rfl
theorem QT {q r:bL} {lb lt:List B8} (h:o8 q lb lt=o8 r lb lt):E7 q lb lt r lb lt=true:=by
 unfold E7 bL.dz
 have e:=congrArg (fun a:bL=>(a.n0,a.n1,a.n2,a.n3,a.n4,a.n5,a.n6,a.n7,a.n8,a.n9,a.l7,a.name)) h
 simp only [o8,Prod.mk.injEq] at e
 obtain ⟨e0,e1,e2,e3,e4,e5,e6,e7,e8,e9,uP,uQ⟩:=e
 simp [e0,e1,e2,e3,e4,e5,e6,e7,e8,e9,uP,uQ]
end Go.Proofs.YtpchgbolambkcaaGreatDoor
end
