/- Texts of this claim, packed and shortened. -/
import Derived.Test.YtpchgbolambkcaaGreatDoorQ6
import Derived.Test.YtpchgbolambkcaaGreatDoorQ3
import Derived.Test.YtpchgbolambkcaaGreatDoorQ2
import Derived.Test.YtpchgbolambkcaaGreatDoorQ4
section
set_option linter.unusedVariables false
set_option linter.unusedSimpArgs false
namespace Go.Proofs.YtpchgbolambkcaaGreatDoor
open Go Go.Ev
set_option maxRecDepth 20000
set_option linter.unusedVariables false
set_option maxHeartbeats 1000000
theorem aq.yE {w0 w:World} {S:List Nat} {L:List aB} (H:aq w0 S w L) (k:Nat) {b:Nat} {t:TypeId} {q:bL} {sd:ah} {K:Int→Int→Int→Int→Int→Int→Int→Int→Int→Int→Int→ByteArray→ah→ah→Prop} (hk:L[k]? = some (.av b (cY q sd) t)) (h:K q.n0 q.n1 q.n2 q.n3 q.n4 q.n5 q.n6 q.n7 q.n8 q.n9 q.l7 q.name q.dG q.tok):dD (Addr.add ⟨b,0,none⟩ 0) w K:=by
 refine Ey (c0:=q.n0) (c1:=q.n1) (c2:=q.n2) (c3:=q.n3) (c4:=q.n4) (c5:=q.n5) (c6:=q.n6) (c7:=q.n7) (c8:=q.n8) (c9:=q.n9) (eZ:=q.l7) (fh:=q.name) (dS:=q.dG) (dU:=q.tok) (fun i v hv=>?_) h
 refine H.cell k (i:=i) hk (by rw [an,an]) ?_
 have hi:=(List.getElem?_eq_some_iff.1 hv).1
 have:(cY q sd)[i]? = (q.cells ++ [sd.v])[i]?:=rfl
 show (cY q sd)[i]? = some v
 rw [this,List.getElem?_append_left hi]
 exact hv
def KO (w:World) (q:bL) (sd:ah) (lb lt ld:List B8):Prop:=Bytes w q.dG lb∧Bytes w q.tok lt∧Bytes w sd ld
theorem ahv (q:bL) (sd xb:ah) (lb lt ld b:List B8) (w:World) (hg:Laid w) (hy:Bytes w q.dG lb) (ht:Bytes w q.tok lt) (hd:Bytes w sd ld) (hb:Bytes w xb b) (hN:∀ n∈q.dz,cO n) :
  Ok Pr WB [.agg ⟨cY q sd⟩,.slice xb.a xb.n xb.c] w fun v w'=>v=.bool true∧Mod [] w w':=by
 refine aeg ?_
 unfold MH
 have jV:∀ {w':World} {L:List aB},aq w [] w' L→ax Pr jG [] w' fun v w1=>aQ v fun t=>(fun (v:Value) (w':World)=>v=.bool true∧Mod [] w w') (.bool t) w1:=by
  intro w' L H
  refine aC (B0 w' (hg.gS H (by simp))) ?_
  rintro _ w2 ⟨rfl,m⟩
  exact bh ⟨rfl,H.mod.trans m⟩
 have gW:=hy.len
 have Br:=ht.len
 have hdl:=hd.len
 have nS:=hb.len
 refine (aq.start w).nw fun p w1 H _=>?_
 have H:aq w [] w1 [.av p (cY q sd) cV]:=H
 refine aq.yE H 0 rfl (aC (afM q w1) ?_)
 rintro _ w2 ⟨gr,rfl,m2,LL⟩
 have H:=H.frame m2
 refine bh (H.ay 0 rfl (an p 14) rfl (cN (fun _=>jV H) fun hc=>?_))
 simp only [Bool.or_eq_false_iff,decide_eq_false_iff_not] at hc
 obtain ⟨⟨sR,Lq⟩,T8⟩:=hc
 obtain ⟨g1,g2,g3⟩:=LL sR
 refine H.jH 0 rfl (aC (X9 q sd lb lt ld (by omega) (by omega) (by omega) (by omega) w2 (hy.aI H.mod) (ht.aI H.mod) (hd.aI H.mod)) ?_)
 rintro _ w4 ⟨z,rfl,hz,m4⟩
 have H:aq w [] w4 [.av p (cY q sd) cV,.row aM 1 z (aL (iA q lb lt ld))]:=H.gG m4 hz
 have hlen:=Ru q lb lt ld
 have eL:vw q lb lt ++ iq [ld]=iA q lb lt ld:=by unfold vw iA iq; simp
 have anW:=ZP (q:=q) (lb:=lb) (lt:=lt) (ld:=ld) hN
 have aoU:=ak9 (q:=q) (lb:=lb) (lt:=lt) (ld:=ld) hN (by omega) (by omega) (by omega) (by omega)
 generalize iA q lb lt ld=C at *
 rw [CT]
 refine dP (gm fun go bX=>?_)
 have rest:∀ {w5:World} {y:ah} {M:List aB},aq w [] w5 ([.av p (cY q sd) cV,.row aM 1 z (aL C),.row aM 1 y (aL C)] ++ M)→go y w5:=by
  intro w5 y M H
  have H:=H.front
  have xx:=H.bytes 2 rfl
  refine bX y w5 (aC (Ox xb b (by omega) w5 (hb.aI H.mod)) ?_)
  rintro _ w6 ⟨q1,d1,b1,t1,l1,s1,B1,e1,r1,rfl,LM,LN,LO,X⟩
  have H:=H.join X
  have uL:Bytes w6 B1 b:=H.bytes 3 rfl
  have g1:KO w6 q1 d1 b1 t1 l1:=⟨LM.jQ _ uL,LN.jQ _ uL,LO.jQ _ uL⟩
  obtain ⟨Q1,xV⟩:∃ Q,Q=if fP s1=true then q1 else iK:=⟨_,rfl⟩
  obtain ⟨D1,zG⟩:∃ D:ah,D=if fP s1=true then d1 else ⟨none,0,0⟩:=⟨_,rfl⟩
  have eC1:(if fP s1=true then cY q1 d1 else cY iK ⟨none,0,0⟩)=cY Q1 D1:=by rw [xV,zG]; split <;> rfl
  rw [eC1]
  refine ⟨_,rfl,wC ⟨rfl,H.nw fun p1 w7 H _=>H.iN 5 rfl rfl fun w8 H=>?_⟩⟩
  have H:aq w [] w8 [.av p (cY q sd) cV,.row aM 1 z (aL C),.row aM 1 y (aL C),.row aM 1 B1 (aL b),aB.err e1 (if fP s1=true then 0 else 4),.av p1 (cY Q1 D1) cV]:=H
  refine aC (ahZ xb b (by omega) w8 (hb.aI H.mod)) ?_
  rintro _ w9 ⟨q2,d2,b2,t2,l2,s2,r2,rfl,X⟩
  have H:=H.join X
  have e12:=r1.eq.symm.trans r2.eq
  obtain ⟨f12,rfl⟩:=Prod.mk.inj e12
  simp only [kG.mk.injEq] at f12
  obtain ⟨aoV,rfl,rfl,rfl⟩:=f12
  have g2:KO w9 q2 d2 b1 t1 l1:=⟨H.bytes 6 rfl,H.bytes 7 rfl,H.bytes 8 rfl⟩
  have sU:b1.length≤1000000∧t1.length≤1000000∧l1.length≤1000000:=by
   have n1:=(LM.jQ _ uL).len
   have n2:=(LN.jQ _ uL).len
   have n3:=(LO.jQ _ uL).len
   have k1:=LM.within.1
   have k2:=LN.within.1
   have k3:=LO.within.1
   have:=uL.len
   omega
  obtain ⟨Q2,xW⟩:∃ Q,Q=if fP s1=true then q2 else iK:=⟨_,rfl⟩
  obtain ⟨D2,xI⟩:∃ D:ah,D=if fP s1=true then d2 else ⟨none,0,0⟩:=⟨_,rfl⟩
  have eC2:(if fP s1=true then cY q2 d2 else cY iK ⟨none,0,0⟩)=cY Q2 D2:=by rw [xW,xI]; split <;> rfl
  rw [eC2]
  refine ⟨_,rfl,wC (cr ⟨rfl,H.nw fun p2 dN H _=>H.iN 9 rfl rfl fun fZ H=>?_⟩)⟩
  refine aC (Ox z C (by omega) fZ (H.bytes 1 rfl)) ?_
  rintro _ dO ⟨q3,d3,b3,t3,l3,s3,B3,e3,r3,rfl,ty3,tt3,td3,X⟩
  have H:=H.join X
  have hB3:Bytes dO B3 C:=H.bytes 10 rfl
  obtain ⟨Q3,LP⟩:∃ Q,Q=if fP s3=true then q3 else iK:=⟨_,rfl⟩
  obtain ⟨D3,LQ⟩:∃ D:ah,D=if fP s3=true then d3 else ⟨none,0,0⟩:=⟨_,rfl⟩
  have eC3:(if fP s3=true then cY q3 d3 else cY iK ⟨none,0,0⟩)=cY Q3 D3:=by rw [LP,LQ]; split <;> rfl
  rw [eC3]
  refine ⟨_,rfl,wC ⟨rfl,H.nw fun p3 gH H _=>H.iN 12 rfl rfl fun kN H=>?_⟩⟩
  have H:aq w [] kN [.av p (cY q sd) cV,.row aM 1 z (aL C),.row aM 1 y (aL C),.row aM 1 B1 (aL b),aB.err e1 (if fP s1=true then 0 else 4),.av p1 (cY Q1 D1) cV,.row aM 1 q2.dG (aL b1),.row aM 1 q2.tok (aL t1),.row aM 1 d2 (aL l1),.av p2 (cY Q2 D2) cV,.row aM 1 B3 (aL C),aB.err e3 (if fP s3=true then 0 else 4),.av p3 (cY Q3 D3) cV]:=H
  refine H.dR 0 (i:=11) rfl (by rw [an,tN]) rfl (H.ay 0 (i:=12) rfl (by rw [an,tN]) rfl (H.ay 0 (i:=13) rfl (by rw [an,tN]) rfl (H.ay 0 rfl (an p 14) rfl (Tq ?_))))
  refine aC (MD z y C kN (H.bytes 1 rfl) (H.bytes 2 rfl) (by omega)) ?_
  rintro _ nv ⟨rfl,HR⟩
  have H:=H.frame HR
  refine bh (aq.yE H 5 rfl (aq.yE H 9 rfl (ite_true rfl ?_)))
  obtain ⟨X1,wz⟩:∃ X:List B8×List B8×List B8,X=if fP s1=true then (b1,t1,l1) else ([],[],[]):=⟨_,rfl⟩
  have k1:∀ {w':World},aq w [] w' [.av p (cY q sd) cV,.row aM 1 z (aL C),.row aM 1 y (aL C),.row aM 1 B1 (aL b),aB.err e1 (if fP s1=true then 0 else 4),.av p1 (cY Q1 D1) cV,.row aM 1 q2.dG (aL b1),.row aM 1 q2.tok (aL t1),.row aM 1 d2 (aL l1),.av p2 (cY Q2 D2) cV,.row aM 1 B3 (aL C),aB.err e3 (if fP s3=true then 0 else 4),.av p3 (cY Q3 D3) cV]→
    KO w' Q1 D1 X1.1 X1.2.1 X1.2.2∧KO w' Q2 D2 X1.1 X1.2.1 X1.2.2:=by
   intro w' H
   have hB:=H.bytes 3 rfl
   cases hr:fP s1 with
   | true=>
    rw [hr,if_pos rfl] at xV zG xW xI wz
    rw [xV,zG,xW,xI,wz]
    exact ⟨⟨LM.jQ _ hB,LN.jQ _ hB,LO.jQ _ hB⟩,H.bytes 6 rfl,H.bytes 7 rfl,H.bytes 8 rfl⟩
   | false=>
    rw [hr,if_neg (by decide)] at xV zG xW xI wz
    rw [xV,zG,xW,xI,wz]
    exact ⟨⟨Bytes.nil _,Bytes.nil _,Bytes.nil _⟩,Bytes.nil _,Bytes.nil _,Bytes.nil _⟩
  have sm:E7 Q1 X1.1 X1.2.1 Q2 X1.1 X1.2.1=true:=by
   cases hr:fP s1 with
   | true=>
    rw [hr,if_pos rfl] at xV xW wz
    rw [xV,xW,wz]
    exact QT aoV
   | false=>
    rw [hr,if_neg (by decide)] at xV xW wz
    rw [xV,xW,wz]
    exact QT rfl
  have xl:X1.1.length≤1000000∧X1.2.1.length≤1000000∧X1.2.2.length≤1000000:=by
   rw [wz]; split
   ·exact sU
   ·exact ⟨by simp,by simp,by simp⟩
  clear wz
  refine aC (W0 Q1 X1.1 X1.2.1 Q2 X1.1 X1.2.1 (by omega) (by omega) nv (k1 H).1.1 (k1 H).1.2.1 (k1 H).2.1 (k1 H).2.2.1) ?_
  rintro _ mN ⟨rfl,Wm⟩
  have H:=H.frame Wm
  rw [sm]
  refine bh (H.ay 5 rfl (an p1 14) rfl (H.ay 9 rfl (an p2 14) rfl (ite_true rfl (aC (MD D1 D2 X1.2.2 mN (k1 H).1.2.2 (k1 H).2.2.2 (by omega)) ?_))))
  rintro _ pU ⟨rfl,rL⟩
  have H:=H.frame rL
  refine bh (ite_true rfl (aC (B9 e1 _ pU (hg.gS H (by simp)) (H.err 4 rfl)) ?_))
  rintro _ wh ⟨rfl,m18⟩
  have H:=H.frame m18
  refine cr (ite_true (decide_eq_true rfl) ?_)
  have wv:eR wh e3 (if fP s3=true then 0 else 4):=H.err 11 rfl
  refine wv.isNil ?_
  by_cases hm:q.name.size≤300∧lb.length≤2000∧lt.length≤100∧ld.length≤100
  ·have D8:=anW hm.1 hm.2.1 hm.2.2.1 hm.2.2.2
   have e34:=r3.eq.symm.trans D8
   obtain ⟨f34,rfl⟩:=Prod.mk.inj e34
   simp only [kG.mk.injEq] at f34
   obtain ⟨aoW,rfl,rfl,rfl⟩:=f34
   have LP:Q3=q3:=LP
   have LQ:D3=d3:=LQ
   subst LP LQ
   refine ite_true ?_ (wv.isNil (aq.yE H 12 rfl (aq.yE H 0 rfl (ite_false rfl ?_))))
   ·show (decide ((0:Int)=0) == (((decide ((q.name.size:Int)≤300) && decide ((q.dG.n:Int)≤2000)) && decide ((q.tok.n:Int)≤100)) && decide ((sd.n:Int)≤100)))=true
    rw [decide_eq_true (show (q.name.size:Int)≤300 by omega),decide_eq_true (show (q.dG.n:Int)≤2000 by omega),decide_eq_true (show (q.tok.n:Int)≤100 by omega),decide_eq_true (show (sd.n:Int)≤100 by omega)]; rfl
   have hB:=H.bytes 10 rfl
   refine aC (W0 Q3 b3 t3 q b3 t3 (by omega) (by omega) wh (ty3.jQ _ hB) (tt3.jQ _ hB) (hy.aI H.mod) (ht.aI H.mod)) ?_
   rintro _ xN ⟨rfl,m19⟩
   have H:=H.frame m19
   rw [QT aoW]
   refine bh (H.ay 12 rfl (an p3 14) rfl (H.ay 0 rfl (an p 14) rfl (ite_true rfl (aC (MD D3 sd l3 xN (td3.jQ _ (H.bytes 10 rfl)) (hd.aI H.mod) (by omega)) ?_))))
   rintro _ Lr ⟨rfl,m20⟩
   exact bh (ite_true rfl (jV (H.frame m20)))
  ·have D8:=aoU hm
   rw [r3.eq] at D8
   have D8:fP s3=false:=D8
   rw [D8] at wv ⊢
   have wv:eR wh e3 4:=wv
   refine ite_true ?_ (wv.isNil (aq.yE H 12 rfl (aq.yE H 0 rfl (ite_true rfl (H.ay 12 rfl (an p3 14) rfl (H.ay 0 rfl (an p 14) rfl (jV H)))))))
   show (decide ((4:Int)=0) == (((decide ((q.name.size:Int)≤300) && decide ((q.dG.n:Int)≤2000)) && decide ((q.tok.n:Int)≤100)) && decide ((sd.n:Int)≤100)))=true
   have:(((decide ((q.name.size:Int)≤300) && decide ((q.dG.n:Int)≤2000)) && decide ((q.tok.n:Int)≤100)) && decide ((sd.n:Int)≤100))=false:=by
    rw [Bool.eq_false_iff]
    intro h
    simp only [Bool.and_eq_true,decide_eq_true_eq] at h
    exact hm (by omega)
   rw [this]; rfl
 have D:=H.drew
 have aco:∀ {w':World} {p4:Nat} {M:List aB},aq w [] w' M→bQ w' p4 [sd.v] bp→lz w' [] ⟨some ⟨p4,0,none⟩,1,1⟩ [ld]:=fun K hB=>lz.Uw hB (by simp) (hd.aI K.mod) (sq _)
 have hbo:(vw q lb lt).length≤100000:=by
  have:=congrArg List.length eL
  rw [List.length_append] at this
  omega
 refine aq.yE D 0 rfl (D.ay 0 rfl (an p 14) rfl ⟨?_,?_⟩)
 ·refine aC (Xz q lb lt (by omega) (by omega) (by omega) _ (hy.aI D.mod) (ht.aI D.mod)) ?_
  rintro _ xR ⟨u,rfl,hu,m23⟩
  have E:aq w [] xR [.av p (cY q sd) cV,.row aM 1 z (aL C),.row aM 1 u (aL (vw q lb lt))]:=D.gG m23 hu
  refine dP ⟨D.kept m23 0 rfl (an p 14) 1,E.nwm fun p4 HU F m24=>⟨E.kept m24 0 rfl (an p 0) 14,?_⟩⟩
  refine aC (N4 u (vw q lb lt) ⟨some ⟨p4,0,none⟩,1,1⟩ [ld] hbo (by simp) (fun x hx=>by rw [List.mem_singleton.1 hx]; omega) HU (F.bytes 2 rfl) (aco F (F.av 3 rfl))) ?_
  rintro _ w25 ⟨y,rfl,BH,Wu⟩
  rw [eL] at BH
  have G:=F.gG Wu BH
  exact dP (rest (M:=[]) (G.eu [0,1,4] (by decide) rfl))
 ·refine D.nwm fun p5 w26 F m26=>⟨D.kept m26 0 rfl (an p 0) 14,?_⟩
  refine aC (Xz q lb lt (by omega) (by omega) (by omega) _ (hy.aI F.mod) (ht.aI F.mod)) ?_
  rintro _ w27 ⟨u,rfl,hu,m27⟩
  have E:aq w [] w27 [.av p (cY q sd) cV,.row aM 1 z (aL C),.av p5 [sd.v] bp,.row aM 1 u (aL (vw q lb lt))]:=F.gG m27 hu
  refine dP ⟨F.kept m27 0 rfl (an p 14) 1,?_⟩
  refine aC (N4 u (vw q lb lt) ⟨some ⟨p5,0,none⟩,1,1⟩ [ld] hbo (by simp) (fun x hx=>by rw [List.mem_singleton.1 hx]; omega) w27 (E.bytes 3 rfl) (aco E (E.av 2 rfl))) ?_
  rintro _ w25 ⟨y,rfl,BH,Wu⟩
  rw [eL] at BH
  have G:=E.gG Wu BH
  exact dP (rest (M:=[]) (G.eu [0,1,4] (by decide) rfl))
end Go.Proofs.YtpchgbolambkcaaGreatDoor
end
section
set_option linter.unusedVariables false
set_option linter.unusedSimpArgs false
namespace Go.Ev
open Go Go.RowKit Go.ChangeShapes Go.WideShapes Go.ChangeAt Go.Deep
variable {P:Program}
theorem ajr {t:TypeId} (ht:P.underlying t=some .bool):Reads P t 1 (tY .bool):=by
 intro H enc w held fuel cs x h
 obtain ⟨b,rfl,_⟩:=DataW.trod_bool ht h
 exact ⟨⟨_,rfl,b,rfl⟩,rfl⟩
theorem aj2 {t:TypeId} (ht:P.underlying t=some .string):Reads P t 1 (tY .str):=by
 intro H enc w held fuel cs x h
 obtain ⟨s,rfl,_,hm⟩:=DataW.trod_string ht h
 exact ⟨⟨_,rfl,s,rfl,by simp only [maxLen] at hm; omega⟩,rfl⟩
theorem R8 {A:Type} {C:A→Value} {Q:World→List Value→Prop} {w:World} (hq:∀ cs,Q w cs→∃ a,cs=[C a]):∀ (rows:List (List Value)),(∀ row∈rows,Q w row)→∃ l:List A,rows.flatten=l.map C∧l.length=rows.length
 | [],_=>⟨[],rfl,rfl⟩
 | r :: rs,h=>by
  obtain ⟨l,h1,h2⟩:=R8 hq rs fun row hr=>h row (List.mem_cons_of_mem _ hr)
  obtain ⟨a,ha⟩:=hq r (h r (List.mem_cons_self ..))
  exact ⟨a :: l,by rw [List.flatten_cons,h1,ha]; rfl,by simp [h2]⟩
end Go.Ev
namespace Go.Proofs.YtpchgbolambkcaaGreatDoor
open Go Go.Ev Go.RowKit
set_option maxRecDepth 20000
set_option linter.unusedVariables false
theorem Zm:Pr.underlying JN=some (.slice jA):=by kernel_rfl
theorem YH {H:Type} {enc:TypeId×Value→H} {w:World} {held:Bool} {v:Value} {d:DataW H} {ps:List MemPlace} {r:Reach} {base:Nat} (hv:Value.okWide Pr w r base JN v) (h:DataW.Trod enc Pr w 0 (fun _=>true) held JN v d ps) :
  ∃ (s:ah) (l:List Bool),v=.slice s.a s.n s.c∧yY w s l:=by
 obtain ⟨s,rows,rfl,hs,hn,hr,_⟩:=ZY Zm (As Zm (by kernel_rfl) (ajr (by kernel_rfl))) hv h
 obtain ⟨l,h1,h2⟩:=R8 (C:=Value.bool) (Q:=tY .bool) (w:=w) (fun cs h=>by obtain ⟨c,rfl,b,rfl⟩:=h; exact ⟨b,rfl⟩) rows fun row jL=>(hr row jL).1
 rw [h1] at hs
 exact ⟨s,l,rfl,hs⟩
theorem ZZ:Pr.underlying Q7=some (.slice so):=by kernel_rfl
theorem Zn {H:Type} {enc:TypeId×Value→H} {w:World} {held:Bool} {v:Value} {d:DataW H} {ps:List MemPlace} {r:Reach} {base:Nat} (hv:Value.okWide Pr w r base Q7 v) (h:DataW.Trod enc Pr w 0 (fun _=>true) held Q7 v d ps) :
  ∃ (s:ah) (l:List ByteArray),v=.slice s.a s.n s.c∧xq w s l:=by
 obtain ⟨s,rows,rfl,hs,hn,hr,_⟩:=ZY ZZ (As ZZ (by kernel_rfl) (aj2 (by kernel_rfl))) hv h
 obtain ⟨l,h1,h2⟩:=R8 (C:=Value.string) (Q:=tY .str) (w:=w) (fun cs h=>by obtain ⟨c,rfl,b,rfl,_⟩:=h; exact ⟨b,rfl⟩) rows fun row jL=>(hr row jL).1
 rw [h1] at hs
 exact ⟨s,l,rfl,hs⟩
theorem ala {H:Type} {enc:TypeId×Value→H} {w:World} {held:Bool} {v:Value} {d:DataW H} {ps:List MemPlace} {r:Reach} {base:Nat} (hv:Value.okWide Pr w r base so v) (h:DataW.Trod enc Pr w 0 (fun _=>true) held so v d ps):∃ s:ByteArray,v=.string s:=by
 obtain ⟨s,hs⟩:=Go.WideShapes.okWide_string (t:=so) (by kernel_rfl) hv
 exact ⟨s,hs⟩
theorem mS {z:Int} (h:IntKind.min .i64≤z∧z≤IntKind.max .i64):cO z:=by
 have e1:IntKind.min .i64 = -9223372036854775808:=by decide
 have e2:IntKind.max .i64=9223372036854775807:=by decide
 rw [e1,e2] at h
 exact h
def SJ:List (TypeId×Nat×(World→List Value→Prop)):=[(dx,14,fun w cs=>nN w R7 cs),(bp,1,tY .bytes)]
theorem aiu:Reads Pr cV 15 (yN SJ):=QS SJ (by kernel_rfl) fun x hx=>by
 simp only [SJ,List.mem_cons,List.not_mem_nil,or_false] at hx
 rcases hx with rfl | rfl
 ·exact Part.of (EO ajV)
 ·exact Part.leaf (by kernel_rfl)
theorem alb {w:World} {cs:List Value} (nP:nN w R7 cs):∃ (q:bL) (lb lt:List B8),cs=q.cells∧Bytes w q.dG lb∧Bytes w q.tok lt∧∀ n∈q.dz,cO n:=by
 obtain ⟨c0,r0,rfl,⟨z0,rfl,b0⟩,h0⟩:=nP.cons
 obtain ⟨c1,r1,rfl,⟨z1,rfl,b1⟩,h1⟩:=h0.cons
 obtain ⟨c2,r2,rfl,⟨z2,rfl,b2⟩,h2⟩:=h1.cons
 obtain ⟨c3,r3,rfl,⟨z3,rfl,b3⟩,h3⟩:=h2.cons
 obtain ⟨c4,r4,rfl,⟨z4,rfl,b4⟩,h4⟩:=h3.cons
 obtain ⟨c5,r5,rfl,⟨z5,rfl,b5⟩,h5⟩:=h4.cons
 obtain ⟨c6,r6,rfl,⟨z6,rfl,b6⟩,h6⟩:=h5.cons
 obtain ⟨c7,r7,rfl,⟨z7,rfl,b7⟩,h7⟩:=h6.cons
 obtain ⟨c8,r8,rfl,⟨z8,rfl,b8⟩,h8⟩:=h7.cons
 obtain ⟨c9,r9,rfl,⟨z9,rfl,b9⟩,h9⟩:=h8.cons
 obtain ⟨eZ,r10,rfl,⟨z10,rfl,b10⟩,Bp⟩:=h9.cons
 obtain ⟨fh,r11,rfl,⟨s,rfl,_⟩,Bq⟩:=Bp.cons
 obtain ⟨dS,r12,rfl,⟨u,l,rfl,hl,_⟩,Gt⟩:=Bq.cons
 obtain ⟨dU,r13,rfl,⟨v,m,rfl,hm,_⟩,h13⟩:=Gt.cons
 obtain rfl:=h13.nil
 refine ⟨⟨z0,z1,z2,z3,z4,z5,z6,z7,z8,z9,z10,s,u,v⟩,l,m,rfl,hl,hm,fun n hn=>?_⟩
 simp only [bL.dz,List.mem_cons,List.not_mem_nil,or_false] at hn
 rcases hn with rfl | rfl | rfl | rfl | rfl | rfl | rfl | rfl | rfl | rfl | rfl <;> apply mS <;> assumption
theorem aiT {H:Type} {enc:TypeId×Value→H} {w:World} {held:Bool} {v:Value} {d:DataW H} {ps:List MemPlace} {r:Reach} {base:Nat} (hv:Value.okWide Pr w r base cV v) (h:DataW.Trod enc Pr w 0 (fun _=>true) held cV v d ps) :
  ∃ (q:bL) (sd:ah) (lb lt ld:List B8),v=.agg ⟨cY q sd⟩∧Bytes w q.dG lb∧Bytes w q.tok lt∧Bytes w sd ld∧∀ n∈q.dz,cO n:=by
 obtain ⟨cs,rfl,hq⟩:=Zh aiu (by kernel_rfl) hv h
 obtain ⟨u,r,rfl,hu,_,v,r2,rfl,⟨c1,rfl,s,sl,rfl,hs,_⟩,_,rfl⟩:=hq
 obtain ⟨q,lb,lt,rfl,h1,h2,h3⟩:=alb hu
 exact ⟨q,s,lb,lt,sl,rfl,h1,h2,hs,h3⟩
def aoX (g:dY):Prop:=cO g.n0∧cO g.n1∧cO g.n2∧cO g.n3∧cO g.n4
theorem XG {w:World}:∀ (rows:List (List Value)),(∀ row∈rows,nN w Kl row∧row.length=Kl.length)→∃ l:List dY,rows.flatten=gX l∧∀ g∈l,aoX g
 | [],_=>⟨[],rfl,fun g h=>by cases h⟩
 | r :: rs,h=>by
  obtain ⟨l,h1,h3⟩:=XG rs fun row hr=>h row (List.mem_cons_of_mem _ hr)
  obtain ⟨c0,r0,e0,⟨z0,rfl,b0⟩,h0⟩:=(h r (List.mem_cons_self ..)).1.cons
  obtain ⟨c1,r1,rfl,⟨z1,rfl,b1⟩,DG⟩:=h0.cons
  obtain ⟨c2,r2,rfl,⟨z2,rfl,b2⟩,h2⟩:=DG.cons
  obtain ⟨c3,r3,rfl,⟨z3,rfl,b3⟩,h3'⟩:=h2.cons
  obtain ⟨c4,r4,rfl,⟨z4,rfl,b4⟩,h4⟩:=h3'.cons
  obtain ⟨c5,r5,rfl,⟨z5,rfl⟩,h5⟩:=h4.cons
  obtain rfl:=h5.nil
  refine ⟨⟨z0,z1,z2,z3,z4,z5⟩ :: l,?_,fun x hx=>?_⟩
  ·show r ++ rs.flatten=dY.cells ⟨z0,z1,z2,z3,z4,z5⟩ ++ gX l
   rw [h1,e0]
  ·rcases List.mem_cons.1 hx with rfl | hx
   ·exact ⟨mS b0,mS b1,mS b2,mS b3,mS b4⟩
   ·exact h3 x hx
theorem alc {w:World} {cs:List Value} (h:yN JY w cs):∃ (s:cL) (t:aJ),cs=t.cs s∧bN w s t∧nD t:=by
 obtain ⟨u0,r0,rfl,⟨c0,rfl,clock,rfl,am9⟩,_,u1,r1,rfl,⟨c1,rfl,sec,aoY,rfl,mZ,_⟩,_,u2,r2,rfl,⟨ten,tr,rfl,KY,_,xO,_⟩,_,u3,r3,rfl,⟨aE,pr,rfl,acp,_,UR,_⟩,_,u4,r4,rfl,⟨key,kr,rfl,acq,_,hkr,_⟩,_,u5,r5,rfl,⟨gr,gr',rfl,LL,_,aoZ,_⟩,_,rfl⟩:=h
 obtain ⟨ts,x1,e1,d1,n1⟩:=E3 (C:=bZ.cs) (E:=UG) (p:=fun x:bZ=>cO x.id∧cO x.par) (w:=w) tr fun row jL=>by
  obtain ⟨c0,r0,rfl,⟨z0,rfl,b0⟩,h0⟩:=(xO row jL).1.cons
  obtain ⟨c1,r1,rfl,⟨z1,rfl,b1⟩,h1⟩:=h0.cons
  obtain ⟨c2,r2,rfl,⟨z2,rfl,b2⟩,h2⟩:=h1.cons
  obtain rfl:=h2.nil
  exact ⟨⟨z0,z1,z2⟩,⟨none,0,0⟩,rfl,trivial,mS b0,mS b1⟩
 obtain ⟨ps,x2,e2,d2,n2⟩:=E3 (C:=cv.cs) (E:=zJ) (p:=fun p:cv=>cO p.id∧cO p.ten∧cO p.high) (w:=w) pr fun row jL=>by
  obtain ⟨c0,r0,rfl,⟨z0,rfl,b0⟩,h0⟩:=(UR row jL).1.cons
  obtain ⟨c1,r1,rfl,⟨z1,rfl,b1⟩,h1⟩:=h0.cons
  obtain ⟨c2,r2,rfl,⟨k,kl,rfl,hk,_⟩,h2⟩:=h1.cons
  obtain ⟨c3,r3,rfl,⟨z3,rfl,b3⟩,h3⟩:=h2.cons
  obtain ⟨c4,r4,rfl,⟨z4,rfl,b4⟩,h4⟩:=h3.cons
  obtain rfl:=h4.nil
  have e4:((BitVec.ofInt 64 z4:bw).toNat:Int)=z4:=by
   have e1:IntKind.min .u64=0:=by decide
   have e2:IntKind.max .u64=18446744073709551615:=by decide
   rw [e1,e2] at b4
   rw [BitVec.toNat_ofInt]
   have:(z4 % ((2 ^ 64:Nat):Int))=z4:=Int.emod_eq_of_lt b4.1 (by omega)
   rw [this]
   omega
  refine ⟨⟨z0,z1,kl,z3,BitVec.ofInt 64 z4⟩,k,?_,hk,mS b0,mS b1,mS b3⟩
  show _=rU z0 z1 k z3 ((BitVec.ofInt 64 z4:bw).toNat:Int)
  rw [e4]
 obtain ⟨ks,x3,e3,d3,n3⟩:=E3 (C:=ct.cs) (E:=xK) (p:=fun k:ct=>(cO k.id∧cO k.ten∧cO k.set)∧∀ v∈k.bu,cO v.n∧cO v.st∧cO v.due) (w:=w) kr fun row jL=>by
  obtain ⟨u0,r0,e0,⟨c0,rfl,z0,rfl,b0⟩,_,u1,r1,rfl,⟨c1,rfl,z1,rfl,b1⟩,_,u2,r2,rfl,⟨c2,rfl,z2,rfl,b2⟩,_,u3,r3,rfl,⟨vs,vr,rfl,pQ,_,Hp,_⟩,_,rfl⟩:=(hkr row jL).1
  obtain ⟨vl,x3,e3,d3,n3⟩:=E3 (C:=cJ.cs) (E:=pI) (p:=fun v:cJ=>cO v.n∧cO v.st∧cO v.due) (w:=w) vr fun row jL=>by
   obtain ⟨c0,r0,rfl,⟨z0,rfl,b0⟩,h0⟩:=(Hp row jL).1.cons
   obtain ⟨c1,r1,rfl,⟨z1,rfl,b1⟩,h1⟩:=h0.cons
   obtain ⟨c2,r2,rfl,⟨z2,rfl,b2⟩,h2⟩:=h1.cons
   obtain ⟨c3,r3,rfl,⟨k,kl,rfl,hk,_⟩,h3⟩:=h2.cons
   obtain rfl:=h3.nil
   exact ⟨⟨z0,z1,z2,kl⟩,k,rfl,hk,mS b0,mS b1,mS b2⟩
  rw [e3] at pQ
  exact ⟨⟨z0,z1,z2,vl⟩,vs,e0,⟨x3,pQ,d3⟩,⟨mS b0,mS b1,mS b2⟩,n3⟩
 obtain ⟨gs,e4,n4⟩:=XG gr' aoZ
 rw [e1] at KY
 rw [e2] at acp
 rw [e3] at acq
 rw [e4] at LL
 exact ⟨⟨sec,ten,aE,key,gr⟩,⟨clock,aoY,ts,ps,ks,gs⟩,rfl,⟨mZ,⟨x1,KY,d1⟩,⟨x2,acp,d2⟩,⟨x3,acq,d3⟩,LL⟩,⟨mS am9,n1,n2,fun k hk=>(n3 k hk).1,fun k hk=>(n3 k hk).2,n4⟩⟩
theorem nD.fit {t:aJ} (h:nD t):∀ g∈t.cM,g.fit:=fun g hg=>(h.gr g hg).2.2.2.1.1
theorem Jy {H:Type} {enc:TypeId×Value→H} {w:World} {held:Bool} {v:Value} {d:DataW H} {ps:List MemPlace} {r:Reach} {base:Nat} (hv:Value.okWide Pr w r base aA v) (h:DataW.Trod enc Pr w 0 (fun _=>true) held aA v d ps) :
  ∃ (s:cL) (t:aJ),v=.agg ⟨t.cs s⟩∧bN w s t∧nD t:=by
 obtain ⟨cs,rfl,hq⟩:=Zh ajX (by kernel_rfl) hv h
 obtain ⟨s,t,rfl,ht,hf⟩:=alc hq
 exact ⟨s,t,rfl,ht,hf⟩
end Go.Proofs.YtpchgbolambkcaaGreatDoor
end
section
set_option linter.unusedVariables false
set_option linter.unusedSimpArgs false
namespace Go.Proofs.YtpchgbolambkcaaGreatDoor
open Go Go.Ev
set_option maxRecDepth 20000
set_option linter.unusedVariables false
set_option maxHeartbeats 1000000
theorem JZ (n:Nat) (a:Int) (ha:0≤a):cQ (cX n) a=none:=sv (by
 by_cases h:a<n
 ·rw [tL n a ⟨ha,h⟩]; exact rj
 ·have hb:aX (cX n) a=[]:=by
   unfold aX cX
   show (List.replicate n fI).getD a.toNat []=[]
   rw [List.getD_eq_getElem?_getD,List.getElem?_replicate,if_neg (by omega)]; rfl
  have e1:decide (1≤(dV []).gen)=false:=rfl
  rw [hb]
  unfold mo
  rw [e1]
  simp)
theorem aj3 (n:Nat):dK (cX n)=none:=by
 unfold dK
 rw [JZ n 0 (by omega),JZ n 40 (by omega)]
 rfl
theorem aaA (gen:Int):0≤cR gen:=by have:=qu gen; omega
theorem anX {D:aU} {gen count:Int} {t:aJ} (h:¬ (dh t=true∧1≤gen∧0≤count∧80<D.now.length)):oE D gen count t=2∧dB D gen count t=D:=by
 have hq:wo D gen count t≠true:=fun hx=>by
  unfold wo at hx
  simp only [Bool.and_eq_true,decide_eq_true_eq] at hx
  exact h hx
 unfold oE dB
 rw [if_neg hq,if_neg hq]
 exact ⟨rfl,rfl⟩
section
variable {w0 w:World} {p m:Nat} {s:gB} {D:aU} {L:List aB}
theorem anY (H:aq w0 [] w (cu p s D ++ L)) (hD:D.ok m) {K:Int→Int→Addr→Value→World→Prop}
  (hk:∀ T f q e w',aq w0 [] w' (cu p s D ++ L ++ [.box f fun w=>sH f w T ((dK D).getD jR).2.2,aB.err e (gD D),.av q (((dK D).getD jR).2.2.cs T) aA])→K ((dK D).getD jR).1 ((dK D).getD jR).2.1 ⟨q,0,none⟩ e w') :
  ax Pr qn [.pointer (some ⟨p,0,none⟩)] w fun v w7=>bU.bY v fun vs=>aD vs fun v1 r1=>aF .i64 v1 fun g=>aD r1 fun v2 r2=>aF .i64 v2 fun c=>aD r2 fun v3 r3=>ez v3 fun t0 t1 t2 t3 t4 t5=>aD r3 fun v4 r4=>
   (r4=[]∧nw aA (zc Pr aA) w7 fun q w8=>aV q t0 t1 t2 t3 t4 t5 w8 fun w9=>K g c q v4 w9):=by
 rw [lV]
 refine aC (XF (mV H) hD) ?_
 rintro _ w2 ⟨T0,e0,f0,rfl,G⟩
 have H:=H.join G
 generalize (dK D).getD jR=r at *
 obtain ⟨a,b,t⟩:=r
 refine ⟨_,rfl,cr (cr (jT ⟨rfl,H.nw fun q w3 H _=>H.aV ((cu p s D ++ L).length+2) (SE _ _ _ _) rfl fun w4 H=>hk T0 f0 q e0 w4 ?_⟩))⟩
 have H:aq w0 [] w4 (((cu p s D ++ L ++ [aB.box f0 (fun w=>sH f0 w T0 t),aB.err e0 (gD D)]) ++ [aB.av q (bK.cs sZ) aA]).set ((cu p s D ++ L).length+2) (aB.av q (t.cs T0) aA)):=H
 rw [SF] at H
 exact H
end
theorem aiv (s1 s2:cL) (t1 t2:aJ) (gen count more n:Int) (w:World) (hg:Laid w) (x1:bN w s1 t1) (x2:bN w s2 t2) (f1:∀ g∈t1.cM,g.fit) (f2:∀ g∈t2.cM,g.fit) (k1:nD t1) (k2:nD t2) :
  Ok Pr WJ [.agg ⟨t1.cs s1⟩,.agg ⟨t2.cs s2⟩,.int .i64 gen,.int .i64 count,.int .i64 more,.int .i64 n] w fun v w'=>v=.bool true∧Mod [] w w':=by
 refine aeI ?_
 unfold Nq
 have jV:∀ {w':World} {L:List aB},aq w [] w' L→ax Pr jG [] w' fun v w1=>aQ v fun t=>(fun (v:Value) (w':World)=>v=.bool true∧Mod [] w w') (.bool t) w1:=by
  intro w' L H
  refine aC (B0 w' (hg.gS H (by simp))) ?_
  rintro _ w2 ⟨rfl,m⟩
  exact bh ⟨rfl,H.mod.trans m⟩
 refine (aq.start w).nw fun p w1 H _=>H.nw fun q w2 H _=>?_
 have H:aq w [] w2 [.av p (t1.cs s1) aA,.av q (t2.cs s2) aA]:=H
 refine iB fun go bX=>gm fun go2 ku=>?_
 refine H.aG 0 rfl (aC (Ix s1 t1 w2 (x1.aI H.mod)) ?_)
 rintro _ w3 ⟨b1,rfl,m3,l1⟩
 have H:=H.frame m3
 refine bh (H.aG 1 rfl ?_)
 cases b1 with
 | true=>exact ite_true rfl (ku true w3 (ite_true rfl (jV H)))
 | false=>
 refine ite_false rfl (aC (Ix s2 t2 w3 (x2.aI H.mod)) ?_)
 rintro _ w4 ⟨b2,rfl,m4,l2⟩
 have H:=H.frame m4
 refine bh (ku b2 w4 ?_)
 cases b2 with
 | true=>exact ite_true rfl (jV H)
 | false=>
 have l1:=(l1 rfl).small f1
 have l2:=(l2 rfl).small f2
 refine ite_false rfl (bX w4 ?_)
 refine aC (yw n 100 (by omega) (by omega) w4) ?_
 rintro _ w5 ⟨rfl,e5⟩
 rw [e5]
 have hl0:=AI (x:=n) (n:=100) (by omega)
 obtain ⟨N,hN⟩:∃ N:Nat,N=1+low n 100:=⟨_,rfl⟩
 have eN:(1:Int)+(low n 100:Int)=(N:Int):=by omega
 have hN1:1≤N∧N≤100:=by omega
 refine cr ?_
 rw [eN]
 clear hN eN hl0
 have hD:=vA N (by omega)
 have nV:=CL N
 refine ⟨by unfold aH; omega,aC (Cn N (by omega) (by omega) w4) ?_⟩
 rintro _ w6 ⟨pd,s,rfl,G⟩
 have H:aq w [] w6 (cu pd s (cX N) ++ [.av p (t1.cs s1) aA,.av q (t2.cs s2) aA]):=(H.join G).eu [2,3,4,5,6,0,1] (by decide) rfl
 refine yR (ite_false rfl (H.aG 5 rfl (aC (Ao H.sub hD gen count s1 t1 l1 fun m=>x1.aI (H.beside m).mod) ?_)))
 rintro e1 w7 ⟨sx,K⟩
 have H:=H.back K
 clear K G
 have H:aq w [] w7 (cu pd sx (dB (cX N) gen count t1) ++ [aB.err e1 (oE (cX N) gen count t1),.av p (t1.cs s1) aA,.av q (t2.cs s2) aA]):=H
 refine H.aG 6 rfl (aC (Ch s1 t1 l1 w7 (x1.aI H.mod)) ?_)
 rintro _ w8 ⟨rfl,m8⟩
 have H:=H.frame m8
 refine bh ?_
 by_cases hm:dh t1=true∧1≤gen∧0≤count∧80<(cX N).now.length
 case neg=>
  obtain ⟨c1,c2⟩:=anX (D:=cX N) (gen:=gen) (count:=count) (t:=t1) hm
  rw [c1,c2] at H
  rw [nV] at hm
  refine ite_true ?_ ?_
  ·cases ht:dh t1 with
   | false=>rfl
   | true=>
    by_cases h1:gen<1
    ·rw [decide_eq_true h1]; rfl
    by_cases h2:count<0
    ·rw [decide_eq_true h2,decide_eq_false h1]; rfl
    rw [decide_eq_true (show (N:Int)≤80 by have:¬ (80<N):=fun h3=>hm ⟨ht,by omega,by omega,h3⟩
                                           omega),Bool.or_true]
  have hl:=aj3 N
  have BB:gD (cX N)=9:=by unfold gD; rw [hl]; rfl
  generalize cX N=D0 at *
  refine loadT (L:=[aB.err e1 2,.av p (t1.cs s1) aA,.av q (t2.cs s2) aA]) H hD fun T f r e w9 H=>?_
  rw [BB] at H
  refine aC (B9 e1 2 w9 (hg.gS H (by simp)) (H.err 5 rfl)) ?_
  rintro _ dN ⟨rfl,xP⟩
  have H:=H.frame xP
  refine cr (ite_true rfl (aC (B9 e 9 dN (hg.gS H (by simp)) (H.err 9 rfl)) ?_))
  rintro _ fZ ⟨rfl,HL⟩
  exact cr (ite_true rfl (jV (H.frame HL)))
 obtain ⟨LR,Gv,hm3,LS⟩:=hm
 refine ite_false ?_ ?_
 ·rw [LR,decide_eq_false (show ¬ gen<1 by omega),decide_eq_false (show ¬ count<0 by omega),decide_eq_false (show ¬ (N:Int)≤80 by omega)]; rfl
 refine cN (fun _=>jV H) fun hb=>?_
 rw [Bool.or_eq_false_iff] at hb
 have sU:=of_decide_eq_false hb.1
 have l5:=of_decide_eq_false hb.2
 obtain ⟨c1,c2,c3,_,c5⟩:=AM (D:=cX N) hD (gen:=gen) (count:=count) (mQ.1 LR) k1 (by omega) (by omega) LS (.inl (JZ N _ (aaA gen)))
 have c6:cQ (dB (cX N) gen count t1) (bC gen)=some (gen,count,t1):=C3 hD (mQ.1 LR) k1 (by omega) (by omega) LS
 have c7:cQ (dB (cX N) gen count t1) (cR gen)=none:=(SC hD (mQ.1 LR) (by omega) (by omega) LS).trans (JZ N _ (aaA gen))
 rw [nV] at c3 LS
 have c8:gD (dB (cX N) gen count t1)=0:=by unfold gD; rw [c2]; rfl
 rw [c1] at H
 generalize dB (cX N) gen count t1=D1 at *
 refine anY (L:=[aB.err e1 0,.av p (t1.cs s1) aA,.av q (t2.cs s2) aA]) H c5 fun T f r e w9 H=>?_
 rw [c2,c8] at H
 rw [c2]
 have H:aq w [] w9 [.av pd (pV sx) oI,.row bp 1 sx.nw (sx.xs.map ah.v),.row bp 1 sx.fm (sx.ys.map ah.v),.row jA 1 sx.dt (iC D1.dQ),.box sx.fp fun w=>br fo w sx.xs D1.now∧br fo w sx.ys D1.dI,aB.err e1 0,.av p (t1.cs s1) aA,.av q (t2.cs s2) aA,.box f fun w=>sH f w T t1,aB.err e 0,.av r (t1.cs T) aA]:=H
 refine iB fun go bX=>(H.err 5 rfl:eR w9 e1 0).isNil (ite_false rfl ((H.err 9 rfl:eR w9 e 0).isNil (H.aG 10 rfl (H.aG 6 rfl (ite_false ?_ (aC (wA T s1 t1 l1 w9 (H.box 8 rfl).r (x1.aI H.mod)) ?_))))))
 ·show (((!decide ((0:Int)=0)) || (!decide (gen=gen))) || (!decide (count=count)))=false
  rw [decide_eq_true (rfl:gen=gen),decide_eq_true (rfl:count=count)]; rfl
 rintro _ dN ⟨rfl,xP⟩
 have H:=H.frame xP
 refine bh (ite_false rfl (bX dN ?_))
 obtain ⟨xp,xk,F,j1,j2,G⟩:=(H.box 8 rfl).o
 refine H.aG 10 rfl (aC (afm T t1 xp xk F l1 j1 j2 G) ?_)
 rintro _ fZ ⟨rfl,HL⟩
 have H:=H.nr 8 rfl (r':=.no) HL (fun b hb=>.inl hb) trivial (fun b hb=>by cases hb)
 clear G
 have H:aq w [] fZ (cu pd sx D1 ++ [aB.err e1 0,.av p (t1.cs s1) aA,.av q (t2.cs s2) aA,.no,aB.err e 0,.av r (t1.cs T) aA]):=H
 refine H.aG 7 rfl (aC (Ch s2 t2 l2 fZ (x2.aI H.mod)) ?_)
 rintro _ dO ⟨rfl,Wd⟩
 have H:=H.frame Wd
 refine bh ?_
 cases Lz:dh t2 with
 | false=>exact ite_true rfl (jV H)
 | true=>
 refine ite_false rfl (aC (yw more 9 (by omega) (by omega) dO) ?_)
 rintro _ gH ⟨rfl,Wl⟩
 rw [Wl]
 have vX:=AI (x:=more) (n:=9) (by omega)
 have uw:(0:Int)≤(low more 9:Int):=by omega
 generalize (low more 9:Int)=k at *
 refine cr ⟨by unfold aH; omega,by unfold aH; omega,by unfold aH; omega,?_⟩
 have ew1:IntKind.wrap .i64 (gen+(1+k))=gen+(1+k):=wrap_i64 (by omega) (by omega)
 have ew2:IntKind.wrap .i64 (count+(1+k))=count+(1+k):=wrap_i64 (by omega) (by omega)
 rw [ew1,ew2]
 have ho:cQ D1 (cR (gen+(1+k)))=none∨∃ r,cQ D1 (cR (gen+(1+k)))=some r∧r.1<gen+(1+k):=by
  have r1:=qu gen
  have r2:=qu (gen+(1+k))
  have:cR (gen+(1+k))=cR gen∨cR (gen+(1+k))=bC gen:=by omega
  rcases this with h | h
  ·rw [h]; exact .inl c7
  ·rw [h]; exact .inr ⟨_,c6,by show gen<_; omega⟩
 obtain ⟨d1,d2,d3,_,d5⟩:=AM c5 (gen:=gen+(1+k)) (count:=count+(1+k)) (mQ.1 Lz) k2 (by omega) (by omega) (by omega) ho
 have d8:gD (dB D1 (gen+(1+k)) (count+(1+k)) t2)=0:=by unfold gD; rw [d2]; rfl
 generalize gen+(1+k)=DD at *
 generalize count+(1+k)=C5 at *
 refine H.aG 7 rfl (aC (Ao H.sub c5 DD C5 s2 t2 l2 fun m=>x2.aI (H.beside m).mod) ?_)
 rintro e3 kN ⟨sy,K⟩
 rw [d1] at K
 have H:=H.back K
 clear K
 generalize dB D1 DD C5 t2=D2 at *
 have H:aq w [] kN (cu pd sy D2 ++ [aB.err e3 0,aB.err e1 0,.av p (t1.cs s1) aA,.av q (t2.cs s2) aA,.no,aB.err e 0,.av r (t1.cs T) aA]):=H
 refine (H.err 5 rfl:eR kN e3 0).isNil (ite_false rfl (aC (I7 (mV H) d5) ?_))
 rintro _ nv ⟨T4,e4,f4,rfl,G⟩
 rw [d2,d8] at G
 rw [d2]
 have H:=H.join G
 have H:aq w [] nv [.av pd (pV sy) oI,.row bp 1 sy.nw (sy.xs.map ah.v),.row bp 1 sy.fm (sy.ys.map ah.v),.row jA 1 sy.dt (iC D2.dQ),.box sy.fp fun w=>br fo w sy.xs D2.now∧br fo w sy.ys D2.dI,aB.err e3 0,aB.err e1 0,.av p (t1.cs s1) aA,.av q (t2.cs s2) aA,.no,aB.err e 0,.av r (t1.cs T) aA,.box f4 fun w=>bN w T4 t2,aB.err e4 0]:=H
 refine ⟨_,rfl,cr (cr (jT ⟨rfl,H.aV 11 rfl rfl fun mN H=>(H.err 13 rfl:eR mN e4 0).isNil (H.aG 11 rfl (H.aG 8 rfl (ite_true ?_ (aC (wA T4 s2 t2 l2 mN (H.box 12 rfl) (x2.aI H.mod)) ?_))))⟩))⟩
 ·show ((decide ((0:Int)=0) && decide (DD=DD)) && decide (C5=C5))=true
  rw [decide_eq_true (rfl:DD=DD),decide_eq_true (rfl:C5=C5)]; rfl
 rintro _ pU ⟨rfl,rL⟩
 exact bh (ite_true rfl (jV (H.frame rL)))
end Go.Proofs.YtpchgbolambkcaaGreatDoor
end
