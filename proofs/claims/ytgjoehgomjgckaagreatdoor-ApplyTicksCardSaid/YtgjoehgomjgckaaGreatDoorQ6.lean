/- Texts of this claim, packed and shortened. -/
import Derived.KernelRfl
import Derived.Deep.Slices
import Derived.Deep.Fields
import Derived.Test.YtgjoehgomjgckaaGreatDoorQ5
import Derived.Test.YtgjoehgomjgckaaGreatDoorQ1
import Derived.Test.YtgjoehgomjgckaaGreatDoorQ2
import Derived.Test.YtgjoehgomjgckaaGreatDoorQ4
import Derived.Test.YtgjoehgomjgckaaGreatDoorQ3
section
set_option linter.unusedVariables false
set_option linter.unusedSimpArgs false
namespace Go.Ev
open Go Go.RowKit
section
variable {A:Type} {C:A→ah→List Value} {sz:Nat} {te:TypeId} {w0 w:World} {S:List Nat} {L:List aD} {s:ah} {ls:List A} {xs:List ah} {i:Nat}
theorem ak.nM (H:ak w0 S w L) (k:Nat) (hk:L[k]? = some (.row te sz s (bh C ls xs))) (hC:∀ a x,(C a x).length=sz) (hx:xs.length=ls.length) {a a':A} {x:ah} (ha:ls[i]? = some a) (dA:xs[i]? = some x) {j:Nat} (hj:j<sz) {v:Value} (hv:ey v=true) (hz:C a' x=(C a x).set j v) {K:World→Prop}
  (h:∀ w',ak w0 S w' (L.set k (.row te sz s (bh C (ls.set i a') xs)))→K w'):Ev.st (Addr.add (Addr.add (base s.a) (Int.toNat (i:Int) * sz)) j) v w K:=by
 have hi:=(List.getElem?_eq_some_iff.1 ha).1
 refine H.qQ k (i:=i * sz+j) hk (by rw [add_add,Int.toNat_natCast]) ?_ hv fun w' H'=>h w' ?_
 ·rw [iQ hC _ _ hx]
  have:=Nat.mul_le_mul_right sz (show i+1≤ls.length from hi)
  rw [Nat.succ_mul] at this
  omega
 ·rw [tD hC ls xs i j a a' x x v ha dA hj hz,Bk dA] at H'
  exact H'
end
end Go.Ev
namespace Go.Proofs.YtgjoehgomjgckaaGreatDoor
open Go Go.Ev
set_option maxRecDepth 20000
set_option linter.unusedVariables false
def JF (q:bK) (p:ct):ct:={ p with high:=uk p.high p.used q.n1,used:=xU p.high p.used q.n1 }
def ek (q:bK) (t:aR):ct:=t.aE.getD (q.n0 - 1).toNat fF
def iD (q:bK) (t:aR):aR:={ t with aE:=t.aE.set (q.n0 - 1).toNat (JF q (ek q t)) }
def oU (q:bK) (lt:List B8) (t:aR):Int:=
 if (fE t && oI q)=true then
  (if aS 1 (t.aE.length:Int) q.n0=true then
   (if mG (ek q t).high (ek q t).used q.n1=0 then (if gW q t=true then tY q lt t (oJ q t) else 9) else 8)
  else 6)
 else 2
theorem VZ {q:bK} (h:oI q=true):∀ n∈q.rest,0≤n∧n≤1099511627776:=by
 unfold oI at h
 simp only [Bool.and_eq_true] at h
 intro n hn
 have:=List.all_eq_true.1 h.2.2.2.1 n hn
 simpa [aS] using this
theorem mem_set {A:Type} {l:List A} {i:Nat} {a x:A} (h:x∈l.set i a):x∈l∨x=a:=by
 rcases List.mem_or_eq_of_mem_set h with h | h
 ·exact .inl h
 ·exact .inr h
theorem alm {q:bK} {t:aR} {i:Nat} (en:(q.n0 - 1).toNat=i) (hi:i<t.aE.length):t.aE[i]? = some (ek q t):=by
 unfold ek; rw [en,List.getD_eq_getElem?_getD,List.getElem?_eq_getElem hi]; rfl
theorem Wr {q:bK} {t:aR} (hs:t.small) (hw:aS 1 (t.aE.length:Int) q.n0=true):(iD q t).small where
 sec:=hs.sec
 ten:=hs.ten
 aE:=by show (t.aE.set _ _).length≤1000; rw [List.length_set]; exact hs.aE
 key:=hs.key
 gr:=hs.gr
 pk:=fun p hp=>by
  obtain ⟨i,_,en,hi⟩:=xh hw
  rcases mem_set hp with h | h
  ·exact hs.pk p h
  ·rw [h]; exact hs.pk (ek q t) (List.mem_of_getElem? (alm en hi))
 bu:=hs.bu
 aq:=hs.aq
 gf:=hs.gf
theorem ail (q:bK) (t:aR):gW q (iD q t)=gW q t:=by
 unfold gW
 have e1:gm q (iD q t)=gm q t:=rfl
 have e2:xF q (iD q t)=xF q t:=rfl
 have e3:(iD q t).aE.length=t.aE.length:=by show (t.aE.set _ _).length=_; rw [List.length_set]
 rw [e1,e2,e3]; rfl
theorem aim (q:bK) (lt:List B8) (t:aR) (ow:Int) (hw:aS 1 (t.aE.length:Int) q.n0=true):tY { q with n4:=gm q t } lt (iD q t) ow=tY q lt t ow:=by
 obtain ⟨i,_,en,hi⟩:=xh hw
 have e:((iD q t).aE.getD (q.n0 - 1).toNat fF).ten=(t.aE.getD (q.n0 - 1).toNat fF).ten:=by
  show ((t.aE.set _ _).getD _ fF).ten=_
  rw [List.getD_eq_getElem?_getD,List.getElem?_set,if_pos rfl,if_pos (by omega)]; rfl
 show (if BY t.bP ((iD q t).aE.getD (q.n0 - 1).toNat fF).ten ow=true then (0:Int) else if jN q.n2=true then (if sX t.br t.bG lt=0 then xE (AO t.br t.bG lt) (gm q t) q.n0 q.n2 t.clock else sX t.br t.bG lt) else 10)=_
 rw [e]
 unfold tY
 cases hu:jN q.n2 with
 | false=>rfl
 | true=>
  have:gm q t=q.n4:=by
   unfold gm
   rw [if_neg (fun h=>by rw [h] at hu; cases hu)]
  rw [this]
def Z5 (w w':World) (v:Value) (q:bK) (lt:List B8) (t:aR) (sd:ah):Prop:=
 ∃ (pj:Option Addr) (er:Value),v=.tuple ⟨[.pointer pj,er]⟩∧cP w w' er (oU q lt t)∧Mod [] w w'∧
  (oU q lt t=0→∃ b s ys zs fp fq,pj=some ⟨b,0,none⟩∧ak w [] w' (cY b { q with n4:=gm q t } (iD q t) s (oJ q t) sd ys zs fp fq))
theorem afH (s:dZ) (t:aR) (q:bK) (lt:List B8) (sd:ah) (hs:t.small) (w:World) (hx:gC w s t) (ht:Bytes w q.tok lt) :
  Ok Pr MP [.agg ⟨t.cs s⟩,.agg ⟨q.cells⟩,.slice sd.a sd.n sd.c] w fun v w'=>Z5 w w' v q lt t sd:=by
 refine aeh ?_
 unfold NB
 have rC:=hx.aE.len
 have hC:oU q lt t=if (fE t && oI q)=true then (if aS 1 (t.aE.length:Int) q.n0=true then (if mG (ek q t).high (ek q t).used q.n1=0 then (if gW q t=true then tY q lt t (oJ q t) else 9) else 8) else 6) else 2:=rfl
 refine (ak.start w).nw fun p w1 H _=>H.nw fun p1 w2 H _=>?_
 have H:ak w [] w2 [.av p (t.cs s) aN,.av p1 q.cells k6]:=H
 have no:∀ {w3:World} (c:Int),Mod [] w w3→c≠0→oU q lt t=c→ay Pr lP [.int .i64 c] w3 fun v w4=>Z5 w w4 (.tuple ⟨[.pointer none,v]⟩) q lt t sd:=by
  intro w3 c m hc e
  refine aB (AU c hc w3) ?_
  rintro er w4 ⟨h,m4⟩
  exact ⟨none,er,rfl,by rw [e]; exact h.from m.size,m.trans m4,fun h0=>absurd (e.symm.trans h0) hc⟩
 refine jJ fun go bY=>?_
 have go':∀ w3,Mod [] w2 w3→(fE t && oI q)=true→go w3:=by
  intro w3 m3 xQ
  refine bY w3 ?_
  rw [if_pos xQ] at hC
  rw [Bool.and_eq_true] at xQ
  have H3:=H.frame m3
  have D:=H3.drew
  refine D.jH 1 rfl (D.bD 0 rfl (aB (NA s t hs _ (hx.aG D.mod)) ?_))
  rintro _ w4 ⟨s',ys,zs,fp,fq,rfl,aaD⟩
  have D4:=D.join aaD
  refine iu ⟨D.kept aaD.mod 1 rfl rfl 14,D4.nw fun b w5 D5 _=>?_⟩
  have J:ak w [] w5 (cY b q t s' 0 sd ys zs fp fq ++ [.av p (t.cs s) aN,.av p1 q.cells k6]):=D5.cR [9,2,3,4,5,6,7,8,0,1] (by decide) rfl
  have J2:=J.drew
  refine J2.an 0 rfl (bF b 0 0) rfl (J2.ax 8 rfl (au p 3) rfl (aB (DC _ _ _) ?_))
  rintro _ w6 ⟨rfl,hw6⟩
  subst hw6
  refine bz ?_
  show aA (!aS 1 (s.aE.n:Int) q.n0) _ _
  rw [← rC]
  cases c1:aS 1 (t.aE.length:Int) q.n0 with
  | false=>
   rw [c1,if_neg (by decide)] at hC
   exact ite_true rfl (no 6 J2.mod (by decide) hC)
  | true=>
  rw [c1,if_pos rfl] at hC
  obtain ⟨i,ei,en,hi⟩:=xh c1
  have J3:=J2.drew
  refine ite_false rfl (J3.ax 0 rfl (bF b 14 3) rfl (J3.an 0 rfl (bF b 0 0) rfl ⟨by have:=hs.aE; unfold aF; omega,?_⟩))
  show aQ s'.aE.a (q.n0 - 1) s'.aE.n _
  rw [ei]
  have J4:=J3.drew
  obtain ⟨mT,dw,x,dA,hc⟩:=YQ J4 hi
  have hwp:t.aE.getD i fF=ek q t:=by unfold ek; rw [en]
  rw [hwp] at mT hc
  refine ⟨dw,_,hc 3 _ rfl,_,hc 4 _ rfl,J4.an 0 rfl (bF b 0 1) rfl (aB (agB (ek q t).high (ek q t).used q.n1 _) ?_)⟩
  rintro _ w8 ⟨er,rfl,lN,m8⟩
  have J5:=J4.frame m8
  refine ⟨_,rfl,_,rfl,_,rfl,rfl,lN.1.isNil ?_⟩
  by_cases Kk:mG (ek q t).high (ek q t).used q.n1=0
  case neg=>
   rw [if_neg Kk] at hC
   exact ite_true (by rw [decide_eq_false Kk]; rfl) (no 8 J5.mod (by decide) hC)
  rw [if_pos Kk] at hC
  refine ite_false (by rw [decide_eq_true Kk]; rfl) ?_
  have C4:ys.length=t.aE.length:=(J5.box 5 rfl:bn gB _ ys t.aE).1
  refine J5.nM 4 rfl ct.cz C4 mT dA (a':={ ek q t with high:=uk (ek q t).high (ek q t).used q.n1 }) (by omega:3<5) rfl rfl fun cM K=>?_
  refine K.nM 4 rfl ct.cz (by rw [List.length_set]; exact C4) (a:={ ek q t with high:=uk (ek q t).high (ek q t).used q.n1 }) (a':=JF q (ek q t)) (by rw [List.getElem?_set,if_pos rfl,if_pos hi]) dA (by omega:4<5) rfl rfl fun cZ K=>?_
  rw [List.set_set,List.set_set] at K
  have K:=K.RA (Q':=fun w=>bn gB w ys (t.aE.set i (JF q (ek q t)))) 5 rfl fun w h=>by
   have:=bn.put h (i:=i) (x:=x) (a:=JF q (ek q t)) (h.2 i x _ dA mT:gB w x (ek q t))
   rwa [Bk dA] at this
  have K:ak w [] cZ (cY b q (iD q t) s' 0 sd ys zs fp fq):=by
   have K:=K.take 8
   unfold cY jm iD
   rw [en]
   exact K
  have Ki:=Wr hs c1
  have hr:=VZ xQ.2
  have hq4:=hr q.n4 (by simp [bK.rest])
  have hq7:=hr q.n7 (by simp [bK.rest])
  refine aB (adJ K Ki ⟨by unfold aF; omega,by unfold aF; omega⟩) ?_
  rintro _ fV ⟨rfl,q',kL,hq',K2⟩
  rw [ail] at hq' ⊢
  refine bz ?_
  cases hf:gW q t with
  | false=>
   rw [hf,if_neg (by decide)] at hC
   exact ite_true rfl (no 9 K2.mod (by decide) hC)
  | true=>
  rw [hf,if_pos rfl] at hC
  obtain ⟨rfl,rfl⟩:=hq' hf
  have Ao:t.bG.length=32:=by
   have:=xQ.1
   unfold fE Am at this
   simp only [Bool.and_eq_true,decide_eq_true_eq] at this
   exact this.1.2.1
  have rA:aS 1 ((iD q t).aE.length:Int) q.n0=true:=by
   show aS 1 ((t.aE.set _ _).length:Int) _=true
   rw [List.length_set]; exact c1
  refine ite_false rfl (aB (acI K2 Ki rA lt ht (by show t.bG.length≤1000; omega)) ?_)
  rintro er gu ⟨yp,sO⟩
  have yp:cP fV gu er (tY { q with n4:=gm q t } lt (iD q t) (oJ q t)):=yp
  rw [aim q lt t _ c1] at yp
  exact ⟨some ⟨b,0,none⟩,er,rfl,by rw [hC]; exact yp.from K2.mod.size,K2.mod.trans sO,fun h0=>⟨b,s',ys,zs,fp,fq,rfl,K2.frame sO⟩⟩
 refine jK fun j6 jl=>?_
 have no':∀ {w3:World},Mod [] w2 w3→(fE t && oI q)=false→j6 true w3:=fun m e=>by
  refine jl _ _ (ite_true rfl (no 2 (H.mod.trans m) (by decide) ?_))
  rw [e,if_neg (by decide)] at hC
  exact hC
 refine H.bD 0 rfl (aB (VG s t hs _ (hx.aG H.mod)) ?_)
 rintro _ w3 ⟨rfl,m3⟩
 have H3:=H.frame m3
 refine bz (H3.jH 1 rfl ?_)
 cases e1:fE t with
 | false=>exact ite_true rfl (no' m3 (by rw [e1]; rfl))
 | true=>
 refine ite_false rfl (aB (aif q _) ?_)
 rintro _ w4 ⟨rfl,m4⟩
 refine bz ?_
 cases e2:oI q with
 | false=>exact no' (m3.trans m4) (by rw [e1,e2]; rfl)
 | true=>exact jl _ _ (ite_false rfl (go' _ (m3.trans m4) (by rw [e1,e2]; rfl)))
end Go.Proofs.YtgjoehgomjgckaaGreatDoor
end
section
set_option linter.unusedVariables false
set_option linter.unusedSimpArgs false
namespace Go.Proofs.YtgjoehgomjgckaaGreatDoor
open Go Go.Ev
set_option maxRecDepth 20000
set_option linter.unusedVariables false
theorem ak.xG {w0 w:World} {S:List Nat} {L:List aD} (H:ak w0 S w L):ak w0 S w (L ++ [.cut ⟨none,0,0⟩ []]):=
 H.push (Mod.refl _ _) (.inl ⟨rfl,rfl⟩) (by simp [aD.cut,ah.row])
theorem JG {w0 w:World} {S:List Nat} {L:List aD} (H:ak w0 S w L):ak w0 S w (L ++ [.cut ⟨none,0,0⟩ [],.cut ⟨none,0,0⟩ []]):=by
 have H:=ak.xG (ak.xG H)
 rwa [List.append_assoc] at H
structure qh where
 id:Int
 gD:List B8
 ex:List B8
theorem tI:zc Pr bI=ew 0 0 ⟨none,0,0⟩ ⟨none,0,0⟩:=by kernel_rfl
def jF (w0:World) (S:List Nat) (w':World) (v:Value) (b:Nat) (T:aR) (R:qh) (C:Int):Prop:=
 ∃ (rc ri:Int) (y z:ah) (er:Value),v=.tuple ⟨[.agg ⟨ew rc ri y z⟩,er]⟩∧(C≠0→ak w0 S w' [aD.err er C])∧
  (C=0→er=.nilIface∧rc=0∧ri=R.id∧∃ q s ow sd ys zs fp fq,ak w0 S w' (cY b q T s ow sd ys zs fp fq ++ [.cut y R.gD,.cut z R.ex]))
theorem tJ {w:World} {e:Value} (h:fW w e 0):e=.nilIface:=by
 rcases h with ⟨h,_⟩ | ⟨b,s,rfl,_,hc⟩
 ·exact h
 ·exact absurd rfl hc
theorem jF.no {w0 w':World} {S:List Nat} {v:Value} {b:Nat} {T:aR} {R:qh} {C:Int} {rc ri:Int} {y z:ah} {er:Value} {L:List aD} (k:Nat) (hC:C≠0) (H:ak w0 S w' L) (hk:L[k]? = some (aD.err er C)) (hv:v=.tuple ⟨[.agg ⟨ew rc ri y z⟩,er]⟩):jF w0 S w' v b T R C:=
 ⟨rc,ri,y,z,er,hv,fun _=>H.only k hk,fun h=>absurd h hC⟩
def CB (q:bK) (t:aR):aR:={ t with bP:=sr t.bP q.n3 q.name }
def Tk (q:bK) (t:aR):qh:=⟨FA t.bP q.n3 q.name,[],[]⟩
theorem acV {w0 w:World} {S:List Nat} {b:Nat} {q:bK} {t:aR} {s:dZ} {ow:Int} {sd:ah} {ys zs:List ah} {fp fq:List Nat} (H:ak w0 S w (cY b q t s ow sd ys zs fp fq)) (hs:t.small) :
  Ok Pr K0 [.pointer (some ⟨b,0,none⟩)] w fun v w'=>jF w0 S w' v b (CB q t) (Tk q t) (oR t.bP q.n3 q.name):=by
 refine acs ?_
 unfold Ll
 rw [tI]
 have yB:=hs.ten
 refine H.nw fun p w1 H _=>?_
 have D:=H.drew
 have hR:gC _ s t:=vu (D.take 8)
 refine nc (D.ax 0 rfl (bF b 14 2) rfl (nc (D.an 0 rfl (bF b 0 3) rfl (nc (D.gp 0 rfl (bF b 0 11) rfl (aB (afE s.ten t.bP (by omega) q.n3 q.name _ hR.ten) ?_))))))
 rintro _ w2 ⟨y,er,rfl,K⟩
 have D:=D.join K
 refine ⟨_,rfl,_,rfl,_,rfl,rfl,nc (D.st 0 rfl (bF b 14 2) (by show 16<22; omega) rfl fun w3 D=>D.bN 8 rfl rfl fun w4 D=>D.cI 8 rfl ?_)⟩
 refine ⟨0,FA t.bP q.n3 q.name,⟨none,0,0⟩,⟨none,0,0⟩,er,rfl,fun _=>D.only 10 rfl,fun h0=>?_⟩
 have he:fW w4 er (oR t.bP q.n3 q.name):=D.ok 10 _ rfl
 rw [h0] at he
 refine ⟨tJ he,rfl,rfl,q,⟨s.sec,y,s.aE,s.key,s.gr⟩,ow,sd,ys,zs,fp,fq,?_⟩
 have D:=D.cR (L':=cY b q (CB q t) ⟨s.sec,y,s.aE,s.key,s.gr⟩ ow sd ys zs fp fq) [0,1,9,3,4,5,6,7] (by decide) rfl
 exact JG D
end Go.Proofs.YtgjoehgomjgckaaGreatDoor
end
section
set_option linter.unusedVariables false
set_option linter.unusedSimpArgs false
namespace Go.Ev
open Go Go.RowKit
theorem ak.stB {w0:World} {S:List Nat} {k b o:Nat} {t:TypeId} {K:World→Prop}:∀ (l:List Value) {i:Nat} {vs:List Value} {L:List aD} {w:World},ak w0 S w L→L[k]? = some (.av b vs t)→o+i+l.length≤vs.length→(∀ v∈l,ey v=true)→
  (∀ w',ak w0 S w' (L.set k (.av b (ov vs (o+i) l) t))→K w')→Ev.pL l (Addr.add ⟨b,0,none⟩ o) i w K
 | [],i,vs,L,w,H,hk,hl,h1,h=>by
  refine h w ?_
  rw [ZH,Bk hk]
  exact H
 | v :: r,i,vs,L,w,H,hk,hl,h1,h=>by
  rw [List.length_cons] at hl
  refine H.st k hk (bF b o i) (by omega) (h1 v (List.mem_cons_self ..)) fun w1 H1=>?_
  have bO:k<L.length:=(List.getElem?_eq_some_iff.1 hk).1
  refine ak.stB r H1 (by rw [List.getElem?_set,if_pos rfl,if_pos bO]) (by rw [List.length_set]; omega) (fun u hu=>h1 u (List.mem_cons_of_mem _ hu)) fun w' H'=>h w' ?_
  rw [List.set_set,show o+(i+1)=o+i+1 by omega,YP _ _ _ _ (by omega)] at H'
  exact H'
end Go.Ev
namespace Go.Proofs.YtgjoehgomjgckaaGreatDoor
open Go Go.Ev
set_option maxRecDepth 20000
set_option linter.unusedVariables false
def vN (q:bK) (lb:List B8) (t:aR):ct:=⟨(t.aE.length:Int)+1,q.n3,lb,0,0⟩
def qZ (q:bK) (lb:List B8) (t:aR):aR:={ t with aE:=t.aE ++ [vN q lb t] }
def CC (lb:List B8) (t:aR):Int:=if lb.length=jD 1 then (if t.aE.length=6 then 12 else 0) else 3
def JH (t:aR):qh:=⟨(t.aE.length:Int)+1,[],[]⟩
theorem pe0 (a b:Int) (c:List B8) (x:ah):(ct.mk a b c 0 0).cs x=lQ a b x 0 0:=by simp [ct.cs]
theorem akf (a b:Int) (x:ah):∀ v∈lQ a b x 0 0,ey v=true:=by
 intro u hu
 simp only [lQ,List.mem_cons,List.not_mem_nil,or_false] at hu
 rcases hu with rfl | rfl | rfl | rfl | rfl <;> rfl
theorem aR.aln (t:aR) (s:dZ):∀ v∈t.cs s,ey v=true:=by
 intro u hu
 simp only [aR.cs,k5,List.mem_cons,List.not_mem_nil,or_false] at hu
 rcases hu with rfl | rfl | rfl | rfl | rfl | rfl <;> rfl
theorem YS {w0 w:World} {S:List Nat} {b:Nat} {q:bK} {t:aR} {s:dZ} {ow:Int} {sd:ah} {L:List aD} (H:ak w0 S w L) (k:Nat) (hk:L[k]? = some (.av b (An q t s ow sd) wR)) {K:Int→ah→ah→ah→ah→ah→Prop} (h:K t.clock s.sec s.ten s.aE s.key s.gr):bD (Addr.add ⟨b,0,none⟩ 14) w K:=
 US (fun i v hv=>H.cell k hk (bF b 14 i) (by
  match i,hv with
  | 0,hv=>exact hv
  | 1,hv=>exact hv
  | 2,hv=>exact hv
  | 3,hv=>exact hv
  | 4,hv=>exact hv
  | 5,hv=>exact hv
  | i+6,hv=>simp at hv)) h
theorem alo {w0 w:World} {S:List Nat} {b:Nat} {q:bK} {t t':aR} {s s':dZ} {ow:Int} {sd:ah} {L:List aD} (H:ak w0 S w L) (k:Nat) (hk:L[k]? = some (.av b (An q t s ow sd) wR)) {K:World→Prop} (h:∀ w',ak w0 S w' (L.set k (.av b (An q t' s' ow sd) wR))→K w'):bE (Addr.add ⟨b,0,none⟩ 14) t'.clock s'.sec s'.ten s'.aE s'.key s'.gr w K:=by
 show pL (t'.cs s') _ 0 _ _
 exact ak.stB (t'.cs s') H hk (by show 14+0+6≤22; omega) (aR.aln t' s') h
theorem acW {w0 w:World} {S:List Nat} {b:Nat} {q:bK} {t:aR} {s:dZ} {ow:Int} {sd:ah} {ys zs:List ah} {fp fq:List Nat} (H:ak w0 S w (cY b q t s ow sd ys zs fp fq)) (hs:t.small) (h6:t.aE.length≤6) (lb:List B8) (hb:∀ {w'},Mod S w0 w'→Bytes w' q.gD lb) :
  Ok Pr K1 [.pointer (some ⟨b,0,none⟩)] w fun v w'=>jF w0 S w' v b (qZ q lb t) (JH t) (CC lb t):=by
 refine acu ?_
 unfold Lm
 rw [tI]
 have yC:=hs.aE
 have hC:CC lb t=if lb.length=jD 1 then (if t.aE.length=6 then 12 else 0) else 3:=rfl
 generalize CC lb t=C at *
 have hR:=vu H
 have rC:=hR.aE.len
 have jP:=(hb H.mod).len
 refine H.nw fun p w1 H _=>aB (Vs 1 w1) ?_
 rintro _ w2 ⟨rfl,m2⟩
 have H:=H.frame m2
 have no:∀ (c:Int),c≠0→C=c→ay Pr lP [.int .i64 c] w2 fun v w3=>bN ⟨p,0,none⟩ 0 0 ⟨none,0,0⟩ ⟨none,0,0⟩ w3 fun w4=>cI ⟨p,0,none⟩ w4 fun a b1 c1 d=>jF w0 S w4 (.tuple ⟨[.agg ⟨[.int .i64 a,.int .i64 b1,.slice c1.a c1.n c1.c,.slice d.a d.n d.c]⟩,v]⟩) b (qZ q lb t) (JH t) C:=by
  intro c hc e
  refine aB (AU c hc w2) ?_
  rintro er w3 ⟨h,m3⟩
  have H:=H.gH m3 h
  refine H.bN 8 rfl rfl fun w4 H=>H.cI 8 rfl ?_
  rw [e]
  exact jF.no 9 hc H rfl rfl
 refine ⟨_,rfl,_,rfl,_,rfl,_,rfl,rfl,nc (H.ax 0 rfl (bF b 0 12) rfl ?_)⟩
 by_cases e1:lb.length=jD 1
 case neg=>
  rw [if_neg e1] at hC
  exact ite_true (by rw [decide_eq_false (by omega)]; rfl) (no 3 (by decide) hC)
 rw [if_pos e1] at hC
 refine ite_false (by rw [decide_eq_true (by omega)]; rfl) (nc (H.ax 0 rfl (bF b 14 3) rfl ?_))
 by_cases e2:t.aE.length=6
 ·rw [if_pos e2] at hC
  exact ite_true (decide_eq_true (by show (s.aE.n:Int)=6; omega)) (no 12 (by decide) hC)
 rw [if_neg e2] at hC
 subst hC
 refine ite_false (decide_eq_false (by show ¬ (s.aE.n:Int)=6; omega)) (nc (H.ax 0 rfl (bF b 14 3) rfl ⟨by show aF ((s.aE.n:Int)+1); unfold aF; omega,?_⟩))
 show lt ((s.aE.n:Int)+1) _
 rw [← rC]
 obtain ⟨n,hn⟩:∃ n:Int,n=(t.aE.length:Int)+1:=⟨_,rfl⟩
 rw [← hn]
 have D:=H.drew
 refine rN ?_
 refine nc (D.ax 0 rfl (bF b 14 3) rfl (nc (D.an 0 rfl (bF b 0 3) rfl (nc (D.ax 0 rfl (bF b 0 12) rfl (D.ir fun p1 w7 E m7=>⟨D.kept m7 0 rfl (bF b 14 3) 1,?_⟩))))))
 have C4:ys.length=t.aE.length:=(E.box 5 rfl:bn gB _ ys t.aE).1
 have hx:Sl w7 ⟨some ⟨p1,0,none⟩,1,1⟩ 5 (lQ n q.n3 q.gD 0 0):=by
  have:=(E.av 9 rfl).sl 5 1 1 (by simp) (by omega)
  simpa [lQ] using this
 have JX:(s.aE.n+(ah.mk (some ⟨p1,0,none⟩) 1 1).n) * 56≤140737488355328:=by simp only []; omega
 have kU:s.aE.n+(ah.mk (some ⟨p1,0,none⟩) 1 1).n≤9223372036854775807:=by simp only []; omega
 refine E.app (x:=⟨some ⟨p1,0,none⟩,1,1⟩) (s:=s.aE) (vs:=bh ct.cs t.aE ys) 4 RD rfl hx (akf _ _ _) JX kU fun y w8 E hy=>?_
 refine nc (E.st 0 rfl (bF b 14 3) (by show 17<22; omega) rfl fun w9 E=>?_)
 have hP:vN q lb t=⟨n,q.n3,lb,0,0⟩:=by unfold vN; rw [hn]
 have ed:bh ct.cs t.aE ys ++ lQ n q.n3 q.gD 0 0=bh ct.cs (qZ q lb t).aE (ys ++ [q.gD]):=by
  show _=bh ct.cs (t.aE ++ [vN q lb t]) (ys ++ [q.gD])
  rw [Bx _ _ C4,zB,hP,pe0]
 rw [ed] at E
 have E:ak w0 S w9 [.av b (An q (qZ q lb t) ⟨s.sec,s.ten,y,s.key,s.gr⟩ ow sd) wR,.row aX 1 s.sec (bp t.bG),.row dh 3 s.ten (fQ t.bP),.row cB 6 s.gr (dK t.br),.row eu 5 y (bh ct.cs (qZ q lb t).aE (ys ++ [q.gD])),.box fp fun w=>bn gB w ys t.aE,.row aV 4 s.key (bh aP.cs t.keys zs),.box fq fun w=>bn fG w zs t.keys,.av p (ew 0 0 ⟨none,0,0⟩ ⟨none,0,0⟩) bI,.av p1 (lQ n q.n3 q.gD 0 0) eu]:=E
 have Uh:gC w9 ⟨s.sec,s.ten,y,s.key,s.gr⟩ (qZ q lb t):=⟨Own.bytes (E.qV 1 rfl),fX.of (E.fJ 2 rfl),⟨ys ++ [q.gD],E.fJ 4 rfl,by
  show bn yA w9 (ys ++ [q.gD]) (t.aE ++ [vN q lb t])
  rw [hP]
  exact bn.snoc (XJ (E.box 5 rfl)) (hb E.mod)⟩,⟨zs,E.fJ 6 rfl,XK (E.box 7 rfl)⟩,E.fJ 3 rfl⟩
 have hv:jD 1=1312:=rfl
 have yB:(qZ q lb t).small:={ hs with
  aE:=by show (t.aE ++ [_]).length≤1000; rw [List.length_append,List.length_singleton]; omega
  pk:=fun p hp=>by
   rcases List.mem_append.1 (show p∈t.aE ++ [vN q lb t] from hp) with h | h
   ·exact hs.pk p h
   ·rw [List.mem_singleton.1 h,hP]; show lb.length≤1000000; omega }
 refine nc (YS E 0 rfl (aB (NA ⟨s.sec,s.ten,y,s.key,s.gr⟩ (qZ q lb t) yB _ Uh) ?_))
 rintro _ cM ⟨s',wG,wH,yE,yF,rfl,K⟩
 have E:=E.join K
 refine iu (nc (alo E 0 rfl fun cZ E=>E.bN 8 rfl rfl fun fV E=>E.cI 8 rfl ?_))
 refine ⟨0,n,⟨none,0,0⟩,⟨none,0,0⟩,.nilIface,rfl,fun h=>absurd rfl h,fun _=>⟨rfl,rfl,hn,q,s',ow,sd,wG,wH,yE,yF,?_⟩⟩
 have E:=E.cR (L':=cY b q (qZ q lb t) s' ow sd wG wH yE yF) [0,10,11,12,13,14,15,16] (by decide) rfl
 exact JG E
end Go.Proofs.YtgjoehgomjgckaaGreatDoor
end
section
set_option linter.unusedVariables false
set_option linter.unusedSimpArgs false
namespace Go.Proofs.YtgjoehgomjgckaaGreatDoor
open Go Go.Ev
set_option maxRecDepth 20000
set_option linter.unusedVariables false
def cK (q:bK) (aq:List B8) (t:aR):aP:=qY ((t.keys.length:Int)+1) q.n3 q.n6 aq
def CD (q:bK) (aq:List B8) (t:aR):Int:=
 if 1≤q.n6∧q.n6≤3 then (if aq.length=64 then (if t.keys.length=6 then 12 else (if mF ((t.keys.length:Int)+1) q.n3 q.n6 aq=0 then ju (cK q aq t) 1 nq else mF ((t.keys.length:Int)+1) q.n3 q.n6 aq)) else 3) else 2
def su (q:bK) (aq:List B8) (t:aR):aR:={ t with keys:=t.keys ++ [cK q aq t] }
def FB (q:bK) (aq:List B8) (t:aR):qh:=⟨(t.keys.length:Int)+1,sU (cK q aq t) 1 nq,[]⟩
theorem akg (id ten set:Int) (aq:List B8):(qY id ten set aq).aH.length≤1:=by
 unfold qY
 split
 ·exact Nat.le_refl 1
 ·exact Nat.zero_le 1
theorem akh (k:aP) (x:ah):∀ v∈dH k.id k.ten k.set x,ey v=true:=aP.l7 k x
theorem acX {w0 w:World} {S:List Nat} {b:Nat} {q:bK} {t:aR} {s:dZ} {ow:Int} {sd:ah} {ys zs:List ah} {fp fq:List Nat} (H:ak w0 S w (cY b q t s ow sd ys zs fp fq)) (hs:t.small) (h6:t.keys.length≤6) (aq:List B8) (dU:aq.length≤1000000) (gY:∀ {w'},Mod S w0 w'→Bytes w' sd aq) :
  Ok Pr K4 [.pointer (some ⟨b,0,none⟩)] w fun v w'=>jF w0 S w' v b (su q aq t) (FB q aq t) (CD q aq t):=by
 refine acv ?_
 unfold Lo
 rw [tI,pM]
 have hC:CD q aq t=if 1≤q.n6∧q.n6≤3 then (if aq.length=64 then (if t.keys.length=6 then 12 else (if mF ((t.keys.length:Int)+1) q.n3 q.n6 aq=0 then ju (cK q aq t) 1 nq else mF ((t.keys.length:Int)+1) q.n3 q.n6 aq)) else 3) else 2:=rfl
 generalize CD q aq t=C at *
 have hR:=vu H
 have uI:=hR.key.len
 have Kb:=(gY H.mod).len
 refine H.nw fun p w1 H _=>?_
 have H:ak w0 S w1 (cY b q t s ow sd ys zs fp fq ++ [.av p (ew 0 0 ⟨none,0,0⟩ ⟨none,0,0⟩) bI]):=H
 have fin:∀ {w3:World} {L:List aD} (k:Nat) (er:Value),ak w0 S w3 ((cY b q t s ow sd ys zs fp fq ++ [.av p (ew 0 0 ⟨none,0,0⟩ ⟨none,0,0⟩) bI]) ++ L)→C≠0→((cY b q t s ow sd ys zs fp fq ++ [.av p (ew 0 0 ⟨none,0,0⟩ ⟨none,0,0⟩) bI]) ++ L)[9+k]? = some (aD.err er C)→
   bN ⟨p,0,none⟩ 0 0 ⟨none,0,0⟩ ⟨none,0,0⟩ w3 fun w4=>cI ⟨p,0,none⟩ w4 fun a b1 c1 d=>jF w0 S w4 (.tuple ⟨[.agg ⟨[.int .i64 a,.int .i64 b1,.slice c1.a c1.n c1.c,.slice d.a d.n d.c]⟩,er]⟩) b (su q aq t) (FB q aq t) C:=by
  intro w3 L k er H hc hk
  refine H.bN 8 rfl rfl fun w4 H=>H.cI 8 rfl ?_
  exact jF.no (9+k) hc H (by rw [List.getElem?_set,if_neg (by omega)]; exact hk) rfl
 have no:∀ {w2:World} (c:Int),ak w0 S w2 (cY b q t s ow sd ys zs fp fq ++ [.av p (ew 0 0 ⟨none,0,0⟩ ⟨none,0,0⟩) bI])→c≠0→C=c→ay Pr lP [.int .i64 c] w2 fun v w3=>bN ⟨p,0,none⟩ 0 0 ⟨none,0,0⟩ ⟨none,0,0⟩ w3 fun w4=>cI ⟨p,0,none⟩ w4 fun a b1 c1 d=>jF w0 S w4 (.tuple ⟨[.agg ⟨[.int .i64 a,.int .i64 b1,.slice c1.a c1.n c1.c,.slice d.a d.n d.c]⟩,v]⟩) b (su q aq t) (FB q aq t) C:=by
  intro w2 c H hc e
  refine aB (AU c hc w2) ?_
  rintro er w3 ⟨h,m3⟩
  exact fin 0 er (H.gH m3 h) (by rw [e]; exact hc) (by rw [e]; rfl)
 refine jJ fun go bY=>?_
 have go':(1≤q.n6∧q.n6≤3)→aq.length=64→t.keys.length≠6→go w1:=by
  intro c1 c2 c3
  rw [if_pos c1,if_pos c2,if_neg c3] at hC
  refine bY w1 (nc (H.ax 0 rfl (bF b 14 4) rfl ⟨by show aF ((s.key.n:Int)+1); unfold aF; omega,?_⟩))
  show lt ((s.key.n:Int)+1) _
  rw [← uI]
  obtain ⟨n,hn⟩:∃ n:Int,n=(t.keys.length:Int)+1:=⟨_,rfl⟩
  have Kl:cK q aq t=qY n q.n3 q.n6 aq:=by unfold cK; rw [hn]
  rw [← hn] at hC ⊢
  refine rN (uZ fun go2 oP=>?_)
  have D:=H.drew
  have bad:∀ (kp:Nat) (er:Value) (y:ah) (w3:World),mF n q.n3 q.n6 aq≠0→ak w0 S w3 ((cY b q t s ow sd ys zs fp fq ++ [.av p (ew 0 0 ⟨none,0,0⟩ ⟨none,0,0⟩) bI]) ++ [.av kp (dH (cK q aq t).id (cK q aq t).ten (cK q aq t).set y) aV,aD.err er (mF n q.n3 q.n6 aq)])→go2 ⟨kp,0,none⟩ er w3:=by
   intro kp er y w3 c4 K
   have he:fW w3 er (mF n q.n3 q.n6 aq):=K.ok 10 _ rfl
   rw [if_neg c4] at hC
   refine oP _ _ _ (he.isNil ?_)
   exact ite_true (by rw [decide_eq_false c4]; rfl) (fin 1 er K (by rw [hC]; exact c4) (by rw [hC]; rfl))
  have behind:∀ (kp:Nat) (er:Value) (y:ah) (f:List Nat) (w3:World),mF n q.n3 q.n6 aq=0→er=.nilIface→ak w0 S w3 ((cY b q t s ow sd ys zs fp fq ++ [.av p (ew 0 0 ⟨none,0,0⟩ ⟨none,0,0⟩) bI]) ++ [.av kp (dH (cK q aq t).id (cK q aq t).ten (cK q aq t).set y) aV,.box f fun w=>jZ w y (cK q aq t).aH])→go2 ⟨kp,0,none⟩ er w3:=by
   intro kp er y f w3 c4 qU K
   have he:fW w3 er 0:=.inl ⟨qU,rfl⟩
   refine oP _ _ _ (he.isNil ?_)
   rw [if_pos c4] at hC
   refine ite_false rfl ?_
   have K2:=K.drew
   refine nc (K2.ax 0 rfl (bF b 14 4) rfl (K2.bA 9 rfl (K2.ir fun p1 w5 E m5=>⟨K2.kept m5 0 rfl (bF b 14 4) 1,?_⟩)))
   have jS:zs.length=t.keys.length:=(E.box 7 rfl:bn fG _ zs t.keys).1
   have hx:Sl w5 ⟨some ⟨p1,0,none⟩,1,1⟩ 4 (dH (cK q aq t).id (cK q aq t).ten (cK q aq t).set y):=by
    have:=(E.av 11 rfl).sl 4 1 1 (by simp) (by omega)
    simpa [dH] using this
   have JX:(s.key.n+(ah.mk (some ⟨p1,0,none⟩) 1 1).n) * 48≤140737488355328:=by simp only []; omega
   have kU:s.key.n+(ah.mk (some ⟨p1,0,none⟩) 1 1).n≤9223372036854775807:=by simp only []; omega
   refine E.app (x:=⟨some ⟨p1,0,none⟩,1,1⟩) (s:=s.key) (vs:=bh aP.cs t.keys zs) 6 RE rfl hx (akh _ _) JX kU fun u w6 E hu=>?_
   refine nc (E.st 0 rfl (bF b 14 4) (by show 18<22; omega) rfl fun w7 E=>?_)
   have ed:bh aP.cs t.keys zs ++ dH (cK q aq t).id (cK q aq t).ten (cK q aq t).set y=bh aP.cs (su q aq t).keys (zs ++ [y]):=by
    show _=bh aP.cs (t.keys ++ [cK q aq t]) (zs ++ [y])
    rw [Bx _ _ jS,zB]; rfl
   rw [ed] at E
   have E:ak w0 S w7 [.av b (An q (su q aq t) ⟨s.sec,s.ten,s.aE,u,s.gr⟩ ow sd) wR,.row aX 1 s.sec (bp t.bG),.row dh 3 s.ten (fQ t.bP),.row cB 6 s.gr (dK t.br),.row eu 5 s.aE (bh ct.cs t.aE ys),.box fp fun w=>bn gB w ys t.aE,.row aV 4 u (bh aP.cs (su q aq t).keys (zs ++ [y])),.box fq fun w=>bn fG w zs t.keys,.av p (ew 0 0 ⟨none,0,0⟩ ⟨none,0,0⟩) bI,.av kp (dH (cK q aq t).id (cK q aq t).ten (cK q aq t).set y) aV,.box f fun w=>jZ w y (cK q aq t).aH,.av p1 (dH (cK q aq t).id (cK q aq t).ten (cK q aq t).set y) aV]:=E
   have hv:jZ w7 y (cK q aq t).aH:=E.box 10 rfl
   have Ka:(cK q aq t).aH.length≤1:=akg _ _ _ _
   refine E.bA 9 rfl (aB (U7 (cK q aq t) y 1 (by omega) w7 hv.aH) ?_)
   rintro _ w8 ⟨z,e2,rfl,G⟩
   have E:=E.join G
   refine ⟨_,rfl,_,rfl,rfl,E.bN 8 rfl rfl fun w9 E=>E.cI 8 rfl ?_⟩
   refine ⟨0,n,z,⟨none,0,0⟩,e2,rfl,fun _=>?_,fun h0=>?_⟩
   ·rw [hC]; exact E.only 13 rfl
   ·rw [hC] at h0
    have yz:fW w9 e2 (ju (cK q aq t) 1 nq):=E.ok 13 _ rfl
    rw [h0] at yz
    refine ⟨tJ yz,rfl,hn,q,⟨s.sec,s.ten,s.aE,u,s.gr⟩,ow,sd,ys,zs ++ [y],fp,fq ++ f,?_⟩
    have E:=E.merge 7 10 (t:=.box (fq ++ f) fun w=>bn fG w (zs ++ [y]) (su q aq t).keys) rfl rfl (by omega) (fun h1 h2=>?_) (fun b hb=>List.mem_append.1 hb)
    ·have E:=E.EJ 12 rfl
     have E:=ak.xG E
     exact E.cR (L':=cY b q (su q aq t) ⟨s.sec,s.ten,s.aE,u,s.gr⟩ ow sd ys (zs ++ [y]) fp (fq ++ f) ++ [.cut z (sU (cK q aq t) 1 nq),.cut ⟨none,0,0⟩ []]) [0,1,2,3,4,5,6,7,12,14] (by decide) rfl
    ·refine ⟨fun b hb=>?_,fun w2 h3=>?_⟩
     ·rcases List.mem_append.1 hb with h | h
      ·exact h1.1 b h
      ·exact h2.1 b h
     ·exact bn.snoc (h1.2 w2 fun b hb=>h3 b (List.mem_append_left _ hb)) (h2.2 w2 fun b hb=>h3 b (List.mem_append_right _ hb))
  refine nc (D.an 0 rfl (bF b 0 3) rfl (nc (D.an 0 rfl (bF b 0 6) rfl (nc (D.ax 0 rfl (au b 21) rfl ⟨?_,?_⟩)))))
  ·refine aB (VY n q.n3 q.n6 sd aq dU _ (gY D.mod)) ?_
   rintro _ cM ⟨y,er,rfl,hy,lN⟩
   rw [← Kl] at hy
   have eK:(qY n q.n3 q.n6 aq)=cK q aq t:=Kl.symm
   rw [eK]
   by_cases c4:mF n q.n3 q.n6 aq=0
   ·obtain ⟨f,D2⟩:=D.iy hy
    have Uj:er=.nilIface:=tJ (c4 ▸ lN.1)
    refine ⟨_,rfl,oA ⟨rfl,D2.ir fun p2 cZ E rB=>⟨D2.kept rB 0 rfl (au b 21) 1,D2.kept rB 0 rfl (bF b 0 6) 1,D2.kept rB 0 rfl (bF b 0 3) 1,E.cF 10 rfl rfl fun fV E=>behind p2 er y f fV c4 Uj ?_⟩⟩⟩
    exact E.cR [0,1,2,3,4,5,6,7,8,10,9] (by decide) rfl
   ·have D2:=D.gH hy.mod lN
    refine ⟨_,rfl,oA ⟨rfl,D2.ir fun p2 cZ E rB=>⟨D2.kept rB 0 rfl (au b 21) 1,D2.kept rB 0 rfl (bF b 0 6) 1,D2.kept rB 0 rfl (bF b 0 3) 1,E.cF 10 rfl rfl fun fV E=>bad p2 er y fV c4 ?_⟩⟩⟩
    exact E.cR [0,1,2,3,4,5,6,7,8,10,9] (by decide) rfl
  ·refine D.ir fun p2 fO E js=>⟨D.kept js 0 rfl (au b 21) 1,D.kept js 0 rfl (bF b 0 6) 1,D.kept js 0 rfl (bF b 0 3) 1,aB (VY n q.n3 q.n6 sd aq dU _ (gY E.mod)) ?_⟩
   rintro _ cM ⟨y,er,rfl,hy,lN⟩
   rw [← Kl] at hy
   have eK:(qY n q.n3 q.n6 aq)=cK q aq t:=Kl.symm
   rw [eK]
   by_cases c4:mF n q.n3 q.n6 aq=0
   ·obtain ⟨f,D2⟩:=E.iy hy
    have Uj:er=.nilIface:=tJ (c4 ▸ lN.1)
    exact ⟨_,rfl,oA ⟨rfl,D2.cF 9 rfl rfl fun fV E=>behind p2 er y f fV c4 Uj E⟩⟩
   ·have D2:=E.gH hy.mod lN
    exact ⟨_,rfl,oA ⟨rfl,D2.cF 9 rfl rfl fun fV E=>bad p2 er y fV c4 E⟩⟩
 refine jK fun C9 CE=>?_
 have rest:∀ (r:Bool),(r=true→¬ (1≤q.n6∧q.n6≤3))→(r=false→1≤q.n6∧q.n6≤3)→C9 r w1:=by
  intro r h1 h2
  refine CE _ _ ?_
  cases r with
  | true=>exact ite_true rfl (no 2 H (by decide) (by rw [hC,if_neg (h1 rfl)]))
  | false=>
   have c1:=h2 rfl
   rw [if_pos c1] at hC
   refine ite_false rfl (nc (H.ax 0 rfl (au b 21) rfl ?_))
   by_cases c2:aq.length=64
   case neg=>
    rw [if_neg c2] at hC
    exact ite_true (by rw [decide_eq_false (by omega)]; rfl) (no 3 H (by decide) hC)
   rw [if_pos c2] at hC
   refine ite_false (by rw [decide_eq_true (by omega)]; rfl) (nc (H.ax 0 rfl (bF b 14 4) rfl ?_))
   by_cases c3:t.keys.length=6
   ·rw [if_pos c3] at hC
    exact ite_true (decide_eq_true (by show (s.key.n:Int)=6; omega)) (no 12 H (by decide) hC)
   ·exact ite_false (decide_eq_false (by show ¬ (s.key.n:Int)=6; omega)) (go' c1 c2 c3)
 refine nc (H.an 0 rfl (bF b 0 6) rfl ?_)
 show aA (decide (q.n6<1)) _ _
 by_cases c1:q.n6<1
 ·exact ite_true (decide_eq_true c1) (rest true (fun _=>by omega) (fun h=>by cases h))
 ·refine ite_false (decide_eq_false c1) (nc (H.an 0 rfl (bF b 0 6) rfl ?_))
  show C9 (decide (3<q.n6)) w1
  by_cases c2:3<q.n6
  ·rw [decide_eq_true c2]; exact rest true (fun _=>by omega) (fun h=>by cases h)
  ·rw [decide_eq_false c2]; exact rest false (fun h=>by cases h) (fun _=>by omega)
end Go.Proofs.YtgjoehgomjgckaaGreatDoor
end
section
set_option linter.unusedVariables false
set_option linter.unusedSimpArgs false
namespace Go.Proofs.YtgjoehgomjgckaaGreatDoor
open Go Go.Ev
set_option maxRecDepth 20000
set_option linter.unusedVariables false
def cA (q:bK) (t:aR):aP:=t.keys.getD (q.n4 - 1).toNat kz
def CF (q:bK) (aq:List B8) (t:aR):Int:=
 if q.n2=4 then (if oQ (cA q t) aq.length=0 then ju (iV (cA q t) aq) ((iV (cA q t) aq).aH.length:Int) nq else oQ (cA q t) aq.length) else vL (cA q t) q.n2 q.n5 q.o6 t.clock
def CG (q:bK) (aq:List B8) (t:aR):aP:=if q.n2=4 then iV (cA q t) aq else p7 (cA q t) q.n2 q.n5 q.o6 t.clock
def Ap (q:bK) (aq:List B8) (t:aR):aR:={ t with keys:=t.keys.set (q.n4 - 1).toNat (CG q aq t) }
def FC (q:bK) (aq:List B8) (t:aR):qh:=if q.n2=4 then ⟨((iV (cA q t) aq).aH.length:Int),sU (iV (cA q t) aq) ((iV (cA q t) aq).aH.length:Int) nq,[]⟩ else ⟨0,[],[]⟩
theorem Tl {A B:Prop} (h:B):fm .nilIface fun z=>aA (!z) A B:=h
theorem aki (k:aP) (aq:List B8):(iV k aq).aH.length≤k.aH.length+1:=by
 unfold iV
 split
 ·simp
 ·exact Nat.zero_le _
theorem acY {w0 w:World} {S:List Nat} {b:Nat} {q:bK} {t:aR} {s:dZ} {ow:Int} {sd:ah} {ys zs:List ah} {fp fq:List Nat} (H:ak w0 S w (cY b q t s ow sd ys zs fp fq)) (hs:t.small) (hk:aS 1 (t.keys.length:Int) q.n4=true) (aq:List B8) (dU:aq.length≤1000000) (gY:∀ {w'},Mod S w0 w'→Bytes w' sd aq) :
  Ok Pr K5 [.pointer (some ⟨b,0,none⟩)] w fun v w'=>jF w0 S w' v b (Ap q aq t) (FC q aq t) (CF q aq t):=by
 refine acw ?_
 unfold Lp
 rw [tI,pM]
 have hC:CF q aq t=if q.n2=4 then (if oQ (cA q t) aq.length=0 then ju (iV (cA q t) aq) ((iV (cA q t) aq).aH.length:Int) nq else oQ (cA q t) aq.length) else vL (cA q t) q.n2 q.n5 q.o6 t.clock:=rfl
 have hK:CG q aq t=if q.n2=4 then iV (cA q t) aq else p7 (cA q t) q.n2 q.n5 q.o6 t.clock:=rfl
 have ko:FC q aq t=if q.n2=4 then ⟨((iV (cA q t) aq).aH.length:Int),sU (iV (cA q t) aq) ((iV (cA q t) aq).aH.length:Int) nq,[]⟩ else ⟨0,[],[]⟩:=rfl
 obtain ⟨i,ei,en,hi⟩:=xh hk
 have hT:Ap q aq t={ t with keys:=t.keys.set i (CG q aq t) }:=by unfold Ap; rw [en]
 have yG:cA q t=t.keys.getD i kz:=by unfold cA; rw [en]
 have bO:=vo hs hi
 rw [← yG] at bO
 have wE:=hs.key
 generalize CF q aq t=C at *
 generalize CG q aq t=k' at *
 generalize FC q aq t=R at *
 generalize Ap q aq t=T at *
 refine H.nw fun p w1 H _=>?_
 have D:=H.drew
 obtain ⟨mT,dw,x,dA,yH⟩:=RH (M:=[_]) D hi
 refine nc (D.ax 0 rfl (bF b 14 4) rfl (nc (D.an 0 rfl (bF b 0 4) rfl ⟨by unfold aF; omega,?_⟩)))
 show aQ s.key.a (q.n4 - 1) s.key.n _
 rw [ei]
 rw [← yG] at mT yH
 refine ⟨dw,D.ir fun p1 w2 E m2=>qF (fun j v h=>m2.pP (yH j v h)) (E.nw fun p2 w3 E _=>E.cF 10 rfl rfl fun w4 E=>?_)⟩
 have E:ak w0 S w4 (cY b q t s ow sd ys zs fp fq ++ [.av p (ew 0 0 ⟨none,0,0⟩ ⟨none,0,0⟩) bI,.av p1 (ew 0 0 ⟨none,0,0⟩ ⟨none,0,0⟩) bI,.av p2 (dH (cA q t).id (cA q t).ten (cA q t).set x) aV]):=E
 have cell:∀ {w':World} {M:List aD},ak w0 S w' (cY b q t s ow sd ys zs fp fq ++ M)→∀ (j:Nat) (v:Value),((cA q t).cs x)[j]? = some v→w'.cell? (Addr.add (Addr.add (base s.key.a) (Int.toNat (i:Int) * 4)) j)=some v:=fun G j v hv=>by
  rw [Int.toNat_natCast]
  exact (G.fJ 6 rfl).vw aP.cz mT dA hv
 have bu:∀ {w':World} {M:List aD},ak w0 S w' (cY b q t s ow sd ys zs fp fq ++ M)→gh w' x (cA q t).aH:=fun G=>(R3 G dA mT).aH
 refine jK fun go bY=>?_
 have bad:∀ (er:Value) (w5:World) (L:List aD),C≠0→ak w0 S w5 (cY b q t s ow sd ys zs fp fq ++ ([.av p (ew 0 0 ⟨none,0,0⟩ ⟨none,0,0⟩) bI,aD.err er C] ++ L))→go er w5:=by
  intro er w5 L hc K
  have he:fW w5 er C:=K.ok 9 _ rfl
  refine bY _ _ (he.isNil (ite_true (by rw [decide_eq_false hc]; rfl) (K.bN 8 rfl rfl fun w6 K=>K.cI 8 rfl ?_)))
  exact jF.no 9 hc K rfl rfl
 have aJ:∀ (ri:Int) (y u:ah) (f:List Nat) (l:List B8) (w5:World),C=0→ak w0 S w5 (cY b q t s ow sd ys zs fp fq ++ [.av p (ew 0 0 ⟨none,0,0⟩ ⟨none,0,0⟩) bI,.av p1 (ew 0 ri y ⟨none,0,0⟩) bI,.av p2 (dH k'.id k'.ten k'.set u) aV,.box f fun w=>jZ w u k'.aH,.cut y l])→R=⟨ri,l,[]⟩→go .nilIface w5:=by
  intro ri y u f l w5 hc K hr
  refine bY _ _ ?_
  refine Tl (K.bA 10 rfl ?_)
  have jS:zs.length=t.keys.length:=(K.box 7 rfl:bn fG _ zs t.keys).1
  show pL (k'.cs u) _ 0 _ _
  refine K.putAt 6 rfl aP.cz jS hi k' u (aP.l7 k' u) fun w7 K=>K.cI 9 rfl (K.bN 8 rfl rfl fun w8 K=>K.cI 8 rfl ?_)
  refine ⟨0,ri,y,⟨none,0,0⟩,.nilIface,rfl,fun h=>absurd hc h,fun _=>⟨rfl,rfl,by rw [hr],q,s,ow,sd,ys,zs.set i u,fp,fq ++ f,?_⟩⟩
  rw [hT,hr]
  have K:=K.merge 7 11 (t:=.box (fq ++ f) fun w=>bn fG w (zs.set i u) (t.keys.set i k')) rfl rfl (by omega) (fun h1 h2=>?_) (fun b hb=>List.mem_append.1 hb)
  ·have K:=ak.xG K
   exact K.cR (L':=cY b q { t with keys:=t.keys.set i k' } s ow sd ys (zs.set i u) fp (fq ++ f) ++ [.cut y l,.cut ⟨none,0,0⟩ []]) [0,1,2,3,4,5,6,7,12,13] (by decide) rfl
  ·refine ⟨fun b hb=>?_,fun w2 h3=>?_⟩
   ·rcases List.mem_append.1 hb with h | h
    ·exact h1.1 b h
    ·exact h2.1 b h
   ·exact bn.put (h1.2 w2 fun b hb=>h3 b (List.mem_append_left _ hb)) (h2.2 w2 fun b hb=>h3 b (List.mem_append_right _ hb))
 refine nc (E.an 0 rfl (bF b 0 2) rfl ?_)
 show aA (decide (q.n2=4)) _ _
 have E2:=E.drew
 by_cases c4:q.n2=4
 ·rw [if_pos c4] at hC hK ko
  refine ite_true (decide_eq_true c4) (qF (cell E2) (nc (E2.ax 0 rfl (au b 21) rfl (aB (afD (cA q t) x sd aq (by omega) _ (bu E2) (gY E2.mod)) ?_))))
  rintro _ w9 ⟨u,er,rfl,hu,lN⟩
  by_cases e1:oQ (cA q t) aq.length=0
  case neg=>
   rw [if_neg e1] at hC
   have G:=E2.gH hu.mod lN
   refine ⟨_,rfl,oA ⟨rfl,G.cF 10 rfl rfl fun cM G=>?_⟩⟩
   have he:fW cM er (oQ (cA q t) aq.length):=G.ok 11 _ rfl
   refine he.isNil (ite_true (by rw [decide_eq_false e1]; rfl) (G.cI 9 rfl (G.bN 8 rfl rfl fun cZ G=>G.cI 8 rfl ?_)))
   rw [hC]
   exact jF.no 11 e1 G rfl rfl
  rw [if_pos e1] at hC
  have qU:er=.nilIface:=tJ (e1 ▸ lN.1)
  subst qU
  obtain ⟨f,G⟩:=E2.iy hu
  rw [← hK] at hC ko G ⊢
  refine ⟨_,rfl,oA ⟨rfl,G.cF 10 rfl rfl fun cM G=>Tl ?_⟩⟩
  have hvu:jZ cM u k'.aH:=G.box 11 rfl
  have nY:=hvu.aH.len
  have arQ:k'.aH.length≤1001:=by rw [hK]; have:=aki (cA q t) aq; omega
  refine G.ax 10 rfl (au p2 3) rfl (G.st 9 rfl (au p1 1) (by show 1<4; omega) rfl fun fV G=>G.bA 10 rfl (G.an 9 rfl (au p1 1) rfl ?_))
  refine aB (U7 k' u (u.n:Int) (by omega) fV (jZ.aH (G.box 11 rfl))) ?_
  rw [← nY] at *
  rintro _ fO ⟨y,e2,rfl,Y⟩
  have G:=G.join Y
  refine ⟨_,rfl,_,rfl,rfl,G.st 9 rfl (au p1 2) (by show 2<4; omega) rfl fun gu G=>?_⟩
  by_cases e3:C=0
  ·have yz:fW gu e2 (ju k' (k'.aH.length:Int) nq):=G.ok 13 _ rfl
   rw [← hC,e3] at yz
   have qk:=tJ yz
   subst qk
   have G:=G.EJ 12 rfl
   exact aJ (k'.aH.length:Int) y u f (sU k' (k'.aH.length:Int) nq) gu e3 (G.cR [0,1,2,3,4,5,6,7,8,9,10,11,12] (by decide) rfl) ko
  ·refine bad e2 gu [] e3 (G.cR [0,1,2,3,4,5,6,7,8,13] (by decide) ?_)
   rw [hC]; rfl
 ·rw [if_neg c4] at hC hK ko
  refine ite_false (decide_eq_false c4) (qF (cell E2) (nc (E2.an 0 rfl (bF b 0 2) rfl (nc (E2.an 0 rfl (bF b 0 5) rfl (nc (E2.an 0 rfl (bF b 0 10) rfl (nc (E2.an 0 rfl (bF b 14 0) rfl (aB (ahI (cA q t) x q.n2 q.n5 q.o6 t.clock (by omega) _ (bu E2)) ?_))))))))))
  rintro _ w9 ⟨u,er,rfl,hu,lN⟩
  rw [← hC] at lN
  rw [← hK] at hu ⊢
  by_cases e1:C=0
  ·have qU:er=.nilIface:=tJ (e1 ▸ lN.1)
   subst qU
   obtain ⟨f,G⟩:=E2.iy hu
   refine ⟨_,rfl,oA ⟨rfl,G.cF 10 rfl rfl fun cM G=>?_⟩⟩
   exact aJ 0 ⟨none,0,0⟩ u f [] cM e1 (ak.xG G) ko
  ·have G:=E2.gH hu.mod lN
   refine ⟨_,rfl,oA ⟨rfl,G.cF 10 rfl rfl fun cM G=>?_⟩⟩
   exact bad er cM [] e1 (G.cR [0,1,2,3,4,5,6,7,8,11] (by decide) rfl)
end Go.Proofs.YtgjoehgomjgckaaGreatDoor
end
section
set_option linter.unusedVariables false
set_option linter.unusedSimpArgs false
namespace Go.Proofs.YtgjoehgomjgckaaGreatDoor
open Go Go.Ev
set_option maxRecDepth 20000
set_option linter.unusedVariables false
def nQ (l s:List B8) (i:Nat):List B8:=(List.range s.length).map fun j=>if j<i then s.getD j 0 ^^^ l.getD j 0 else s.getD j 0
theorem zx (l s:List B8) (i:Nat):(nQ l s i).length=s.length:=by simp [nQ]
theorem IB (l s:List B8) (i j:Nat) (hj:j<s.length):(nQ l s i)[j]? = some (if j<i then s.getD j 0 ^^^ l.getD j 0 else s.getD j 0):=by
 unfold nQ
 rw [List.getElem?_map,List.getElem?_range hj]; rfl
theorem W0 (l s:List B8):nQ l s 0=s:=by
 refine List.ext_getElem? fun j=>?_
 rcases Nat.lt_or_ge j s.length with h | h
 ·rw [IB l s 0 j h,if_neg (by omega),List.getD_eq_getElem?_getD,List.getElem?_eq_getElem h]; rfl
 ·rw [List.getElem?_eq_none (by rw [zx]; exact h),List.getElem?_eq_none h]
theorem ajb (l s:List B8) (i:Nat) (hi:i<s.length):(nQ l s i).set i (s.getD i 0 ^^^ l.getD i 0)=nQ l s (i+1):=by
 refine List.ext_getElem? fun j=>?_
 rw [List.getElem?_set]
 rcases Nat.lt_or_ge j s.length with h | h
 ·rw [IB l s (i+1) j h]
  by_cases e:i=j
  ·subst e
   rw [if_pos rfl,if_pos (by rw [zx]; exact hi),if_pos (by omega)]
  ·rw [if_neg e,IB l s i j h]
   by_cases h2:j<i
   ·rw [if_pos h2,if_pos (by omega)]
   ·rw [if_neg h2,if_neg (by omega)]
 ·rw [if_neg (by omega),List.getElem?_eq_none (by rw [zx]; exact h),List.getElem?_eq_none (by rw [zx]; exact h)]
theorem amk {k:aP} {bu:Int} {c:List B8} (h:oC k bu c=0):(oL k bu c).length=32:=by
 unfold oL
 rw [if_pos h]
 unfold oC at h
 split at h
 ·unfold uG
  rw [if_pos h]
  split
  ·have hg:(qv k.set (wB k bu j3) c).length=64:=by unfold qv; exact tw 72 6 _ 64 (by omega)
   rw [List.length_take,hg]; rfl
  ·exact tw 136 31 _ 32 (by omega)
 ·omega
theorem alp {k:aP} {m:List B8} (h:kX k m=0):(sV k m).length=32:=by
 unfold sV
 rw [if_pos h]
 unfold kX at h
 split at h
 ·cases hc:kD k with
  | none=>rw [hc] at h; cases h
  | some v=>
   rw [hc] at h
   unfold yw
   rw [if_pos (show o7 k.set (jt k.set ((some v).getD vz).aq) m=0 from h),List.length_take,YE]; rfl
 ·cases h
def Gu (q:bK) (lb aq:List B8) (t:aR):Int:=
 if q.n2=9 then kX (cA q t) aq else (if oC (cA q t) q.n5 lb=0 then (if q.n2=10 then 0 else kX (cA q t) aq) else oC (cA q t) q.n5 lb)
def Gv (q:bK) (lb aq:List B8) (t:aR):qh:=
 if q.n2=9 then ⟨wC (cA q t) aq,jQ (cA q t) aq,sV (cA q t) aq⟩ else if q.n2=10 then ⟨0,oL (cA q t) q.n5 lb,[]⟩
 else ⟨wC (cA q t) aq,jQ (cA q t) aq,nQ (oL (cA q t) q.n5 lb) (sV (cA q t) aq) 32⟩
theorem _root_.Go.Ev.ak.anV {w0 w:World} {S:List Nat} {L:List aD} (H:ak w0 S w L) (k:Nat) {y:ah} {l:List B8} (hk:L[k]? = some (.cut y l)) {i:Nat} (hi:i<l.length) (x:B8) {K:World→Prop}
  (h:∀ w',ak w0 S w' (L.set k (.cut y (l.set i x)))→K w'):Ev.st (Addr.add (base y.a) (Int.toNat (i:Int) * 1)) (.int .u8 (x.toNat:Int)) w K:=by
 rcases H.ok k _ hk with ⟨rfl,rfl⟩ | ⟨g,cur,t,h1,h2,h3,h4,h5,h6⟩
 ·simp at hi
 ·have Ka:i<cur.length:=by
   have:=congrArg List.length h6
   rw [List.length_take,yW] at this
   omega
  rw [h1]
  show Ev.st (Addr.add ⟨g,0,none⟩ _) _ w K
  rw [Int.toNat_natCast,Nat.mul_one,au]
  refine RN h2 Ka rfl fun w' h7 h8 _=>h w' (H.iP k hk h8 (fun c hc=>.inl (by simp [aD.cut,ah.row,h1]; simpa using hc)) (.inr ⟨g,cur.set i (.int .u8 (x.toNat:Int)),t,h1,h7,by rw [List.length_set]; exact h3,h4,⟨h5.1,h5.2.1,by rw [List.length_set]; exact h5.2.2⟩,?_⟩) (fun b hb=>.inl hb))
  rw [List.take_set,h6]
  show (bp l).set i (.int .u8 (x.toNat:Int))=_
  rw [akT]
theorem aek {w0 w:World} {S:List Nat} {b:Nat} {q:bK} {t:aR} {s:dZ} {ow:Int} {sd:ah} {ys zs:List ah} {fp fq:List Nat} (H:ak w0 S w (cY b q t s ow sd ys zs fp fq)) (hs:t.small) (hu:jN q.n2=true) (hk:aS 1 (t.keys.length:Int) q.n4=true) (lb aq:List B8) (hb:∀ {w'},Mod S w0 w'→Bytes w' q.gD lb) (gY:∀ {w'},Mod S w0 w'→Bytes w' sd aq) :
  Ok Pr LQ [.pointer (some ⟨b,0,none⟩)] w fun v w'=>jF w0 S w' v b t (Gv q lb aq t) (Gu q lb aq t):=by
 refine adp ?_
 unfold Mo
 rw [tI,pM]
 have hC:Gu q lb aq t=if q.n2=9 then kX (cA q t) aq else (if oC (cA q t) q.n5 lb=0 then (if q.n2=10 then 0 else kX (cA q t) aq) else oC (cA q t) q.n5 lb):=rfl
 have ko:Gv q lb aq t=if q.n2=9 then ⟨wC (cA q t) aq,jQ (cA q t) aq,sV (cA q t) aq⟩ else if q.n2=10 then ⟨0,oL (cA q t) q.n5 lb,[]⟩ else ⟨wC (cA q t) aq,jQ (cA q t) aq,nQ (oL (cA q t) q.n5 lb) (sV (cA q t) aq) 32⟩:=rfl
 obtain ⟨i,ei,en,hi⟩:=xh hk
 have yG:cA q t=t.keys.getD i kz:=by unfold cA; rw [en]
 have bO:=vo hs hi
 rw [← yG] at bO
 have wE:=hs.key
 generalize Gu q lb aq t=C at *
 generalize Gv q lb aq t=R at *
 refine H.nw fun p w1 H _=>?_
 have D:=H.drew
 obtain ⟨mT,dw,x,dA,yH⟩:=RH (M:=[_]) D hi
 refine nc (D.ax 0 rfl (bF b 14 4) rfl (nc (D.an 0 rfl (bF b 0 4) rfl ⟨by unfold aF; omega,?_⟩)))
 show aQ s.key.a (q.n4 - 1) s.key.n _
 rw [ei]
 rw [← yG] at mT yH
 refine ⟨dw,qF yH (D.ir fun p1 w2 E m2=>⟨zm m2 (yH 0 _ rfl),D.kept m2 0 rfl (bF b 0 4) 1,D.kept m2 0 rfl (bF b 14 4) 1,E.cF 9 rfl rfl fun w3 E=>E.nw fun p2 w4 E _=>?_⟩)⟩
 have E:ak w0 S w4 (cY b q t s ow sd ys zs fp fq ++ [.av p (ew 0 0 ⟨none,0,0⟩ ⟨none,0,0⟩) bI,.av p1 (dH (cA q t).id (cA q t).ten (cA q t).set x) aV,.av p2 (ew 0 0 ⟨none,0,0⟩ ⟨none,0,0⟩) bI]):=E
 have bu:∀ {w':World} {M:List aD},ak w0 S w' (cY b q t s ow sd ys zs fp fq ++ M)→gh w' x (cA q t).aH:=fun G=>(R3 G dA mT).aH
 generalize F9:cA q t=k at *
 refine jK fun go bY=>?_
 have loop:∀ (old y z:ah) (n:Int) (l lL lS:List B8) (w5:World),C=0→l.length≤32→l.length≤lS.length→R=⟨n,lL,nQ l lS l.length⟩→ak w0 S w5 (cY b q t s ow sd ys zs fp fq ++ [.av p (ew 0 0 ⟨none,0,0⟩ ⟨none,0,0⟩) bI,.av p2 (ew 0 n y z) bI,.cut old l,.cut y lL,.cut z lS])→go old w5:=by
  intro old y z n l lL lS w5 hc kH TR hr K
  refine bY _ _ ?_
  have hol:l.length=old.n:=(Cut.bytes (K.ok 10 _ rfl)).len
  refine dm 0 l.length (fun i w'=>ak w0 S w' (cY b q t s ow sd ys zs fp fq ++ [.av p (ew 0 0 ⟨none,0,0⟩ ⟨none,0,0⟩) bI,.av p2 (ew 0 n y z) bI,.cut old l,.cut y lL,.cut z (nQ l lS i)])) rfl (by omega) (by rw [W0]; exact K) ?_ ?_
  ·intro again i w6 _ hi K aM
   have h1:Bytes w6 old l:=Cut.bytes (K.ok 10 _ rfl)
   have h2:Bytes w6 z (nQ l lS i):=Cut.bytes (K.ok 12 _ rfl)
   have wD:=h2.len
   rw [zx] at wD
   have Jp:z.a.isSome=true∧(0:Int)≤(i:Int)∧(i:Int)<(z.n:Int):=⟨h2.pre (by omega),by omega,by omega⟩
   have hg:(nQ l lS i).getD i 0=lS.getD i 0:=by
    rw [List.getD_eq_getElem?_getD,IB l lS i i (by omega),if_neg (by omega)]; rfl
   refine ite_true (decide_eq_true (by omega)) (h1.ld hi (K.ax 9 rfl (au p2 3) rfl (h2.ld (by rw [zx]; omega) ⟨Jp,?_⟩)))
   rw [hg,an7]
   refine K.anV 12 rfl (by rw [zx]; omega) _ fun w7 K=>⟨⟨by omega,by omega⟩,aM w7 ?_⟩
   rw [ajb l lS i (by omega)] at K
   exact K
  ·intro again w6 K
   refine ite_false (decide_eq_false (by omega)) (K.cI 9 rfl (K.bN 8 rfl rfl fun w8 K=>K.cI 8 rfl ?_))
   refine ⟨0,n,y,z,.nilIface,rfl,fun h=>absurd hc h,fun _=>⟨rfl,rfl,by rw [hr],q,s,ow,sd,ys,zs,fp,fq,?_⟩⟩
   rw [hr]
   exact K.cR [0,1,2,3,4,5,6,7,11,12] (by decide) rfl
 refine nc (E.an 0 rfl (bF b 0 2) rfl (jK fun j6 jl=>?_))
 have Z6:∀ (old:ah) (l:List B8) (w9:World),C=kX k aq→(kX k aq=0→l.length≤32∧R=⟨wC k aq,jQ k aq,nQ l (sV k aq) l.length⟩)→ak w0 S w9 (cY b q t s ow sd ys zs fp fq ++ [.av p (ew 0 0 ⟨none,0,0⟩ ⟨none,0,0⟩) bI,.av p1 (dH k.id k.ten k.set x) aV,.av p2 (ew 0 0 ⟨none,0,0⟩ ⟨none,0,0⟩) bI,.cut old l])→j6 old w9:=by
  intro old l w9 hc hr K
  refine jl _ _ ?_
  have K:=K.drew
  refine K.bA 9 rfl (nc (K.ax 0 rfl (au b 21) rfl (aB (ag7 k x sd aq (by omega) _ (bu K) (gY K.mod)) ?_)))
  rintro _ cM ⟨y,z,er,rfl,G⟩
  have K:=K.join G
  refine ⟨_,rfl,_,rfl,_,rfl,_,rfl,rfl,K.st 10 rfl (au p2 1) (by show 1<4; omega) rfl fun cZ K=>K.st 10 rfl (au p2 2) (by show 2<4; omega) rfl fun fV K=>K.st 10 rfl (au p2 3) (by show 3<4; omega) rfl fun fO K=>?_⟩
  have he:fW fO er (kX k aq):=K.ok 14 _ rfl
  refine he.isNil ?_
  by_cases e1:kX k aq=0
  ·obtain ⟨hl,hr⟩:=hr e1
   rw [e1] at hc
   have K:=K.EJ 12 rfl
   refine ite_false (by rw [decide_eq_true e1]; rfl) (loop old y z (wC k aq) l (jQ k aq) (sV k aq) fO hc hl (by rw [alp e1]; exact hl) hr ?_)
   exact K.cR [0,1,2,3,4,5,6,7,8,10,11,12,13] (by decide) rfl
  ·refine ite_true (by rw [decide_eq_false e1]; rfl) (K.bN 8 rfl rfl fun gu K=>K.cI 8 rfl ?_)
   rw [hc]
   exact jF.no 14 e1 K rfl rfl
 refine jJ fun go2 oP=>?_
 have op:q.n2≠9→go2 w4:=by
  intro h9
  rw [if_neg h9] at hC ko
  have K:=E.drew
  refine oP w4 (K.bA 9 rfl (nc (K.an 0 rfl (bF b 0 5) rfl (nc (K.ax 0 rfl (bF b 0 12) rfl (aB (ag8 k x q.gD q.n5 lb (by omega) _ (bu K) (hb K.mod)) ?_))))))
  rintro _ mO ⟨y,er,rfl,G⟩
  have K:=K.join G
  have he:fW mO er (oC k q.n5 lb):=K.ok 12 _ rfl
  refine ⟨_,rfl,_,rfl,rfl,he.isNil ?_⟩
  by_cases e1:oC k q.n5 lb=0
  case neg=>
   rw [if_neg e1] at hC
   refine ite_true (by rw [decide_eq_false e1]; rfl) (K.cI 10 rfl (K.bN 8 rfl rfl fun yq K=>K.cI 8 rfl ?_))
   rw [hC]
   exact jF.no 12 e1 K rfl rfl
  rw [if_pos e1] at hC
  have hl:=amk e1
  refine ite_false (by rw [decide_eq_true e1]; rfl) (nc (K.an 0 rfl (bF b 0 2) rfl ?_))
  show aA (decide (q.n2=10)) _ _
  by_cases jn:q.n2=10
  ·rw [if_pos jn] at hC ko
   refine ite_true (decide_eq_true jn) (K.bN 8 rfl rfl fun kV K=>K.cI 8 rfl ?_)
   refine ⟨0,0,y,⟨none,0,0⟩,.nilIface,rfl,fun h=>absurd hC h,fun _=>⟨rfl,rfl,by rw [ko],q,s,ow,sd,ys,zs,fp,fq,?_⟩⟩
   rw [ko]
   have K:=ak.xG K
   exact K.cR [0,1,2,3,4,5,6,7,11,13] (by decide) rfl
  ·rw [if_neg jn] at hC ko
   refine ite_false (decide_eq_false jn) (Z6 y (oL k q.n5 lb) mO hC (fun _=>⟨by omega,by rw [ko,hl]⟩) (K.take 12))
 have no9:q.n2=9→j6 ⟨none,0,0⟩ w4:=by
  intro h9
  rw [if_pos h9] at hC ko
  exact Z6 ⟨none,0,0⟩ [] w4 hC (fun _=>⟨by simp,by rw [ko]; show _=qh.mk _ _ (nQ [] _ 0); rw [W0]⟩) (ak.xG E)
 show aA (decide (q.n2=11)) (aA (decide (q.n2=11)) _ _) (aA (decide (q.n2=10)) _ _)
 by_cases x5:q.n2=11
 ·exact ite_true (decide_eq_true x5) (ite_true (decide_eq_true x5) (op (by omega)))
 ·refine ite_false (decide_eq_false x5) ?_
  by_cases jn:q.n2=10
  ·exact ite_true (decide_eq_true jn) (op (by omega))
  ·refine ite_false (decide_eq_false jn) (no9 ?_)
   unfold jN at hu
   rw [decide_eq_false x5,decide_eq_false jn,Bool.or_false,Bool.or_false] at hu
   exact of_decide_eq_true hu
end Go.Proofs.YtgjoehgomjgckaaGreatDoor
end
section
set_option linter.unusedVariables false
set_option linter.unusedSimpArgs false
namespace Go.Proofs.YtgjoehgomjgckaaGreatDoor
open Go Go.Ev
set_option maxRecDepth 20000
set_option linter.unusedVariables false
def iX (q:bK):bQ:=⟨0,q.n4,q.n8,q.n9,q.o6,false⟩
def CH (q:bK) (t:aR):Int:=if q.n2=13 then oT t.br q.n7 else if q.o6≤t.clock then 2 else oS t.br (iX q)
def xX (q:bK) (t:aR):aR:={ t with br:=if q.n2=13 then l8 t.br q.n7 else lD t.br (iX q) }
def FD (q:bK) (t:aR):qh:=if q.n2=13 then ⟨0,[],[]⟩ else ⟨vM t.br (iX q),tok t.bG (nP t.br (iX q)),[]⟩
theorem adq {w0 w:World} {S:List Nat} {b:Nat} {q:bK} {t:aR} {s:dZ} {ow:Int} {sd:ah} {ys zs:List ah} {fp fq:List Nat} (H:ak w0 S w (cY b q t s ow sd ys zs fp fq)) (hs:t.small) (Ao:t.bG.length≤1000) :
  Ok Pr Lu [.pointer (some ⟨b,0,none⟩)] w fun v w'=>jF w0 S w' v b (xX q t) (FD q t) (CH q t):=by
 refine acH ?_
 unfold LC
 rw [tI]
 have AM:=hs.gr
 have hC:CH q t=if q.n2=13 then oT t.br q.n7 else if q.o6≤t.clock then 2 else oS t.br (iX q):=rfl
 have hT:xX q t={ t with br:=if q.n2=13 then l8 t.br q.n7 else lD t.br (iX q) }:=rfl
 have ko:FD q t=if q.n2=13 then ⟨0,[],[]⟩ else ⟨vM t.br (iX q),tok t.bG (nP t.br (iX q)),[]⟩:=rfl
 generalize CH q t=C at *
 generalize xX q t=T at *
 generalize FD q t=R at *
 refine H.nw fun p w1 H _=>?_
 have D:=H.drew
 refine nc (H.an 0 rfl (bF b 0 2) rfl ?_)
 show aA (decide (q.n2=13)) _ _
 by_cases mV:q.n2=13
 ·rw [if_pos mV] at hC hT ko
  have hR:gC _ s t:=vu (D.take 8)
  refine ite_true (decide_eq_true mV) (nc (D.ax 0 rfl (bF b 14 5) rfl (nc (D.an 0 rfl (bF b 0 7) rfl (aB (aee s.gr t.br q.n7 (by omega) _ hR.gr) ?_)))))
  rintro _ w2 ⟨y,er,rfl,hy,he,hn,m⟩
  have K:=D.SS m hy he hn
  refine ⟨_,rfl,_,rfl,rfl,nc (K.st 0 rfl (bF b 14 5) (by show 19<22; omega) rfl fun w3 K=>K.bN 8 rfl rfl fun w4 K=>K.cI 8 rfl ?_)⟩
  refine ⟨0,0,⟨none,0,0⟩,⟨none,0,0⟩,er,rfl,fun _=>by rw [hC]; exact K.only 10 rfl,fun h0=>?_⟩
  have he:fW w4 er (oT t.br q.n7):=K.ok 10 _ rfl
  rw [hC] at h0
  rw [h0] at he
  refine ⟨tJ he,rfl,by rw [ko],q,⟨s.sec,s.ten,s.aE,s.key,y⟩,ow,sd,ys,zs,fp,fq,?_⟩
  rw [hT,ko]
  exact JG (K.cR (L':=cY b q { t with br:=l8 t.br q.n7 } ⟨s.sec,s.ten,s.aE,s.key,y⟩ ow sd ys zs fp fq) [0,1,2,9,4,5,6,7] (by decide) rfl)
 ·rw [if_neg mV] at hC hT ko
  refine ite_false (decide_eq_false mV) (nc (D.an 0 rfl (bF b 0 10) rfl (nc (D.an 0 rfl (bF b 14 0) rfl ?_))))
  show aA (decide (q.o6≤t.clock)) _ _
  by_cases hu:q.o6≤t.clock
  ·rw [if_pos hu] at hC
   refine ite_true (decide_eq_true hu) (aB (AU 2 (by decide) _) ?_)
   rintro er w3 ⟨h,m3⟩
   have K:=D.gH m3 h
   refine K.bN 8 rfl rfl fun w4 K=>K.cI 8 rfl ?_
   rw [hC]
   exact jF.no 9 (by decide) K rfl rfl
  rw [if_neg hu] at hC
  have D2:=D.drew
  have hR:gC _ s t:=vu (D2.take 8)
  refine ite_false (decide_eq_false hu) (nc (D2.ax 0 rfl (bF b 14 5) rfl (nc (D2.an 0 rfl (bF b 0 4) rfl (nc (D2.an 0 rfl (bF b 0 8) rfl (nc (D2.an 0 rfl (bF b 0 9) rfl (nc (D2.an 0 rfl (bF b 0 10) rfl (aB (agC s.gr t.br (iX q) (by omega) _ hR.gr) ?_)))))))))))
  rintro _ w7 ⟨y,er,rfl,hy,he,hn,m⟩
  have K:=D2.SS m hy he hn
  refine ⟨_,rfl,_,rfl,_,rfl,rfl,he.1.isNil ?_⟩
  by_cases e1:oS t.br (iX q)=0
  case neg=>
   refine ite_true (by rw [decide_eq_false e1]; rfl) (K.bN 8 rfl rfl fun w8 K=>K.cI 8 rfl ?_)
   rw [hC]
   exact jF.no 10 e1 K rfl rfl
  have eL:lD t.br (iX q)=t.br ++ [nP t.br (iX q)]:=by unfold lD; rw [if_pos e1]
  have eN:vM t.br (iX q)=(t.br.length:Int)+1:=by unfold vM; rw [if_pos e1]
  have qU:er=.nilIface:=tJ (e1 ▸ he.1)
  rw [e1] at hC
  refine ite_false (by rw [decide_eq_true e1]; rfl) (nc (K.st 0 rfl (bF b 14 5) (by show 19<22; omega) rfl fun w9 K=>?_))
  have K:=K.drew
  have hg:gU _ y (t.br ++ [nP t.br (iX q)]):=eL ▸ K.fJ 9 rfl
  refine nc (K.ax 0 rfl (bF b 14 1) rfl ⟨by rw [eN]; unfold aF; omega,?_⟩)
  rw [eN,Int.add_sub_cancel]
  have jq:(t.br ++ [nP t.br (iX q)]).getD t.br.length gz=nP t.br (iX q):=by
   rw [List.getD_eq_getElem?_getD,List.getElem?_append_right (Nat.le_refl _),Nat.sub_self]; rfl
  refine hg.ld (i:=t.br.length) (by simp) rfl ?_
  rw [jq]
  refine aB (UX s.sec t.bG (nP t.br (iX q)) Ao _ (Own.bytes (K.qV 1 rfl))) ?_
  rintro _ cM ⟨z,rfl,hz,Gp⟩
  have K:=K.cG Gp hz
  refine bW (K.bN 8 rfl rfl fun cZ K=>K.cI 8 rfl ?_)
  refine ⟨0,(t.br.length:Int)+1,z,⟨none,0,0⟩,.nilIface,rfl,fun h=>absurd hC h,fun _=>⟨rfl,rfl,by rw [ko,eN],q,⟨s.sec,s.ten,s.aE,s.key,y⟩,ow,sd,ys,zs,fp,fq,?_⟩⟩
  rw [hT,ko]
  have K:=ak.xG (K.EJ 11 rfl)
  exact K.cR (L':=cY b q { t with br:=lD t.br (iX q) } ⟨s.sec,s.ten,s.aE,s.key,y⟩ ow sd ys zs fp fq ++ [.cut z (tok t.bG (nP t.br (iX q))),.cut ⟨none,0,0⟩ []]) [0,1,2,9,4,5,6,7,11,12] (by decide) rfl
def qx (q:bK) (lb aq:List B8) (t:aR):Int:=
 if q.n2=1 then oR t.bP q.n3 q.name else if q.n2=2 then CC lb t else if q.n2=3 then CD q aq t else if jN q.n2=true then Gu q lb aq t
 else if q.n2=12∨q.n2=13 then CH q t else CF q aq t
def o9 (q:bK) (lb aq:List B8) (t:aR):aR:=
 if q.n2=1 then CB q t else if q.n2=2 then qZ q lb t else if q.n2=3 then su q aq t else if jN q.n2=true then t
 else if q.n2=12∨q.n2=13 then xX q t else Ap q aq t
def Gw (q:bK) (lb aq:List B8) (t:aR):qh:=
 if q.n2=1 then Tk q t else if q.n2=2 then JH t else if q.n2=3 then FB q aq t else if jN q.n2=true then Gv q lb aq t
 else if q.n2=12∨q.n2=13 then FD q t else FC q aq t
structure Fit (q:bK) (t:aR):Prop where
 small:t.small
 aE:t.aE.length≤6
 key:t.keys.length≤6
 sec:t.bG.length=32
 the:jy q.n2=false→aS 1 (t.keys.length:Int) q.n4=true
theorem _root_.Go.Ev.ak.sub {w0 w:World} {S:List Nat} {L M:List aD} (H:ak w0 S w (L ++ M)):ak w (L.flatMap (·.fp)) w L:=by
 have e:∀ {k:Nat} {r:aD},L[k]? = some r→(L ++ M)[k]? = some r:=fun {k r} h=>by
  rw [List.getElem?_append_left (List.getElem?_eq_some_iff.1 h).1]; exact h
 exact ⟨Mod.refl _ _,fun k r h=>H.ok k r (e h),fun k r h b hb=>.inl (List.mem_flatMap.2 ⟨r,List.mem_of_getElem? h,hb⟩),fun j k r s lI h1 h2=>H.apart j k r s lI (e h1) (e h2)⟩
theorem _root_.Go.Ev.ak.JI {w0 w:World} {S:List Nat} {L M:List aD} (H:ak w0 S w (L ++ M)):∀ b∈L.flatMap (·.fp),b∈S∨w0.heap.size≤b:=fun b hb=>by
 obtain ⟨r,hr,hb⟩:=List.mem_flatMap.1 hb
 obtain ⟨k,hk⟩:=List.getElem?_of_mem hr
 exact H.own k r (by rw [List.getElem?_append_left (List.getElem?_eq_some_iff.1 hk).1]; exact hk) b hb
theorem _root_.Go.Ev.ak.back {w0 w w':World} {S:List Nat} {L M L':List aD} (H:ak w0 S w (L ++ M)) (K:ak w (L.flatMap (·.fp)) w' L'):ak w0 S w' (L' ++ M):=by
 have hL:∀ b∈L.flatMap (·.fp),(b∈S∨w0.heap.size≤b)∧∃ (k:Nat) (r:aD),L[k]? = some r∧b∈r.fp:=fun b hb=>by
  obtain ⟨r,hr,hb⟩:=List.mem_flatMap.1 hb
  obtain ⟨k,hk⟩:=List.getElem?_of_mem hr
  have oZ:(L ++ M)[k]? = some r:=by rw [List.getElem?_append_left (List.getElem?_eq_some_iff.1 hk).1]; exact hk
  exact ⟨H.own k r oZ b hb,k,r,hk,hb⟩
 have em:∀ {k:Nat} {r:aD},M[k]? = some r→(L ++ M)[L.length+k]? = some r:=fun {k r} h=>by
  rw [List.getElem?_append_right (Nat.le_add_right _ _),Nat.add_sub_cancel_left]; exact h
 have hM:∀ {k:Nat} {r:aD},M[k]? = some r→∀ b∈r.fp,b<w.heap.size∧b∉L.flatMap (·.fp):=fun {k r} h b hb=>by
  refine ⟨r.lt w (H.ok _ r (em h)) b hb,fun h2=>?_⟩
  obtain ⟨_,i,s,hi,hs⟩:=hL b h2
  have Kg:=(List.getElem?_eq_some_iff.1 hi).1
  exact H.apart i (L.length+k) s r (by omega) (by rw [List.getElem?_append_left Kg]; exact hi) (em h) b hs hb
 have e:∀ {k:Nat} {r:aD},(L' ++ M)[k]? = some r→(L'[k]? = some r∧k<L'.length)∨(L'.length≤k∧M[k - L'.length]? = some r):=fun {k r} h=>by
  rcases Nat.lt_or_ge k L'.length with hk | hk
  ·rw [List.getElem?_append_left hk] at h; exact .inl ⟨h,hk⟩
  ·rw [List.getElem?_append_right hk] at h; exact .inr ⟨hk,h⟩
 have x:∀ {j k:Nat} {r s:aD},L'[j]? = some r→M[k]? = some s→∀ b∈r.fp,b∉s.fp:=fun {j k r s} h1 h2 b h3 h4=>by
  obtain ⟨h5,h6⟩:=hM h2 b h4
  rcases K.own j r h1 b h3 with h | h
  ·exact h6 h
  ·omega
 refine ⟨H.mod.trans' K.mod fun b hb=>(hL b hb).1,fun k r h=>?_,fun k r h b hb=>?_,fun j k r s lI h1 h2 b hb kU=>?_⟩
 ·rcases e h with ⟨h,_⟩ | ⟨_,h⟩
  ·exact K.ok k r h
  ·exact r.kC w w' (fun b hb=>K.mod.block b (hM h b hb).1 (hM h b hb).2) (H.ok _ r (em h))
 ·rcases e h with ⟨h,_⟩ | ⟨_,h⟩
  ·rcases K.own k r h b hb with h3 | h3
   ·exact (hL b h3).1
   ·exact .inr (Nat.le_trans H.mod.size h3)
  ·exact H.own _ r (em h) b hb
 ·rcases e h1 with ⟨g1,l1⟩ | ⟨l1,g1⟩
  ·rcases e h2 with ⟨g2,_⟩ | ⟨_,g2⟩
   ·exact K.apart j k r s lI g1 g2 b hb kU
   ·exact x g1 g2 b hb kU
  ·rcases e h2 with ⟨g2,_⟩ | ⟨l2,g2⟩
   ·exact x g2 g1 b kU hb
   ·exact H.apart _ _ r s (by omega) (em g1) (em g2) b hb kU
theorem aeX {w0 w:World} {S:List Nat} {b:Nat} {q:bK} {t:aR} {s:dZ} {ow:Int} {sd:ah} {ys zs:List ah} {fp fq:List Nat} (H:ak w0 S w (cY b q t s ow sd ys zs fp fq)) (hf:Fit q t) (lb aq:List B8) (hb:∀ {w'},Mod S w0 w'→Bytes w' q.gD lb) (dU:aq.length≤1000000) (gY:∀ {w'},Mod S w0 w'→Bytes w' sd aq) :
  Ok Pr Mr [.pointer (some ⟨b,0,none⟩)] w fun v w'=>jF w0 S w' v b (o9 q lb aq t) (Gw q lb aq t) (qx q lb aq t):=by
 refine adI ?_
 unfold MN
 rw [tI]
 have hC:qx q lb aq t=if q.n2=1 then oR t.bP q.n3 q.name else if q.n2=2 then CC lb t else if q.n2=3 then CD q aq t else if jN q.n2=true then Gu q lb aq t else if q.n2=12∨q.n2=13 then CH q t else CF q aq t:=rfl
 have hT:o9 q lb aq t=if q.n2=1 then CB q t else if q.n2=2 then qZ q lb t else if q.n2=3 then su q aq t else if jN q.n2=true then t else if q.n2=12∨q.n2=13 then xX q t else Ap q aq t:=rfl
 have hR:Gw q lb aq t=if q.n2=1 then Tk q t else if q.n2=2 then JH t else if q.n2=3 then FB q aq t else if jN q.n2=true then Gv q lb aq t else if q.n2=12∨q.n2=13 then FD q t else FC q aq t:=rfl
 generalize qx q lb aq t=C at *
 generalize o9 q lb aq t=T at *
 generalize Gw q lb aq t=R at *
 refine H.nw fun p w1 H _=>?_
 have H:ak w0 S w1 (cY b q t s ow sd ys zs fp fq ++ [.av p (ew 0 0 ⟨none,0,0⟩ ⟨none,0,0⟩) bI]):=H
 have kU:∀ {w'},Mod ((cY b q t s ow sd ys zs fp fq).flatMap (·.fp)) w1 w'→Bytes w' q.gD lb:=fun {w'} m=>hb (H.mod.trans' m H.JI)
 have Tm:∀ {w'},Mod ((cY b q t s ow sd ys zs fp fq).flatMap (·.fp)) w1 w'→Bytes w' sd aq:=fun {w'} m=>gY (H.mod.trans' m H.JI)
 have D:=H.sub
 have fin:∀ {f:FuncId} (T':aR) (R':qh) (C':Int),Ok Pr f [.pointer (some ⟨b,0,none⟩)] w1 (fun v w'=>jF w1 ((cY b q t s ow sd ys zs fp fq).flatMap (·.fp)) w' v b T' R' C')→T'=T→R'=R→C'=C→
   ay Pr f [.pointer (some ⟨b,0,none⟩)] w1 fun v w3=>bw.bC v fun vs=>aC vs fun Uk r=>fR Uk fun a1 a2 a3 a4=>aC r fun Ul Um=>(Um=[]∧bN ⟨p,0,none⟩ a1 a2 a3 a4 w3 fun w4=>cI ⟨p,0,none⟩ w4 fun c1 c2 c3 c4=>jF w0 S w4 (.tuple ⟨[.agg ⟨[.int .i64 c1,.int .i64 c2,.slice c3.a c3.n c3.c,.slice c4.a c4.n c4.c]⟩,Ul]⟩) b T R C):=by
  intro f T' R' C' h e1 e2 e3
  subst e1 e2 e3
  refine aB h ?_
  rintro _ w3 ⟨rc,ri,y,z,er,rfl,h1,h2⟩
  refine ⟨_,rfl,qD ⟨rfl,?_⟩⟩
  by_cases hc:C'=0
  ·obtain ⟨rfl,rfl,rfl,q',s',kL,Un,wG,wH,yE,yF,K⟩:=h2 hc
   have K:=H.back K
   refine K.bN 10 rfl rfl fun w4 K=>K.cI 10 rfl ?_
   exact ⟨0,R'.id,y,z,.nilIface,rfl,fun h=>absurd hc h,fun _=>⟨rfl,rfl,rfl,q',s',kL,Un,wG,wH,yE,yF,K.take 10⟩⟩
  ·have K:=H.back (h1 hc)
   refine K.bN 1 rfl rfl fun w4 K=>K.cI 1 rfl ?_
   exact jF.no 0 hc K rfl rfl
 refine jJ fun go bY=>nc (H.an 0 rfl (bF b 0 2) rfl ?_)
 show aA (decide (q.n2=1)) _ _
 by_cases e1:q.n2=1
 ·rw [if_pos e1] at hC hT hR
  exact ite_true (decide_eq_true e1) (fin _ _ _ (acV D hf.small) hT.symm hR.symm hC.symm)
 rw [if_neg e1] at hC hT hR
 refine ite_false (decide_eq_false e1) ?_
 by_cases e2:q.n2=2
 ·rw [if_pos e2] at hC hT hR
  exact ite_true (decide_eq_true e2) (fin _ _ _ (acW D hf.small hf.aE lb kU) hT.symm hR.symm hC.symm)
 rw [if_neg e2] at hC hT hR
 refine ite_false (decide_eq_false e2) ?_
 by_cases e3:q.n2=3
 ·rw [if_pos e3] at hC hT hR
  exact ite_true (decide_eq_true e3) (fin _ _ _ (acX D hf.small hf.key aq dU Tm) hT.symm hR.symm hC.symm)
 rw [if_neg e3] at hC hT hR
 have hm:jy q.n2=false:=by
  unfold jy
  rw [decide_eq_false e1,decide_eq_false e2,decide_eq_false e3]; rfl
 have hk:=hf.the hm
 have Ao:t.bG.length≤1000:=by have:=hf.sec; omega
 refine ite_false (decide_eq_false e3) (jK fun go2 oP=>?_)
 have G:go2 (jN q.n2) w1:=by
  refine oP _ _ ?_
  cases hu:jN q.n2 with
  | true=>
   rw [hu,if_pos rfl] at hC hT hR
   exact ite_true rfl (fin _ _ _ (aek D hf.small hu hk lb aq kU Tm) hT.symm hR.symm hC.symm)
  | false=>
   rw [hu,if_neg (by decide)] at hC hT hR
   refine ite_false rfl (jK fun C9 CE=>?_)
   have g1:q.n2=12∨q.n2=13→C9 true w1:=fun h=>by
    rw [if_pos h] at hC hT hR
    exact CE _ _ (ite_true rfl (fin _ _ _ (adq D hf.small Ao) hT.symm hR.symm hC.symm))
   have g2:¬ (q.n2=12∨q.n2=13)→C9 false w1:=fun h=>by
    rw [if_neg h] at hC hT hR
    exact CE _ _ (ite_false rfl (bY _ (fin _ _ _ (acY D hf.small hk aq dU Tm) hT.symm hR.symm hC.symm)))
   by_cases jB:q.n2=12
   ·refine ite_true (decide_eq_true jB) ?_
    rw [decide_eq_true jB]
    exact g1 (.inl jB)
   ·refine ite_false (decide_eq_false jB) ?_
    by_cases mV:q.n2=13
    ·rw [decide_eq_true mV]; exact g1 (.inr mV)
    ·rw [decide_eq_false mV]; exact g2 (fun h=>h.elim jB mV)
 have tv:∀ {z:Int},jN z=true→q.n2=z→go2 (decide (q.n2=z)) w1:=fun hz e=>by
  rw [e] at G ⊢
  rw [hz] at G
  rw [decide_eq_true rfl]
  exact G
 refine bV (fun h=>tv rfl (of_decide_eq_true h)) fun h9=>?_
 refine bV (fun h=>tv rfl (of_decide_eq_true h)) fun jn=>?_
 have e:jN q.n2=decide (q.n2=11):=by
  unfold jN
  have h9:decide (q.n2=9)=false:=h9
  have jn:decide (q.n2=10)=false:=jn
  rw [h9,jn]; rfl
 rw [e] at G
 exact G
end Go.Proofs.YtgjoehgomjgckaaGreatDoor
end
section
set_option linter.unusedVariables false
set_option linter.unusedSimpArgs false
namespace Go.Proofs.YtgjoehgomjgckaaGreatDoor
open Go Go.Ev
set_option maxRecDepth 20000
set_option linter.unusedVariables false
def qK (q:bK) (t:aR):bK:={ q with n4:=gm q t }
def dC (q:bK) (lb lt aq:List B8) (t:aR):Int:=if oU q lt t=0 then qx (qK q t) lb aq (iD q t) else oU q lt t
def dT (q:bK) (lb lt aq:List B8) (t:aR):aR:=if dC q lb lt aq t=0 then o9 (qK q t) lb aq (iD q t) else gM
def dR (q:bK) (lb lt aq:List B8) (t:aR):qh:=if dC q lb lt aq t=0 then Gw (qK q t) lb aq (iD q t) else ⟨0,[],[]⟩
theorem ain {t:aR} (h:fE t=true):t.clock≤1099511627776∧0≤t.clock∧t.bG.length=32∧1≤t.bP.length∧gL t.bP=true∧(1≤t.aE.length∧t.aE.length≤6)∧t.keys.length≤6∧gy t.br=true:=by
 unfold fE Am aS at h
 simp only [Bool.and_eq_true,decide_eq_true_eq] at h
 obtain ⟨⟨h1,h2,h3,h4,h5,h6,h7⟩,_⟩:=h
 exact ⟨h1.2,h1.1,h2,h3,h4,⟨by omega,by omega⟩,h6,h7⟩
theorem QY {q:bK} {lt:List B8} {t:aR} (h:oU q lt t=0):fE t=true∧oI q=true∧aS 1 (t.aE.length:Int) q.n0=true∧mG (ek q t).high (ek q t).used q.n1=0∧gW q t=true∧tY q lt t (oJ q t)=0:=by
 unfold oU at h
 split at h
 ·rename_i h1
  rw [Bool.and_eq_true] at h1
  split at h
  ·rename_i h2
   split at h
   ·rename_i h3
    split at h
    ·rename_i h4
     exact ⟨h1.1,h1.2,h2,h3,h4,h⟩
    ·omega
   ·omega
  ·omega
 ·omega
theorem XL {q:bK} {lt:List B8} {t:aR} (hs:t.small) (h:oU q lt t=0):Fit (qK q t) (iD q t):=by
 obtain ⟨h1,_,h2,_,h4,_⟩:=QY h
 have hp:=ain h1
 exact ⟨Wr hs h2,by show (t.aE.set _ _).length≤6; rw [List.length_set]; exact hp.2.2.2.2.2.1.2,hp.2.2.2.2.2.2.1,hp.2.2.1,fun hm=>by
  have hm:jy q.n2=false:=hm
  unfold gW at h4
  rw [if_neg (by rw [hm]; decide),Bool.and_eq_true,Bool.and_eq_true] at h4
  exact h4.2.1⟩
theorem ahd (e:Value) (c:Int) (hc:c≠0) (w:World) (hg:Laid w) (h:fW w e c):Ok Pr DY [e] w fun v w'=>v=.int .i64 c∧Mod [] w w':=by
 rcases h with ⟨_,h⟩ | ⟨b,s,rfl,hb,_⟩
 ·exact absurd h hc
 ·exact VS b c w hg (by rw [hb.cell]; rfl)
def Ans (w w':World) (v:Value) (T:aR) (c:Int) (R:qh):Prop:=
 ∃ s ys zs fp fq y z er,v=.tuple ⟨[.agg ⟨T.cs s⟩,.agg ⟨ew c R.id y z⟩,er]⟩∧ak w [] w' (jm s T ys zs fp fq ++ [.cut y R.gD,.cut z R.ex,aD.err er c])
theorem fZ {w w':World} {b:Nat} {cs:List Value} {t:TypeId} (h:bX w b cs t) (h':bX w' b cs t) (n:Nat):kept ⟨b,0,none⟩ n w w':=fun j _=>by rw [au,h.cell,h'.cell]
theorem ak.ZJ {w0 w:World} {S:List Nat} {L:List aD} (H:ak w0 S w L):ak w0 S w (L ++ [aD.err .nilIface 0]):=
 H.push (Mod.refl _ _) (.inl ⟨rfl,rfl⟩) (fun b hb=>by cases hb)
theorem yU (s:dZ) (t:aR) (q:bK) (lb lt:List B8) (sd:ah) (aq:List B8) (hs:t.small) (dU:aq.length≤1000000) (w:World) (hg:Laid w) (hx:gC w s t) (hb:Bytes w q.gD lb) (ht:Bytes w q.tok lt) (gY:Bytes w sd aq) :
  Ok Pr gV [.agg ⟨t.cs s⟩,.agg ⟨q.cells⟩,.slice sd.a sd.n sd.c] w fun v w'=>Ans w w' v (dT q lb lt aq t) (dC q lb lt aq t) (dR q lb lt aq t):=by
 refine agG ?_
 unfold QB
 rw [tH,tI]
 have hC:dC q lb lt aq t=if oU q lt t=0 then qx (qK q t) lb aq (iD q t) else oU q lt t:=rfl
 have hT:dT q lb lt aq t=if dC q lb lt aq t=0 then o9 (qK q t) lb aq (iD q t) else gM:=rfl
 have hR:dR q lb lt aq t=if dC q lb lt aq t=0 then Gw (qK q t) lb aq (iD q t) else ⟨0,[],[]⟩:=rfl
 generalize dC q lb lt aq t=C at *
 generalize dT q lb lt aq t=T at *
 generalize dR q lb lt aq t=R at *
 refine (ak.start w).nw fun p w1 H _=>H.nw fun p1 w2 H _=>H.nw fun p2 w3 H _=>H.nw fun p3 w4 H _=>?_
 have H:ak w [] w4 [.av p (t.cs s) aN,.av p1 q.cells k6,.av p2 (gM.cs sZ) aN,.av p3 (ew 0 0 ⟨none,0,0⟩ ⟨none,0,0⟩) bI]:=H
 refine H.bD 0 rfl (H.jH 1 rfl (aB (afH s t q lt sd hs _ (hx.aG H.mod) (ht.aG H.mod)) ?_))
 rintro _ w5 ⟨pj,er,rfl,lN,m5,aoF⟩
 refine ⟨_,rfl,pj,rfl,rfl,?_⟩
 refine qM fun p4 w6 hb4 hk4 m6 _=>?_
 refine jK fun go bY=>?_
 have fail:∀ {w7:World} (e:Value),C≠0→ak w [] w7 [.av p2 (gM.cs sZ) aN,.av p3 (ew 0 0 ⟨none,0,0⟩ ⟨none,0,0⟩) bI,aD.err e C]→go e w7:=by
  intro w7 e hc K
  rw [if_neg hc] at hT hR
  subst hT hR
  have he:fW w7 e C:=K.ok 2 _ rfl
  refine bY _ _ (he.isNil (ite_true (by rw [decide_eq_false hc]; rfl) (aB (ahd e C hc w7 (hg.oO K (by simp)) he) ?_)))
  rintro _ w8 ⟨rfl,m8⟩
  have K:=K.frame m8
  refine ⟨_,rfl,K.bE 0 rfl rfl fun w9 K=>K.bN 1 rfl rfl fun cM K=>K.bD 0 rfl (K.cI 1 rfl ?_)⟩
  refine ⟨sZ,[],[],[],[],⟨none,0,0⟩,⟨none,0,0⟩,e,rfl,?_⟩
  exact (JG (Rp K)).cR (L':=jm sZ gM [] [] [] [] ++ [.cut ⟨none,0,0⟩ [],.cut ⟨none,0,0⟩ [],aD.err e C]) [3,4,5,6,7,8,9,10,11,2] (by decide) rfl
 refine lN.1.isNil ?_
 by_cases h0:oU q lt t=0
 case neg=>
  rw [if_neg h0] at hC
  refine ite_false (decide_eq_false h0) ?_
  have K:=(H.gH m5 lN).frame m6
  exact fail er (by rw [hC]; exact h0) (K.cR [2,3,4] (by decide) (by rw [hC]; rfl))
 rw [if_pos h0] at hC
 have qU:er=.nilIface:=tJ (h0 ▸ lN.1)
 subst qU
 obtain ⟨b,s',ys,zs,fp,fq,rfl,J⟩:=aoF h0
 have K:=((H.join J).frame (Mod.refl [] _)).push (r:=.av p4 (ew 0 0 ⟨none,0,0⟩ ⟨none,0,0⟩) bI) m6 hk4 (by simp [aD.av,hb4])
 have K:ak w [] w6 (cY b (qK q t) (iD q t) s' (oJ q t) sd ys zs fp fq ++ [.av p2 (gM.cs sZ) aN,.av p3 (ew 0 0 ⟨none,0,0⟩ ⟨none,0,0⟩) bI,.av p4 (ew 0 0 ⟨none,0,0⟩ ⟨none,0,0⟩) bI]):=K.cR [4,5,6,7,8,9,10,11,2,3,12] (by decide) rfl
 refine ite_true (decide_eq_true h0) (aB (aeX K.sub (XL hs h0) lb aq (fun m=>hb.aG (K.mod.trans' m K.JI)) dU (fun m=>gY.aG (K.mod.trans' m K.JI))) ?_)
 rintro _ fO ⟨rc,ri,y,z,er,rfl,h1,h2⟩
 refine ⟨_,rfl,qD ⟨rfl,?_⟩⟩
 rw [← hC] at h1 h2
 by_cases hc:C=0
 ·obtain ⟨rfl,rfl,rfl,q',s2,kL,Un,wG,wH,yE,yF,G⟩:=h2 hc
  rw [if_pos hc] at hT hR
  rw [← hT,← hR] at G
  rw [← hR]
  have G:=K.back G
  have G:ak w [] fO [.av b (An q' T s2 kL Un) wR,.row aX 1 s2.sec (bp T.bG),.row dh 3 s2.ten (fQ T.bP),.row cB 6 s2.gr (dK T.br),.row eu 5 s2.aE (bh ct.cs T.aE wG),.box yE fun w=>bn gB w wG T.aE,.row aV 4 s2.key (bh aP.cs T.keys wH),.box yF fun w=>bn fG w wH T.keys,.cut y R.gD,.cut z R.ex,.av p2 (gM.cs sZ) aN,.av p3 (ew 0 0 ⟨none,0,0⟩ ⟨none,0,0⟩) bI,.av p4 (ew 0 0 ⟨none,0,0⟩ ⟨none,0,0⟩) bI]:=G
  refine G.bN 12 rfl rfl fun gu G=>bY _ _ (Tl ?_)
  have G:=G.drew
  refine YS G 0 rfl (G.cI 12 rfl (G.bE 10 rfl rfl fun kJ E=>⟨fZ (G.av 12 rfl) (E.av 12 rfl) 4,E.bN 11 rfl rfl fun mO E=>E.bD 10 rfl (E.cI 11 rfl ?_)⟩))
  refine ⟨s2,wG,wH,yE,yF,y,z,.nilIface,by rw [hc]; rfl,?_⟩
  rw [hc]
  exact (ak.ZJ E).cR (L':=jm s2 T wG wH yE yF ++ [.cut y R.gD,.cut z R.ex,aD.err .nilIface 0]) [1,2,3,4,5,6,7,8,9,13] (by decide) rfl
 ·have G:=K.back (h1 hc)
  refine G.bN 3 rfl rfl fun gu G=>fail er hc (G.cR [1,2,0] (by decide) rfl)
end Go.Proofs.YtgjoehgomjgckaaGreatDoor
end
section
set_option linter.unusedVariables false
set_option linter.unusedSimpArgs false
namespace Go.Proofs.YtgjoehgomjgckaaGreatDoor
open Go Go.Ev
set_option maxRecDepth 20000
set_option linter.unusedVariables false
def gw (l:List aP) (c:Int) (i:Nat):List aP:=(List.range l.length).map fun j=>if j<i then j9 (l.getD j kz) c else l.getD j kz
def mW (l:List aP) (c:Int):Nat→Nat
 | 0=>0
 | i+1=>mW l c i+ou (l.getD i kz) c
theorem k8 (l:List aP) (c:Int) (i:Nat):(gw l c i).length=l.length:=by simp [gw]
theorem vp (l:List aP) (c:Int) (i j:Nat) (hj:j<l.length):(gw l c i)[j]? = some (if j<i then j9 (l.getD j kz) c else l.getD j kz):=by
 unfold gw
 rw [List.getElem?_map,List.getElem?_range hj]; rfl
theorem akj (l:List aP) (c:Int):gw l c 0=l:=by
 refine List.ext_getElem? fun j=>?_
 rcases Nat.lt_or_ge j l.length with h | h
 ·rw [vp l c 0 j h,if_neg (by omega),List.getD_eq_getElem?_getD,List.getElem?_eq_getElem h]; rfl
 ·rw [List.getElem?_eq_none (by rw [k8]; exact h),List.getElem?_eq_none h]
theorem XM (l:List aP) (c:Int) (i:Nat) (hi:i<l.length):(gw l c i).set i (j9 (l.getD i kz) c)=gw l c (i+1):=by
 refine List.ext_getElem? fun j=>?_
 rw [List.getElem?_set]
 rcases Nat.lt_or_ge j l.length with h | h
 ·rw [vp l c (i+1) j h]
  by_cases e:i=j
  ·subst e
   rw [if_pos rfl,if_pos (by rw [k8]; exact hi),if_pos (by omega)]
  ·rw [if_neg e,vp l c i j h]
   by_cases h2:j<i
   ·rw [if_pos h2,if_pos (by omega)]
   ·rw [if_neg h2,if_neg (by omega)]
 ·rw [if_neg (by omega),List.getElem?_eq_none (by rw [k8]; exact h),List.getElem?_eq_none (by rw [k8]; exact h)]
theorem ZK (k:aP) (c:Int):ou k c≤k.aH.length:=by
 unfold ou o8
 split
 ·exact List.countP_le_length
 ·exact Nat.zero_le _
theorem R4 {t:aR} (hs:t.small) (c:Int):∀ i,i≤t.keys.length→mW t.keys c i≤i * 1000
 | 0,_=>Nat.le_refl 0
 | i+1,h=>by
  have:=R4 hs c i (by omega)
  have h2:=ZK (t.keys.getD i kz) c
  have h3:=vo hs (i:=i) (by omega)
  show mW t.keys c i+ou (t.keys.getD i kz) c≤_
  omega
def kQ (t:aR) (c:Int):Int:=if fE t=true then (if t.clock≤c∧c≤1099511627776 then 0 else 2) else 2
def Dh (t:aR) (c:Int):aR:={ t with clock:=c,keys:=gw t.keys c t.keys.length }
def jh (t:aR) (c:Int):aR:=if kQ t c=0 then Dh t c else gM
def oM (t:aR) (c:Int):Int:=if kQ t c=0 then (mW t.keys c t.keys.length:Int) else 0
def Tkd (w w':World) (v:Value) (T:aR) (m c:Int):Prop:=
 ∃ s ys zs fp fq er,v=.tuple ⟨[.agg ⟨T.cs s⟩,.int .i64 m,er]⟩∧ak w [] w' (jm s T ys zs fp fq ++ [aD.err er c])
theorem DH (s:dZ) (t:aR) (c:Int) (hs:t.small) (w:World) (hx:gC w s t) :
  Ok Pr yL [.agg ⟨t.cs s⟩,.int .i64 c] w fun v w'=>Tkd w w' v (jh t c) (oM t c) (kQ t c):=by
 refine aeW ?_
 unfold OB
 rw [tH,pM]
 have hC:kQ t c=if fE t=true then (if t.clock≤c∧c≤1099511627776 then 0 else 2) else 2:=rfl
 have hT:jh t c=if kQ t c=0 then Dh t c else gM:=rfl
 have hM:oM t c=if kQ t c=0 then (mW t.keys c t.keys.length:Int) else 0:=rfl
 generalize kQ t c=C at *
 generalize jh t c=T at *
 generalize oM t c=M at *
 have wE:=hs.key
 refine (ak.start w).nw fun p w1 H _=>H.nw fun p1 w2 H _=>?_
 have H:ak w [] w2 [.av p (t.cs s) aN,.av p1 (gM.cs sZ) aN]:=H
 refine H.bD 0 rfl (aB (VG s t hs _ (hx.aG H.mod)) ?_)
 rintro _ w3 ⟨rfl,m3⟩
 have H:=H.frame m3
 refine bz (H.an 0 rfl (au p 0) rfl ?_)
 have Sq:((!fE t || decide (c<t.clock)) || decide ((1099511627776:Int)<c))=!(decide (C=0)):=by
  rw [hC]
  cases fE t with
  | false=>rfl
  | true=>
   by_cases h1:c<t.clock
   ·rw [if_pos rfl,if_neg (by omega),decide_eq_true h1]; rfl
   ·rw [if_pos rfl,decide_eq_false h1]
    by_cases h2:(1099511627776:Int)<c
    ·rw [if_neg (by omega),decide_eq_true h2]; rfl
    ·rw [if_pos (by omega),decide_eq_false h2]; rfl
 show aA ((!fE t || decide (c<t.clock)) || decide ((1099511627776:Int)<c)) _ _
 rw [Sq]
 by_cases h0:C=0
 case neg=>
  rw [if_neg h0] at hT hM
  subst hT hM
  have J6:C=2:=by
   rw [hC] at h0 ⊢
   split
   ·split
    ·rename_i h1 h2; rw [if_pos h1,if_pos h2] at h0; exact absurd rfl h0
    ·rfl
   ·rfl
  refine ite_true (by rw [decide_eq_false h0]; rfl) (aB (AU 2 (by decide) w3) ?_)
  rintro er w4 ⟨he,m4⟩
  have K:=H.gH m4 he
  refine K.bE 1 rfl rfl fun w5 K=>K.bD 1 rfl ⟨sZ,[],[],[],[],er,rfl,?_⟩
  rw [J6]
  exact (Rp K).cR (L':=jm sZ gM [] [] [] [] ++ [aD.err er 2]) [3,4,5,6,7,8,9,2] (by decide) rfl
 rw [if_pos h0] at hT hM
 subst hT hM
 refine ite_false (by rw [decide_eq_true h0]; rfl) (H.bD 0 rfl (aB (NA s t hs _ (hx.aG H.mod)) ?_))
 rintro _ w6 ⟨s',ys,zs,fp,fq,rfl,G⟩
 have H:=H.join G
 refine iu (H.bE 0 rfl rfl fun w7 H=>H.st 0 rfl (au p 0) (by show 0<6; omega) rfl fun w8 H=>?_)
 have uI:=(H.fJ 7 rfl).len
 rw [iQ aP.cz _ _ (H.box 8 rfl:bn fG _ zs t.keys).1] at uI
 refine H.ax 0 rfl (au p 4) rfl ?_
 refine k7 0 t.keys.length (fun i (m:Int) w'=>m=(mW t.keys c i:Int)∧∃ zs fq,ak w [] w' [.av p ((Dh t c).cs s') aN,.av p1 (gM.cs sZ) aN,.row aX 1 s'.sec (bp t.bG),.row dh 3 s'.ten (fQ t.bP),.row cB 6 s'.gr (dK t.br),.row eu 5 s'.aE (bh ct.cs t.aE ys),.box fp fun w=>bn gB w ys t.aE,.row aV 4 s'.key (bh aP.cs (gw t.keys c i) zs),.box fq fun w=>bn fG w zs (gw t.keys c i)]) rfl (by omega) ⟨rfl,zs,fq,by rw [akj]; exact H⟩ ?_ ?_
 ·rintro again i m w9 _ hi ⟨rfl,zs,fq,K⟩ aM
  have mT:(gw t.keys c i)[i]? = some (t.keys.getD i kz):=by rw [vp _ _ _ _ hi,if_neg (by omega)]
  have hE:bn fG w9 zs (gw t.keys c i):=K.box 8 rfl
  have qo:zs.length=t.keys.length:=by rw [hE.1,k8]
  have dA:zs[i]? = some (zs[i]'(by omega)):=List.getElem?_eq_getElem _
  generalize zs[i]'(by omega)=x at dA
  have hsw:=R4 hs c i (by omega)
  have dU:=ZK (t.keys.getD i kz) c
  have ux:=vo hs hi
  have yH:∀ (j:Nat) (v:Value),((t.keys.getD i kz).cs x)[j]? = some v→w9.cell? (Addr.add (Addr.add (base s'.key.a) (Int.toNat (i:Int) * 4)) j)=some v:=fun j v hv=>by
   rw [Int.toNat_natCast]
   exact (K.fJ 7 rfl).vw aP.cz mT dA hv
  have dw:s'.key.a.isSome=true∧(0:Int)≤(i:Int)∧(i:Int)<(s'.key.n:Int):=⟨(K.fJ 7 rfl).pre (by omega),by omega,by omega⟩
  refine ite_true (decide_eq_true (by omega)) ⟨dw,qF yH (K.nw fun p2 cM K _=>K.cF 9 rfl rfl fun cZ K=>K.bA 9 rfl ?_)⟩
  have hE:bn fG cZ zs (gw t.keys c i):=K.box 8 rfl
  refine aB (agA (t.keys.getD i kz) x c (by omega) cZ (hE.2 i x _ dA mT).aH) ?_
  rintro _ fV ⟨y,rfl,hy⟩
  obtain ⟨f,K⟩:=K.iy hy
  refine ⟨_,rfl,oA ⟨_,rfl,rfl,K.nw fun p3 fO K _=>K.cF 11 rfl rfl fun gu K=>K.ax 0 rfl (au p 4) rfl (K.bA 11 rfl ⟨dw,?_⟩)⟩⟩
  refine K.putAt 7 rfl aP.cz (by rw [qo,k8]) (by rw [k8]; exact hi) (j9 (t.keys.getD i kz) c) y (aP.l7 _ y) fun kJ K=>⟨by unfold aF; omega,by unfold aF; omega,?_⟩
  rw [XM _ _ _ hi] at K
  refine aM _ _ ⟨by show _=((mW t.keys c i+ou (t.keys.getD i kz) c:Nat):Int); omega,zs.set i y,fq ++ f,?_⟩
  have K:=K.merge 8 10 (t:=.box (fq ++ f) fun w=>bn fG w (zs.set i y) (gw t.keys c (i+1))) rfl rfl (by omega) (fun h1 h2=>?_) (fun b hb=>List.mem_append.1 hb)
  ·exact K.take 9
  ·refine ⟨fun b hb=>?_,fun w2 h3=>?_⟩
   ·rcases List.mem_append.1 hb with h | h
    ·exact h1.1 b h
    ·exact h2.1 b h
   ·have:=bn.put (i:=i) (h1.2 w2 fun b hb=>h3 b (List.mem_append_left _ hb)) (h2.2 w2 fun b hb=>h3 b (List.mem_append_right _ hb):fG w2 y (j9 (t.keys.getD i kz) c))
    rwa [XM _ _ _ hi] at this
 ·rintro again m w9 ⟨rfl,zs,fq,K⟩
  refine ite_false (decide_eq_false (by omega)) (K.bD 0 rfl (K.bE 1 rfl rfl fun mO K=>K.bD 1 rfl ⟨s',ys,zs,fp,fq,.nilIface,rfl,?_⟩))
  rw [h0]
  exact (ak.ZJ K).drop 2
end Go.Proofs.YtgjoehgomjgckaaGreatDoor
end
section
set_option linter.unusedVariables false
set_option linter.unusedSimpArgs false
namespace Go.Proofs.YtgjoehgomjgckaaGreatDoor
open Go Go.Ev
set_option maxRecDepth 100000
set_option linter.unusedVariables false
def Lq (dy:ah) (a:Int) (b:Int) (w:World) (R:Value→World→Prop):Prop:=
 ay Pr MO [.slice dy.a dy.n dy.c,.int .i64 6] w fun c d=>
 aW c fun e=>
 aA e
 (ay Pr DD [] d fun f g=>
 aW f fun i=>
 R (.bool i) g)
 (ay Pr uR [] d fun j k=>
 dB j fun l m n o p q=>
 nw aN (zc Pr aN) k fun s t=>
 bE s l m n o p q t fun u=>
 cX (fun (v:Int)=>[(8,some (.int .i64 v))])
 (fun x v y=>aA (decide (v<(dy.n:Int)))
 (tQ (fun (z:Addr) (B:Value)=>[(9,some (.pointer (some z))),(11,some (B))])
 (fun z B C=>fm B fun D=>
 aA D
 (bD z C fun E F G I J L=>
 bE s E F G I J L C fun M=>
 (aF (v+1)∧
 x (v+1) M))
 ((aF (v+1)∧
 x (v+1) C)))
 (fun N=>
 bD s (World.drew y) fun O Q S T U V=>
 aQ dy.a v dy.n
 (jH (Addr.add (Addr.add (base dy.a) (Int.toNat v * 16)) 0) (World.drew y) fun X Y Z aa ba ca da ea fa ga ia ja ka la=>
 aQ dy.a v dy.n
 (ax (Addr.add (Addr.add (base dy.a) (Int.toNat v * 16)) 14) (World.drew y) fun ma=>
 ((ay Pr gV [.agg ⟨[.int .i64 O,.slice Q.a Q.n Q.c,.slice S.a S.n S.c,.slice T.a T.n T.c,.slice U.a U.n U.c,.slice V.a V.n V.c]⟩,.agg ⟨[.int .i64 X,.int .i64 Y,.int .i64 Z,.int .i64 aa,.int .i64 ba,.int .i64 ca,.int .i64 da,.int .i64 ea,.int .i64 fa,.int .i64 ga,.int .i64 ia,.string ja,.slice ka.a ka.n ka.c,.slice la.a la.n la.c]⟩,.slice ma.a ma.n ma.c] (World.drew y) fun na oa=>
 bw.bC na fun pa=>
 aC pa fun qa sa=>
 dB qa fun ta ua va xa ya za=>
 aC sa fun Aa Ba=>
 fR Aa fun Ca Da Ea Fa=>
 aC Ba fun Ga Ia=>
 (Ia=[]∧
 ((nw aN (zc Pr aN) oa fun Ja La=>
 (kept (Addr.add (Addr.add (base dy.a) (Int.toNat v * 16)) 14) 1 oa La∧
 (kept (Addr.add (Addr.add (base dy.a) (Int.toNat v * 16)) 0) 14 oa La∧
 (kept s 6 oa La∧
 nw bI (zc Pr bI) La fun Ma Na=>
 (kept (Addr.add (Addr.add (base dy.a) (Int.toNat v * 16)) 14) 1 La Na∧
 (kept (Addr.add (Addr.add (base dy.a) (Int.toNat v * 16)) 0) 14 La Na∧
 (kept s 6 La Na∧
 bE Ja ta ua va xa ya za Na fun Oa=>
 bN Ma Ca Da Ea Fa Oa fun Qa=>
 N Ja Ga Qa)))))))∧
 (nw bI (zc Pr bI) oa fun Sa Ta=>
 (kept (Addr.add (Addr.add (base dy.a) (Int.toNat v * 16)) 14) 1 oa Ta∧
 (kept (Addr.add (Addr.add (base dy.a) (Int.toNat v * 16)) 0) 14 oa Ta∧
 (kept s 6 oa Ta∧
 nw aN (zc Pr aN) Ta fun Ua Va=>
 (kept (Addr.add (Addr.add (base dy.a) (Int.toNat v * 16)) 14) 1 Ta Va∧
 (kept (Addr.add (Addr.add (base dy.a) (Int.toNat v * 16)) 0) 14 Ta Va∧
 (kept s 6 Ta Va∧
 bE Ua ta ua va xa ya za Va fun Xa=>
 bN Sa Ca Da Ea Fa Xa fun Ya=>
 N Ua Ga Ya))))))))))∧
 (((nw aN (zc Pr aN) (World.drew y) fun Za ab=>
 (kept (Addr.add (Addr.add (base dy.a) (Int.toNat v * 16)) 14) 1 (World.drew y) ab∧
 (kept (Addr.add (Addr.add (base dy.a) (Int.toNat v * 16)) 0) 14 (World.drew y) ab∧
 (kept s 6 (World.drew y) ab∧
 ((ay Pr gV [.agg ⟨[.int .i64 O,.slice Q.a Q.n Q.c,.slice S.a S.n S.c,.slice T.a T.n T.c,.slice U.a U.n U.c,.slice V.a V.n V.c]⟩,.agg ⟨[.int .i64 X,.int .i64 Y,.int .i64 Z,.int .i64 aa,.int .i64 ba,.int .i64 ca,.int .i64 da,.int .i64 ea,.int .i64 fa,.int .i64 ga,.int .i64 ia,.string ja,.slice ka.a ka.n ka.c,.slice la.a la.n la.c]⟩,.slice ma.a ma.n ma.c] ab fun bb cb=>
 bw.bC bb fun db=>
 aC db fun eb fb=>
 dB eb fun gb ib jb kb lb mb=>
 aC fb fun nb ob=>
 fR nb fun pb qb sb tb=>
 aC ob fun ub vb=>
 (vb=[]∧
 nw bI (zc Pr bI) cb fun xb yb=>
 (kept (Addr.add (Addr.add (base dy.a) (Int.toNat v * 16)) 14) 1 cb yb∧
 (kept (Addr.add (Addr.add (base dy.a) (Int.toNat v * 16)) 0) 14 cb yb∧
 (kept s 6 cb yb∧
 bE Za gb ib jb kb lb mb yb fun zb=>
 bN xb pb qb sb tb zb fun Ab=>
 N Za ub Ab)))))∧
 (nw bI (zc Pr bI) ab fun Bb Cb=>
 (kept (Addr.add (Addr.add (base dy.a) (Int.toNat v * 16)) 14) 1 ab Cb∧
 (kept (Addr.add (Addr.add (base dy.a) (Int.toNat v * 16)) 0) 14 ab Cb∧
 (kept s 6 ab Cb∧
 ay Pr gV [.agg ⟨[.int .i64 O,.slice Q.a Q.n Q.c,.slice S.a S.n S.c,.slice T.a T.n T.c,.slice U.a U.n U.c,.slice V.a V.n V.c]⟩,.agg ⟨[.int .i64 X,.int .i64 Y,.int .i64 Z,.int .i64 aa,.int .i64 ba,.int .i64 ca,.int .i64 da,.int .i64 ea,.int .i64 fa,.int .i64 ga,.int .i64 ia,.string ja,.slice ka.a ka.n ka.c,.slice la.a la.n la.c]⟩,.slice ma.a ma.n ma.c] Cb fun Db Eb=>
 bw.bC Db fun Fb=>
 aC Fb fun Gb Ib=>
 dB Gb fun Jb Lb Mb Nb Ob Qb=>
 aC Ib fun Sb Tb=>
 fR Sb fun Ub Vb Xb Yb=>
 aC Tb fun Zb ac=>
 (ac=[]∧
 bE Za Jb Lb Mb Nb Ob Qb Eb fun bc=>
 bN Bb Ub Vb Xb Yb bc fun cc=>
 N Za Zb cc))))))))))∧
 (nw bI (zc Pr bI) (World.drew y) fun dc ec=>
 (kept (Addr.add (Addr.add (base dy.a) (Int.toNat v * 16)) 14) 1 (World.drew y) ec∧
 (kept (Addr.add (Addr.add (base dy.a) (Int.toNat v * 16)) 0) 14 (World.drew y) ec∧
 (kept s 6 (World.drew y) ec∧
 ((ay Pr gV [.agg ⟨[.int .i64 O,.slice Q.a Q.n Q.c,.slice S.a S.n S.c,.slice T.a T.n T.c,.slice U.a U.n U.c,.slice V.a V.n V.c]⟩,.agg ⟨[.int .i64 X,.int .i64 Y,.int .i64 Z,.int .i64 aa,.int .i64 ba,.int .i64 ca,.int .i64 da,.int .i64 ea,.int .i64 fa,.int .i64 ga,.int .i64 ia,.string ja,.slice ka.a ka.n ka.c,.slice la.a la.n la.c]⟩,.slice ma.a ma.n ma.c] ec fun fc gc=>
 bw.bC fc fun ic=>
 aC ic fun jc kc=>
 dB jc fun lc mc nc oc pc qc=>
 aC kc fun sc tc=>
 fR sc fun uc vc xc yc=>
 aC tc fun Ac Bc=>
 (Bc=[]∧
 nw aN (zc Pr aN) gc fun Cc Dc=>
 (kept (Addr.add (Addr.add (base dy.a) (Int.toNat v * 16)) 14) 1 gc Dc∧
 (kept (Addr.add (Addr.add (base dy.a) (Int.toNat v * 16)) 0) 14 gc Dc∧
 (kept s 6 gc Dc∧
 bE Cc lc mc nc oc pc qc Dc fun Ec=>
 bN dc uc vc xc yc Ec fun Fc=>
 N Cc Ac Fc)))))∧
 (nw aN (zc Pr aN) ec fun Gc Ic=>
 (kept (Addr.add (Addr.add (base dy.a) (Int.toNat v * 16)) 14) 1 ec Ic∧
 (kept (Addr.add (Addr.add (base dy.a) (Int.toNat v * 16)) 0) 14 ec Ic∧
 (kept s 6 ec Ic∧
 ay Pr gV [.agg ⟨[.int .i64 O,.slice Q.a Q.n Q.c,.slice S.a S.n S.c,.slice T.a T.n T.c,.slice U.a U.n U.c,.slice V.a V.n V.c]⟩,.agg ⟨[.int .i64 X,.int .i64 Y,.int .i64 Z,.int .i64 aa,.int .i64 ba,.int .i64 ca,.int .i64 da,.int .i64 ea,.int .i64 fa,.int .i64 ga,.int .i64 ia,.string ja,.slice ka.a ka.n ka.c,.slice la.a la.n la.c]⟩,.slice ma.a ma.n ma.c] Ic fun Jc Lc=>
 bw.bC Jc fun Mc=>
 aC Mc fun Nc Oc=>
 dB Nc fun Qc Sc Tc Uc Vc Xc=>
 aC Oc fun Yc Zc=>
 fR Yc fun bd cd dd ed=>
 aC Zc fun fd gd=>
 (gd=[]∧
 bE Gc Qc Sc Tc Uc Vc Xc Lc fun jd=>
 bN dc bd cd dd ed jd fun kd=>
 N Gc fd kd)))))))))))))))))
 (ay Pr HI [.int .i64 a,.int .i64 100] y fun ld md=>
 aY .i64 ld fun nd=>
 ay Pr HI [.int .i64 b,.int .i64 100] md fun od pd=>
 aY .i64 od fun qd=>
 bD s pd fun sd td ud vd xd yd=>
 ay Pr yL [.agg ⟨[.int .i64 sd,.slice td.a td.n td.c,.slice ud.a ud.n ud.c,.slice vd.a vd.n vd.c,.slice xd.a xd.n xd.c,.slice yd.a yd.n yd.c]⟩,.int .i64 (min nd qd)] pd fun zd Ad=>
 bw.bC zd fun Bd=>
 aC Bd fun Cd Dd=>
 dB Cd fun Ed Fd Gd Id Jd Ld=>
 aC Dd fun Md Od=>
 aY .i64 Md fun Qd=>
 aC Od fun Sd Td=>
 (Td=[]∧
 nw aN (zc Pr aN) Ad fun Ud Vd=>
 bE Ud Ed Fd Gd Id Jd Ld Vd fun Xd=>
 bD Ud Xd fun Yd Zd ae be ce de=>
 ay Pr yL [.agg ⟨[.int .i64 Yd,.slice Zd.a Zd.n Zd.c,.slice ae.a ae.n ae.c,.slice be.a be.n be.c,.slice ce.a ce.n ce.c,.slice de.a de.n de.c]⟩,.int .i64 (max nd qd)] Xd fun ee fe=>
 bw.bC ee fun ge=>
 aC ge fun ie je=>
 dB ie fun ke le me ne oe pe=>
 aC je fun qe se=>
 aY .i64 qe fun te=>
 aC se fun ue ve=>
 (ve=[]∧
 nw aN (zc Pr aN) fe fun xe ye=>
 bE xe ke le me ne oe pe ye fun ze=>
 bD s ze fun Ae Be Ce De Ee Fe=>
 ay Pr yL [.agg ⟨[.int .i64 Ae,.slice Be.a Be.n Be.c,.slice Ce.a Ce.n Ce.c,.slice De.a De.n De.c,.slice Ee.a Ee.n Ee.c,.slice Fe.a Fe.n Fe.c]⟩,.int .i64 (max nd qd)] ze fun Ge Ie=>
 bw.bC Ge fun Je=>
 aC Je fun Le Me=>
 dB Le fun Oe Qe Se Te Ue Ve=>
 aC Me fun Xe Ye=>
 aY .i64 Xe fun Ze=>
 aC Ye fun af bf=>
 (bf=[]∧
 nw aN (zc Pr aN) Ie fun cf df=>
 bE cf Oe Qe Se Te Ue Ve df fun ef=>
 jL []
 (fun ff=>bD cf ff fun gf jf kf lf mf nf=>
 (aF ((max nd qd) - 1)∧
 ay Pr yL [.agg ⟨[.int .i64 gf,.slice jf.a jf.n jf.c,.slice kf.a kf.n kf.c,.slice lf.a lf.n lf.c,.slice mf.a mf.n mf.c,.slice nf.a nf.n nf.c]⟩,.int .i64 ((max nd qd) - 1)] ff fun pf qf=>
 bw.bC pf fun sf=>
 aC sf fun tf uf=>
 dB tf fun vf xf yf zf Af Bf=>
 aC uf fun Cf Df=>
 aY .i64 Cf fun Ef=>
 aC Df fun Ff Gf=>
 (Gf=[]∧
 nw aN (zc Pr aN) qf fun If Jf=>
 bE If vf xf yf zf Af Bf Jf fun Lf=>
 cX (fun (Mf:Int)=>[(26,some (.int .i64 Mf))])
 (fun Nf Mf Of=>ax (Addr.add s 4) Of fun Qf=>
 ax (Addr.add cf 4) Of fun Sf=>
 aA ((decide (Mf<(Qf.n:Int))) && (decide (Mf<(Sf.n:Int))))
 (cX (fun (Tf:Int)=>[(27,some (.int .i64 Tf))])
 (fun Uf Tf Vf=>jL []
 (fun Xf=>tQ (fun (Yf:Addr) (Zf:Addr)=>[(28,some (.pointer (some Yf))),(29,some (.pointer (some Zf)))])
 (fun Yf Zf ag=>an .i64 (Addr.add Yf 1) ag fun bg=>
 an .i64 (Addr.add Yf 2) ag fun cg=>
 lt (A:=Bool) ((decide (bg=3)) && (decide (cg≤max nd qd))) fun dg=>
 an .i64 (Addr.add Zf 1) ag fun eg=>
 an .i64 (Addr.add Yf 1) ag fun fg=>
 gE Yf ag fun gg ig jg kg=>
 gE Zf ag fun lg mg ng og=>
 aA (!(dg == ((decide (eg=4)) && (!decide (fg=4)))))
 (R (.bool false) ag)
 (aA (!dg)
 (ay Pr GM [.agg ⟨[.int .i64 gg,.int .i64 ig,.int .i64 jg,.slice kg.a kg.n kg.c]⟩,.agg ⟨[.int .i64 lg,.int .i64 mg,.int .i64 ng,.slice og.a og.n og.c]⟩] ag fun pg qg=>
 aW pg fun sg=>
 aA (!sg)
 (R (.bool false) qg)
 ((aF (Tf+1)∧
 Uf (Tf+1) qg)))
 ((aF (Tf+1)∧
 Uf (Tf+1) ag))))
 (fun tg=>
 ax (Addr.add s 4) (World.drew Xf) fun ug=>
 aQ ug.a Mf ug.n
 (ax (Addr.add (Addr.add (base ug.a) (Int.toNat Mf * 4)) 3) (World.drew Xf) fun vg=>
 aQ vg.a Tf vg.n
 (gE (Addr.add (base vg.a) (Int.toNat Tf * 4)) (World.drew Xf) fun xg yg zg Ag=>
 ax (Addr.add cf 4) (World.drew Xf) fun Bg=>
 aQ Bg.a Mf Bg.n
 (ax (Addr.add (Addr.add (base Bg.a) (Int.toNat Mf * 4)) 3) (World.drew Xf) fun Cg=>
 aQ Cg.a Tf Cg.n
 (gE (Addr.add (base Cg.a) (Int.toNat Tf * 4)) (World.drew Xf) fun Dg Eg Fg Gg=>
 ((nw cw (zc Pr cw) (World.drew Xf) fun Ig Jg=>
 (kept (Addr.add (base Cg.a) (Int.toNat Tf * 4)) 4 (World.drew Xf) Jg∧
 (kept (Addr.add (Addr.add (base Bg.a) (Int.toNat Mf * 4)) 3) 1 (World.drew Xf) Jg∧
 (kept (Addr.add cf 4) 1 (World.drew Xf) Jg∧
 (kept (Addr.add (base vg.a) (Int.toNat Tf * 4)) 4 (World.drew Xf) Jg∧
 (kept (Addr.add (Addr.add (base ug.a) (Int.toNat Mf * 4)) 3) 1 (World.drew Xf) Jg∧
 (kept (Addr.add s 4) 1 (World.drew Xf) Jg∧
 nw cw (zc Pr cw) Jg fun Lg Mg=>
 (kept (Addr.add (base Cg.a) (Int.toNat Tf * 4)) 4 Jg Mg∧
 (kept (Addr.add (Addr.add (base Bg.a) (Int.toNat Mf * 4)) 3) 1 Jg Mg∧
 (kept (Addr.add cf 4) 1 Jg Mg∧
 (kept (Addr.add (base vg.a) (Int.toNat Tf * 4)) 4 Jg Mg∧
 (kept (Addr.add (Addr.add (base ug.a) (Int.toNat Mf * 4)) 3) 1 Jg Mg∧
 (kept (Addr.add s 4) 1 Jg Mg∧
 fz Ig xg yg zg Ag Mg fun Ng=>
 (kept (Addr.add (base Cg.a) (Int.toNat Tf * 4)) 4 Mg Ng∧
 (kept (Addr.add (Addr.add (base Bg.a) (Int.toNat Mf * 4)) 3) 1 Mg Ng∧
 (kept (Addr.add cf 4) 1 Mg Ng∧
 fz Lg Dg Eg Fg Gg Ng fun Og=>
 tg Ig Lg Og))))))))))))))))∧
 (nw cw (zc Pr cw) (World.drew Xf) fun Qg Sg=>
 (kept (Addr.add (base Cg.a) (Int.toNat Tf * 4)) 4 (World.drew Xf) Sg∧
 (kept (Addr.add (Addr.add (base Bg.a) (Int.toNat Mf * 4)) 3) 1 (World.drew Xf) Sg∧
 (kept (Addr.add cf 4) 1 (World.drew Xf) Sg∧
 (kept (Addr.add (base vg.a) (Int.toNat Tf * 4)) 4 (World.drew Xf) Sg∧
 (kept (Addr.add (Addr.add (base ug.a) (Int.toNat Mf * 4)) 3) 1 (World.drew Xf) Sg∧
 (kept (Addr.add s 4) 1 (World.drew Xf) Sg∧
 nw cw (zc Pr cw) Sg fun Tg Ug=>
 (kept (Addr.add (base Cg.a) (Int.toNat Tf * 4)) 4 Sg Ug∧
 (kept (Addr.add (Addr.add (base Bg.a) (Int.toNat Mf * 4)) 3) 1 Sg Ug∧
 (kept (Addr.add cf 4) 1 Sg Ug∧
 (kept (Addr.add (base vg.a) (Int.toNat Tf * 4)) 4 Sg Ug∧
 (kept (Addr.add (Addr.add (base ug.a) (Int.toNat Mf * 4)) 3) 1 Sg Ug∧
 (kept (Addr.add s 4) 1 Sg Ug∧
 fz Tg xg yg zg Ag Ug fun Vg=>
 (kept (Addr.add (base Cg.a) (Int.toNat Tf * 4)) 4 Ug Vg∧
 (kept (Addr.add (Addr.add (base Bg.a) (Int.toNat Mf * 4)) 3) 1 Ug Vg∧
 (kept (Addr.add cf 4) 1 Ug Vg∧
 fz Qg Dg Eg Fg Gg Vg fun Xg=>
 tg Tg Qg Xg)))))))))))))))))))))))
 (fun Yg=>
 ax (Addr.add s 4) Vf fun Zg=>
 aQ Zg.a Mf Zg.n
 (ax (Addr.add (Addr.add (base Zg.a) (Int.toNat Mf * 4)) 3) Vf fun ai=>
 ax (Addr.add cf 4) Vf fun bi=>
 aA (decide (Tf<(ai.n:Int)))
 (aQ bi.a Mf bi.n
 (ax (Addr.add (Addr.add (base bi.a) (Int.toNat Mf * 4)) 3) Vf fun ci=>
 aA (decide (Tf<(ci.n:Int)))
 (Yg Vf)
 ((aF (Mf+1)∧
 Nf (Mf+1) Vf))))
 ((aF (Mf+1)∧
 Nf (Mf+1) Vf)))))
 0 Of)
 (ay Pr Bq [Ff] Of fun di ei=>
 aY .i64 di fun fi=>
 aA (decide (fi=2))
 (ay Pr DD [] ei fun gi ii=>
 aW gi fun ji=>
 R (.bool ji) ii)
 (R (.bool false) ei)))
 0 Lf)))
 (fun ki=>
 fm Sd fun li=>
 aA (!li)
 (bD xe ef fun mi ni oi pi qi si=>
 bD cf ef fun ti ui vi xi yi zi=>
 R (.bool false) ef)
 (fm ue fun Ai=>
 aA (!Ai)
 (bD xe ef fun Bi Ci Di Ei Fi Gi=>
 bD cf ef fun Ii Ji Li Mi Ni Oi=>
 R (.bool false) ef)
 (fm af fun Qi=>
 bD xe ef fun Si Ti Ui Vi Xi Yi=>
 bD cf ef fun Zi aj bj cj dj ej=>
 aA ((!Qi) || (!decide (IntKind.wrap .i64 (Qd+te)=Ze)))
 (R (.bool false) ef)
 (ay Pr LD [.agg ⟨[.int .i64 Si,.slice Ti.a Ti.n Ti.c,.slice Ui.a Ui.n Ui.c,.slice Vi.a Vi.n Vi.c,.slice Xi.a Xi.n Xi.c,.slice Yi.a Yi.n Yi.c]⟩,.agg ⟨[.int .i64 Zi,.slice aj.a aj.n aj.c,.slice bj.a bj.n bj.c,.slice cj.a cj.n cj.c,.slice dj.a dj.n dj.c,.slice ej.a ej.n ej.c]⟩] ef fun fj gj=>
 aW fj fun ij=>
 aA (!ij)
 (R (.bool false) gj)
 (ki gj))))))))))
 0 u)
theorem acy {dy:ah} {a:Int} {b:Int} {w:World} {R:Value→World→Prop} (h:Lq dy a b w R):Ok Pr UE [.slice dy.a dy.n dy.c,.int .i64 a,.int .i64 b] w R:=
 aL (m:=⟨true,true⟩) (J:=[(8,[(9,.x6),(11,.val)]),(17,[]),(24,[]),(25,[(28,.x6),(29,.x6)])]) (L:=[(5,[(8,.int .i64)]),(19,[(26,.int .i64)]),(22,[(27,.int .i64)])]) aJ Tryz.func4 (by kernel_rfl) ((by kernel_rfl:aK Pr _ _ _ Tryz.f4 _ w R=Lq dy a b w R).mpr h)
def NF (dy:ah) (oV:Int) (w:World) (R:Value→World→Prop):Prop:=
 cX (fun (a:Int)=>[(5,some (.int .i64 a))])
 (fun b a c=>aA ((decide (a<(dy.n:Int))) && (decide ((dy.n:Int)≤oV)))
 (aQ dy.a a dy.n
 (jH (Addr.add (Addr.add (base dy.a) (Int.toNat a * 16)) 0) c fun d e f g i j k l m n o p q s=>
 ay Pr LP [.agg ⟨[.int .i64 d,.int .i64 e,.int .i64 f,.int .i64 g,.int .i64 i,.int .i64 j,.int .i64 k,.int .i64 l,.int .i64 m,.int .i64 n,.int .i64 o,.string p,.slice q.a q.n q.c,.slice s.a s.n s.c]⟩] c fun t u=>
 aW t fun v=>
 aA v
 (R (.bool true) u)
 (aQ dy.a a dy.n
 (ax (Addr.add (Addr.add (base dy.a) (Int.toNat a * 16)) 14) u fun x=>
 aA (decide (100<(x.n:Int)))
 (R (.bool true) u)
 ((aF (a+1)∧
 b (a+1) u))))))
 (R (.bool (decide (oV<(dy.n:Int)))) c))
 0 w
theorem ael {dy:ah} {oV:Int} {w:World} {R:Value→World→Prop} (h:NF dy oV w R):Ok Pr MO [.slice dy.a dy.n dy.c,.int .i64 oV] w R:=
 aL (m:=⟨true,true⟩) (J:=[]) (L:=[(2,[(5,.int .i64)])]) aJ Tryz.func8 (by kernel_rfl) ((by kernel_rfl:aK Pr _ _ _ Tryz.f8 _ w R=NF dy oV w R).mpr h)
def NG (w:World) (R:Value→World→Prop):Prop:=
 nw k6 (zc Pr k6) w fun a b=>
 HQ a 1 1 1 1 0 0 0 0 0 0 0 S_a ⟨none,0,0⟩ ⟨none,0,0⟩ b fun c=>
 ZS (fun (d:Addr) (e:Addr) (f:Value)=>[(2,some (.pointer (some d))),(3,some (.pointer (some e))),(4,some (f))])
 (fun d e f g=>bD d g fun i j k l m n=>
 jH a g fun o p q s t u v x y z A B C D=>
 ay Pr gV [.agg ⟨[.int .i64 i,.slice j.a j.n j.c,.slice k.a k.n k.c,.slice l.a l.n l.c,.slice m.a m.n m.c,.slice n.a n.n n.c]⟩,.agg ⟨[.int .i64 o,.int .i64 p,.int .i64 q,.int .i64 s,.int .i64 t,.int .i64 u,.int .i64 v,.int .i64 x,.int .i64 y,.int .i64 z,.int .i64 A,.string B,.slice C.a C.n C.c,.slice D.a D.n D.c]⟩,.slice none 0 0] g fun E F=>
 bw.bC E fun G=>
 aC G fun I J=>
 dB I fun L M N O Q S=>
 aC J fun T U=>
 fR T fun V X Y Z=>
 aC U fun aa ba=>
 (ba=[]∧
 nw aN (zc Pr aN) F fun ca da=>
 nw bI (zc Pr bI) da fun ea fa=>
 bE ca L M N O Q S fa fun ga=>
 bN ea V X Y Z ga fun ia=>
 bD d ia fun ja ka la ma na oa=>
 ay Pr yL [.agg ⟨[.int .i64 ja,.slice ka.a ka.n ka.c,.slice la.a la.n la.c,.slice ma.a ma.n ma.c,.slice na.a na.n na.c,.slice oa.a oa.n oa.c]⟩,.int .i64 9] ia fun pa qa=>
 bw.bC pa fun sa=>
 aC sa fun ta ua=>
 dB ta fun va xa ya za Aa Ba=>
 aC ua fun Ca Da=>
 aY .i64 Ca fun Ea=>
 aC Da fun Fa Ga=>
 (Ga=[]∧
 nw aN (zc Pr aN) qa fun Ia Ja=>
 bE Ia va xa ya za Aa Ba Ja fun La=>
 fm f fun Ma=>
 an .i64 (Addr.add e 1) La fun Na=>
 ax (Addr.add d 2) La fun Oa=>
 aA ((Ma && (decide (Na=2))) && (decide ((Oa.n:Int)=2)))
 (ay Pr Bq [aa] La fun Qa Sa=>
 aY .i64 Qa fun Ta=>
 an .i64 (Addr.add ea 0) Sa fun Ua=>
 aA ((decide (Ta=8)) && (decide (Ua=8)))
 (fm Fa fun Va=>
 an .i64 (Addr.add Ia 0) Sa fun Xa=>
 R (.bool ((Va && (decide (Ea=0))) && (decide (Xa=9)))) Sa)
 (an .i64 (Addr.add Ia 0) Sa fun Ya=>
 R (.bool false) Sa))
 (an .i64 (Addr.add ea 0) La fun Za=>
 an .i64 (Addr.add Ia 0) La fun ab=>
 R (.bool false) La))))
 (fun bb=>
 jH a (World.drew c) fun cb db eb fb gb ib jb kb lb mb nb ob pb qb=>
 ((ay Pr uR [] (World.drew c) fun sb tb=>
 dB sb fun ub vb xb yb zb Ab=>
 (kept a 14 (World.drew c) tb∧
 ((ay Pr gV [.agg ⟨[.int .i64 ub,.slice vb.a vb.n vb.c,.slice xb.a xb.n xb.c,.slice yb.a yb.n yb.c,.slice zb.a zb.n zb.c,.slice Ab.a Ab.n Ab.c]⟩,.agg ⟨[.int .i64 cb,.int .i64 db,.int .i64 eb,.int .i64 fb,.int .i64 gb,.int .i64 ib,.int .i64 jb,.int .i64 kb,.int .i64 lb,.int .i64 mb,.int .i64 nb,.string ob,.slice pb.a pb.n pb.c,.slice qb.a qb.n qb.c]⟩,.slice none 0 0] tb fun Bb Cb=>
 bw.bC Bb fun Db=>
 aC Db fun Eb Fb=>
 dB Eb fun Gb Ib Jb Lb Mb Nb=>
 aC Fb fun Ob Qb=>
 fR Ob fun Sb Tb Ub Vb=>
 aC Qb fun Xb Yb=>
 (Yb=[]∧
 ((nw aN (zc Pr aN) Cb fun Zb ac=>
 (kept a 14 Cb ac∧
 nw bI (zc Pr bI) ac fun bc cc=>
 (kept a 14 ac cc∧
 bE Zb Gb Ib Jb Lb Mb Nb cc fun dc=>
 bN bc Sb Tb Ub Vb dc fun ec=>
 bb Zb bc Xb ec)))∧
 (nw bI (zc Pr bI) Cb fun fc gc=>
 (kept a 14 Cb gc∧
 nw aN (zc Pr aN) gc fun ic jc=>
 (kept a 14 gc jc∧
 bE ic Gb Ib Jb Lb Mb Nb jc fun kc=>
 bN fc Sb Tb Ub Vb kc fun lc=>
 bb ic fc Xb lc))))))∧
 (((nw aN (zc Pr aN) tb fun mc nc=>
 (kept a 14 tb nc∧
 ((ay Pr gV [.agg ⟨[.int .i64 ub,.slice vb.a vb.n vb.c,.slice xb.a xb.n xb.c,.slice yb.a yb.n yb.c,.slice zb.a zb.n zb.c,.slice Ab.a Ab.n Ab.c]⟩,.agg ⟨[.int .i64 cb,.int .i64 db,.int .i64 eb,.int .i64 fb,.int .i64 gb,.int .i64 ib,.int .i64 jb,.int .i64 kb,.int .i64 lb,.int .i64 mb,.int .i64 nb,.string ob,.slice pb.a pb.n pb.c,.slice qb.a qb.n qb.c]⟩,.slice none 0 0] nc fun oc pc=>
 bw.bC oc fun qc=>
 aC qc fun sc tc=>
 dB sc fun uc vc xc yc Ac Bc=>
 aC tc fun Cc Dc=>
 fR Cc fun Ec Fc Gc Ic=>
 aC Dc fun Jc Lc=>
 (Lc=[]∧
 nw bI (zc Pr bI) pc fun Mc Nc=>
 (kept a 14 pc Nc∧
 bE mc uc vc xc yc Ac Bc Nc fun Oc=>
 bN Mc Ec Fc Gc Ic Oc fun Qc=>
 bb mc Mc Jc Qc)))∧
 (nw bI (zc Pr bI) nc fun Sc Tc=>
 (kept a 14 nc Tc∧
 ay Pr gV [.agg ⟨[.int .i64 ub,.slice vb.a vb.n vb.c,.slice xb.a xb.n xb.c,.slice yb.a yb.n yb.c,.slice zb.a zb.n zb.c,.slice Ab.a Ab.n Ab.c]⟩,.agg ⟨[.int .i64 cb,.int .i64 db,.int .i64 eb,.int .i64 fb,.int .i64 gb,.int .i64 ib,.int .i64 jb,.int .i64 kb,.int .i64 lb,.int .i64 mb,.int .i64 nb,.string ob,.slice pb.a pb.n pb.c,.slice qb.a qb.n qb.c]⟩,.slice none 0 0] Tc fun Uc Vc=>
 bw.bC Uc fun Xc=>
 aC Xc fun Yc Zc=>
 dB Yc fun bd cd dd ed fd gd=>
 aC Zc fun jd kd=>
 fR jd fun ld md nd od=>
 aC kd fun pd qd=>
 (qd=[]∧
 bE mc bd cd dd ed fd gd Vc fun sd=>
 bN Sc ld md nd od sd fun td=>
 bb mc Sc pd td))))))∧
 (nw bI (zc Pr bI) tb fun ud vd=>
 (kept a 14 tb vd∧
 ((ay Pr gV [.agg ⟨[.int .i64 ub,.slice vb.a vb.n vb.c,.slice xb.a xb.n xb.c,.slice yb.a yb.n yb.c,.slice zb.a zb.n zb.c,.slice Ab.a Ab.n Ab.c]⟩,.agg ⟨[.int .i64 cb,.int .i64 db,.int .i64 eb,.int .i64 fb,.int .i64 gb,.int .i64 ib,.int .i64 jb,.int .i64 kb,.int .i64 lb,.int .i64 mb,.int .i64 nb,.string ob,.slice pb.a pb.n pb.c,.slice qb.a qb.n qb.c]⟩,.slice none 0 0] vd fun xd yd=>
 bw.bC xd fun zd=>
 aC zd fun Ad Bd=>
 dB Ad fun Cd Dd Ed Fd Gd Id=>
 aC Bd fun Jd Ld=>
 fR Jd fun Md Od Qd Sd=>
 aC Ld fun Td Ud=>
 (Ud=[]∧
 nw aN (zc Pr aN) yd fun Vd Xd=>
 (kept a 14 yd Xd∧
 bE Vd Cd Dd Ed Fd Gd Id Xd fun Yd=>
 bN ud Md Od Qd Sd Yd fun Zd=>
 bb Vd ud Td Zd)))∧
 (nw aN (zc Pr aN) vd fun ae be=>
 (kept a 14 vd be∧
 ay Pr gV [.agg ⟨[.int .i64 ub,.slice vb.a vb.n vb.c,.slice xb.a xb.n xb.c,.slice yb.a yb.n yb.c,.slice zb.a zb.n zb.c,.slice Ab.a Ab.n Ab.c]⟩,.agg ⟨[.int .i64 cb,.int .i64 db,.int .i64 eb,.int .i64 fb,.int .i64 gb,.int .i64 ib,.int .i64 jb,.int .i64 kb,.int .i64 lb,.int .i64 mb,.int .i64 nb,.string ob,.slice pb.a pb.n pb.c,.slice qb.a qb.n qb.c]⟩,.slice none 0 0] be fun ce de=>
 bw.bC ce fun ee=>
 aC ee fun fe ge=>
 dB fe fun ie je ke le me ne=>
 aC ge fun oe pe=>
 fR oe fun qe se te ue=>
 aC pe fun ve xe=>
 (xe=[]∧
 bE ae ie je ke le me ne de fun ye=>
 bN ud qe se te ue ye fun ze=>
 bb ae ud ve ze)))))))))))∧
 (((nw aN (zc Pr aN) (World.drew c) fun Ae Be=>
 (kept a 14 (World.drew c) Be∧
 ((ay Pr uR [] Be fun Ce De=>
 dB Ce fun Ee Fe Ge Ie Je Le=>
 (kept a 14 Be De∧
 ((ay Pr gV [.agg ⟨[.int .i64 Ee,.slice Fe.a Fe.n Fe.c,.slice Ge.a Ge.n Ge.c,.slice Ie.a Ie.n Ie.c,.slice Je.a Je.n Je.c,.slice Le.a Le.n Le.c]⟩,.agg ⟨[.int .i64 cb,.int .i64 db,.int .i64 eb,.int .i64 fb,.int .i64 gb,.int .i64 ib,.int .i64 jb,.int .i64 kb,.int .i64 lb,.int .i64 mb,.int .i64 nb,.string ob,.slice pb.a pb.n pb.c,.slice qb.a qb.n qb.c]⟩,.slice none 0 0] De fun Me Oe=>
 bw.bC Me fun Qe=>
 aC Qe fun Se Te=>
 dB Se fun Ue Ve Xe Ye Ze af=>
 aC Te fun bf cf=>
 fR bf fun df ef ff gf=>
 aC cf fun jf kf=>
 (kf=[]∧
 nw bI (zc Pr bI) Oe fun lf mf=>
 (kept a 14 Oe mf∧
 bE Ae Ue Ve Xe Ye Ze af mf fun nf=>
 bN lf df ef ff gf nf fun pf=>
 bb Ae lf jf pf)))∧
 (nw bI (zc Pr bI) De fun qf sf=>
 (kept a 14 De sf∧
 ay Pr gV [.agg ⟨[.int .i64 Ee,.slice Fe.a Fe.n Fe.c,.slice Ge.a Ge.n Ge.c,.slice Ie.a Ie.n Ie.c,.slice Je.a Je.n Je.c,.slice Le.a Le.n Le.c]⟩,.agg ⟨[.int .i64 cb,.int .i64 db,.int .i64 eb,.int .i64 fb,.int .i64 gb,.int .i64 ib,.int .i64 jb,.int .i64 kb,.int .i64 lb,.int .i64 mb,.int .i64 nb,.string ob,.slice pb.a pb.n pb.c,.slice qb.a qb.n qb.c]⟩,.slice none 0 0] sf fun tf uf=>
 bw.bC tf fun vf=>
 aC vf fun xf yf=>
 dB xf fun zf Af Bf Cf Df Ef=>
 aC yf fun Ff Gf=>
 fR Ff fun If Jf Lf Mf=>
 aC Gf fun Nf Of=>
 (Of=[]∧
 bE Ae zf Af Bf Cf Df Ef uf fun Qf=>
 bN qf If Jf Lf Mf Qf fun Sf=>
 bb Ae qf Nf Sf))))))∧
 (nw bI (zc Pr bI) Be fun Tf Uf=>
 (kept a 14 Be Uf∧
 ay Pr uR [] Uf fun Vf Xf=>
 dB Vf fun Yf Zf ag bg cg dg=>
 (kept a 14 Uf Xf∧
 ay Pr gV [.agg ⟨[.int .i64 Yf,.slice Zf.a Zf.n Zf.c,.slice ag.a ag.n ag.c,.slice bg.a bg.n bg.c,.slice cg.a cg.n cg.c,.slice dg.a dg.n dg.c]⟩,.agg ⟨[.int .i64 cb,.int .i64 db,.int .i64 eb,.int .i64 fb,.int .i64 gb,.int .i64 ib,.int .i64 jb,.int .i64 kb,.int .i64 lb,.int .i64 mb,.int .i64 nb,.string ob,.slice pb.a pb.n pb.c,.slice qb.a qb.n qb.c]⟩,.slice none 0 0] Xf fun eg fg=>
 bw.bC eg fun gg=>
 aC gg fun ig jg=>
 dB ig fun kg lg mg ng og pg=>
 aC jg fun qg sg=>
 fR qg fun tg ug vg xg=>
 aC sg fun yg zg=>
 (zg=[]∧
 bE Ae kg lg mg ng og pg fg fun Ag=>
 bN Tf tg ug vg xg Ag fun Bg=>
 bb Ae Tf yg Bg)))))))∧
 (nw bI (zc Pr bI) (World.drew c) fun Cg Dg=>
 (kept a 14 (World.drew c) Dg∧
 ((ay Pr uR [] Dg fun Eg Fg=>
 dB Eg fun Gg Ig Jg Lg Mg Ng=>
 (kept a 14 Dg Fg∧
 ((ay Pr gV [.agg ⟨[.int .i64 Gg,.slice Ig.a Ig.n Ig.c,.slice Jg.a Jg.n Jg.c,.slice Lg.a Lg.n Lg.c,.slice Mg.a Mg.n Mg.c,.slice Ng.a Ng.n Ng.c]⟩,.agg ⟨[.int .i64 cb,.int .i64 db,.int .i64 eb,.int .i64 fb,.int .i64 gb,.int .i64 ib,.int .i64 jb,.int .i64 kb,.int .i64 lb,.int .i64 mb,.int .i64 nb,.string ob,.slice pb.a pb.n pb.c,.slice qb.a qb.n qb.c]⟩,.slice none 0 0] Fg fun Og Qg=>
 bw.bC Og fun Sg=>
 aC Sg fun Tg Ug=>
 dB Tg fun Vg Xg Yg Zg ai bi=>
 aC Ug fun ci di=>
 fR ci fun ei fi gi ii=>
 aC di fun ji ki=>
 (ki=[]∧
 nw aN (zc Pr aN) Qg fun li mi=>
 (kept a 14 Qg mi∧
 bE li Vg Xg Yg Zg ai bi mi fun ni=>
 bN Cg ei fi gi ii ni fun oi=>
 bb li Cg ji oi)))∧
 (nw aN (zc Pr aN) Fg fun pi qi=>
 (kept a 14 Fg qi∧
 ay Pr gV [.agg ⟨[.int .i64 Gg,.slice Ig.a Ig.n Ig.c,.slice Jg.a Jg.n Jg.c,.slice Lg.a Lg.n Lg.c,.slice Mg.a Mg.n Mg.c,.slice Ng.a Ng.n Ng.c]⟩,.agg ⟨[.int .i64 cb,.int .i64 db,.int .i64 eb,.int .i64 fb,.int .i64 gb,.int .i64 ib,.int .i64 jb,.int .i64 kb,.int .i64 lb,.int .i64 mb,.int .i64 nb,.string ob,.slice pb.a pb.n pb.c,.slice qb.a qb.n qb.c]⟩,.slice none 0 0] qi fun si ti=>
 bw.bC si fun ui=>
 aC ui fun vi xi=>
 dB vi fun yi zi Ai Bi Ci Di=>
 aC xi fun Ei Fi=>
 fR Ei fun Gi Ii Ji Li=>
 aC Fi fun Mi Ni=>
 (Ni=[]∧
 bE pi yi zi Ai Bi Ci Di ti fun Oi=>
 bN Cg Gi Ii Ji Li Oi fun Qi=>
 bb pi Cg Mi Qi))))))∧
 (nw aN (zc Pr aN) Dg fun Si Ti=>
 (kept a 14 Dg Ti∧
 ay Pr uR [] Ti fun Ui Vi=>
 dB Ui fun Xi Yi Zi aj bj cj=>
 (kept a 14 Ti Vi∧
 ay Pr gV [.agg ⟨[.int .i64 Xi,.slice Yi.a Yi.n Yi.c,.slice Zi.a Zi.n Zi.c,.slice aj.a aj.n aj.c,.slice bj.a bj.n bj.c,.slice cj.a cj.n cj.c]⟩,.agg ⟨[.int .i64 cb,.int .i64 db,.int .i64 eb,.int .i64 fb,.int .i64 gb,.int .i64 ib,.int .i64 jb,.int .i64 kb,.int .i64 lb,.int .i64 mb,.int .i64 nb,.string ob,.slice pb.a pb.n pb.c,.slice qb.a qb.n qb.c]⟩,.slice none 0 0] Vi fun dj ej=>
 bw.bC dj fun fj=>
 aC fj fun gj ij=>
 dB gj fun jj kj lj mj nj oj=>
 aC ij fun pj qj=>
 fR pj fun sj tj uj vj=>
 aC qj fun xj yj=>
 (yj=[]∧
 bE Si jj kj lj mj nj oj ej fun zj=>
 bN Cg sj tj uj vj zj fun Aj=>
 bb Si Cg xj Aj)))))))))))
theorem aem {w:World} {R:Value→World→Prop} (h:NG w R):Ok Pr DD [] w R:=
 aL (m:=⟨true,true⟩) (J:=[(3,[(2,.x6),(3,.x6),(4,.val)])]) (L:=[]) aJ Tryz.func9 (by kernel_rfl) ((by kernel_rfl:aK Pr _ _ _ Tryz.f9 _ w R=NG w R).mpr h)
def NH (w:World) (R:Value→World→Prop):Prop:=
 nw aN (zc Pr aN) w fun a b=>
 ((j0 Pr aX 1312 1312 (World.drew b) fun c d=>
 ((j0 Pr aX 32 32 d fun e f=>
 ((ay Pr pE [.string oY,.slice c.a c.n c.c,.slice e.a e.n e.c] f fun g i=>
 bw.bC g fun j=>
 aC j fun k l=>
 dB k fun m n o p q s=>
 aC l fun t u=>
 aY .i64 t fun v=>
 (u=[]∧
 nw aN (zc Pr aN) i fun x y=>
 bE x m n o p q s y fun z=>
 bD x z fun A B C D E F=>
 bE a A B C D E F z fun G=>
 bD a G fun I J L M N O=>
 R (.agg ⟨[.int .i64 I,.slice J.a J.n J.c,.slice L.a L.n L.c,.slice M.a M.n M.c,.slice N.a N.n N.c,.slice O.a O.n O.c]⟩) G))∧
 (nw aN (zc Pr aN) f fun Q S=>
 ay Pr pE [.string oY,.slice c.a c.n c.c,.slice e.a e.n e.c] S fun T U=>
 bw.bC T fun V=>
 aC V fun X Y=>
 dB X fun Z aa ba ca da ea=>
 aC Y fun fa ga=>
 aY .i64 fa fun ia=>
 (ga=[]∧
 bE Q Z aa ba ca da ea U fun ja=>
 bD Q ja fun ka la ma na oa pa=>
 bE a ka la ma na oa pa ja fun qa=>
 bD a qa fun sa ta ua va xa ya=>
 R (.agg ⟨[.int .i64 sa,.slice ta.a ta.n ta.c,.slice ua.a ua.n ua.c,.slice va.a va.n va.c,.slice xa.a xa.n xa.c,.slice ya.a ya.n ya.c]⟩) qa))))∧
 (nw aN (zc Pr aN) d fun za Aa=>
 j0 Pr aX 32 32 Aa fun Ba Ca=>
 ay Pr pE [.string oY,.slice c.a c.n c.c,.slice Ba.a Ba.n Ba.c] Ca fun Da Ea=>
 bw.bC Da fun Fa=>
 aC Fa fun Ga Ia=>
 dB Ga fun Ja La Ma Na Oa Qa=>
 aC Ia fun Sa Ta=>
 aY .i64 Sa fun Ua=>
 (Ta=[]∧
 bE za Ja La Ma Na Oa Qa Ea fun Va=>
 bD za Va fun Xa Ya Za ab bb cb=>
 bE a Xa Ya Za ab bb cb Va fun db=>
 bD a db fun eb fb gb ib jb kb=>
 R (.agg ⟨[.int .i64 eb,.slice fb.a fb.n fb.c,.slice gb.a gb.n gb.c,.slice ib.a ib.n ib.c,.slice jb.a jb.n jb.c,.slice kb.a kb.n kb.c]⟩) db))))∧
 (((j0 Pr aX 32 32 (World.drew b) fun lb mb=>
 ((j0 Pr aX 1312 1312 mb fun nb ob=>
 ((ay Pr pE [.string oY,.slice nb.a nb.n nb.c,.slice lb.a lb.n lb.c] ob fun pb qb=>
 bw.bC pb fun sb=>
 aC sb fun tb ub=>
 dB tb fun vb xb yb zb Ab Bb=>
 aC ub fun Cb Db=>
 aY .i64 Cb fun Eb=>
 (Db=[]∧
 nw aN (zc Pr aN) qb fun Fb Gb=>
 bE Fb vb xb yb zb Ab Bb Gb fun Ib=>
 bD Fb Ib fun Jb Lb Mb Nb Ob Qb=>
 bE a Jb Lb Mb Nb Ob Qb Ib fun Sb=>
 bD a Sb fun Tb Ub Vb Xb Yb Zb=>
 R (.agg ⟨[.int .i64 Tb,.slice Ub.a Ub.n Ub.c,.slice Vb.a Vb.n Vb.c,.slice Xb.a Xb.n Xb.c,.slice Yb.a Yb.n Yb.c,.slice Zb.a Zb.n Zb.c]⟩) Sb))∧
 (nw aN (zc Pr aN) ob fun ac bc=>
 ay Pr pE [.string oY,.slice nb.a nb.n nb.c,.slice lb.a lb.n lb.c] bc fun cc dc=>
 bw.bC cc fun ec=>
 aC ec fun fc gc=>
 dB fc fun ic jc kc lc mc nc=>
 aC gc fun oc pc=>
 aY .i64 oc fun qc=>
 (pc=[]∧
 bE ac ic jc kc lc mc nc dc fun sc=>
 bD ac sc fun tc uc vc xc yc Ac=>
 bE a tc uc vc xc yc Ac sc fun Bc=>
 bD a Bc fun Cc Dc Ec Fc Gc Ic=>
 R (.agg ⟨[.int .i64 Cc,.slice Dc.a Dc.n Dc.c,.slice Ec.a Ec.n Ec.c,.slice Fc.a Fc.n Fc.c,.slice Gc.a Gc.n Gc.c,.slice Ic.a Ic.n Ic.c]⟩) Bc))))∧
 (nw aN (zc Pr aN) mb fun Jc Lc=>
 j0 Pr aX 1312 1312 Lc fun Mc Nc=>
 ay Pr pE [.string oY,.slice Mc.a Mc.n Mc.c,.slice lb.a lb.n lb.c] Nc fun Oc Qc=>
 bw.bC Oc fun Sc=>
 aC Sc fun Tc Uc=>
 dB Tc fun Vc Xc Yc Zc bd cd=>
 aC Uc fun dd ed=>
 aY .i64 dd fun fd=>
 (ed=[]∧
 bE Jc Vc Xc Yc Zc bd cd Qc fun gd=>
 bD Jc gd fun jd kd ld md nd od=>
 bE a jd kd ld md nd od gd fun pd=>
 bD a pd fun qd sd td ud vd xd=>
 R (.agg ⟨[.int .i64 qd,.slice sd.a sd.n sd.c,.slice td.a td.n td.c,.slice ud.a ud.n ud.c,.slice vd.a vd.n vd.c,.slice xd.a xd.n xd.c]⟩) pd))))∧
 (nw aN (zc Pr aN) (World.drew b) fun yd zd=>
 ((j0 Pr aX 1312 1312 zd fun Ad Bd=>
 j0 Pr aX 32 32 Bd fun Cd Dd=>
 ay Pr pE [.string oY,.slice Ad.a Ad.n Ad.c,.slice Cd.a Cd.n Cd.c] Dd fun Ed Fd=>
 bw.bC Ed fun Gd=>
 aC Gd fun Id Jd=>
 dB Id fun Ld Md Od Qd Sd Td=>
 aC Jd fun Ud Vd=>
 aY .i64 Ud fun Xd=>
 (Vd=[]∧
 bE yd Ld Md Od Qd Sd Td Fd fun Yd=>
 bD yd Yd fun Zd ae be ce de ee=>
 bE a Zd ae be ce de ee Yd fun fe=>
 bD a fe fun ge ie je ke le me=>
 R (.agg ⟨[.int .i64 ge,.slice ie.a ie.n ie.c,.slice je.a je.n je.c,.slice ke.a ke.n ke.c,.slice le.a le.n le.c,.slice me.a me.n me.c]⟩) fe))∧
 (j0 Pr aX 32 32 zd fun ne oe=>
 j0 Pr aX 1312 1312 oe fun pe qe=>
 ay Pr pE [.string oY,.slice pe.a pe.n pe.c,.slice ne.a ne.n ne.c] qe fun se te=>
 bw.bC se fun ue=>
 aC ue fun ve xe=>
 dB ve fun ye ze Ae Be Ce De=>
 aC xe fun Ee Fe=>
 aY .i64 Ee fun Ge=>
 (Fe=[]∧
 bE yd ye ze Ae Be Ce De te fun Ie=>
 bD yd Ie fun Je Le Me Oe Qe Se=>
 bE a Je Le Me Oe Qe Se Ie fun Te=>
 bD a Te fun Ue Ve Xe Ye Ze af=>
 R (.agg ⟨[.int .i64 Ue,.slice Ve.a Ve.n Ve.c,.slice Xe.a Xe.n Xe.c,.slice Ye.a Ye.n Ye.c,.slice Ze.a Ze.n Ze.c,.slice af.a af.n af.c]⟩) Te)))))))
theorem aen {w:World} {R:Value→World→Prop} (h:NH w R):Ok Pr uR [] w R:=
 aL (m:=⟨true,true⟩) (J:=[]) (L:=[]) aJ Tryz.func10 (by kernel_rfl) ((by kernel_rfl:aK Pr _ _ _ Tryz.f10 _ w R=NH w R).mpr h)
end Go.Proofs.YtgjoehgomjgckaaGreatDoor
end
section
set_option linter.unusedVariables false
set_option linter.unusedSimpArgs false
namespace Go.Proofs.YtgjoehgomjgckaaGreatDoor
open Go Go.Ev
set_option maxRecDepth 20000
set_option linter.unusedVariables false
theorem ajc {q:bK} (h:oI q=true):1≤q.n2∧q.n2≤13:=by
 unfold oI aS at h
 simp only [Bool.and_eq_true,decide_eq_true_eq] at h
 exact h.2.2.1
def isKey (op:Int):Bool:=decide (4≤op) && decide (op≤12)
theorem ops {q:bK} (hq:oI q=true):(jy q.n2=true→isKey q.n2=false∧rR q.n2=false∧q.n2≠13∧q.n2≠12)∧(jy q.n2=false→q.n2≠13→isKey q.n2=true)∧(q.n2=13→isKey q.n2=false∧jy q.n2=false∧rR q.n2=false)∧(rR q.n2=true→q.n2≠13∧q.n2≠12)∧(isKey q.n2=true→jy q.n2=false∧q.n2≠13):=by
 have:=ajc hq
 unfold jy isKey rR
 refine ⟨fun h=>?_,fun h h2=>?_,fun h=>?_,fun h=>?_,fun h=>?_⟩ <;> simp only [Bool.or_eq_true,Bool.or_eq_false_iff,Bool.and_eq_true,Bool.and_eq_false_iff,decide_eq_true_eq,decide_eq_false_iff_not] at * <;> omega
end Go.Proofs.YtgjoehgomjgckaaGreatDoor
end
section
set_option linter.unusedVariables false
set_option linter.unusedSimpArgs false
namespace Go.Proofs.YtgjoehgomjgckaaGreatDoor
open Go Go.Ev
set_option maxRecDepth 20000
set_option linter.unusedVariables false
theorem R5 {vs:List bq}:∀ (n:Nat),(∀ i,i<n→gl (vs.getD i vz) ((i:Int)+1)=true)→mz vs n=true
 | 0,_=>rfl
 | n+1,h=>by
  show (mz vs n && gl (vs.getD n vz) ((n:Int)+1))=true
  rw [R5 n fun i hi=>h i (by omega),h n (by omega)]; rfl
theorem akk (n:Int) (aq:List B8) (h:aq.length=64):gl ⟨n,1,0,aq⟩ n=true:=by
 unfold gl
 rw [decide_eq_true (show (bq.mk n 1 0 aq).n=n from rfl),if_neg (show ¬ (1:Int)=3 by decide),if_neg (show ¬ (1:Int)=4 by decide),if_pos (.inl rfl)]
 simp [h]
theorem XN {k:aP} {aq:List B8} (h:oQ k aq.length=0):cL (iV k aq)=true∧(iV k aq).aH=k.aH ++ [⟨(k.aH.length:Int)+1,1,0,aq⟩]:=by
 have e:iV k aq=⟨k.id,k.ten,k.set,k.aH ++ [⟨(k.aH.length:Int)+1,1,0,aq⟩]⟩:=by unfold iV; rw [if_pos h]
 rw [e]
 refine ⟨?_,rfl⟩
 unfold oQ at h
 split at h
 ·rename_i hk
  split at h
  ·rename_i g8
   split at h
   ·omega
   ·rename_i h5
    obtain ⟨a1,a2,a3,a4,a5⟩:=vm hk
    unfold cL
    have hl:(k.aH ++ [bq.mk ((k.aH.length:Int)+1) 1 0 aq]).length=k.aH.length+1:=by simp
    have dV:mz (k.aH ++ [bq.mk ((k.aH.length:Int)+1) 1 0 aq]) (k.aH ++ [bq.mk ((k.aH.length:Int)+1) 1 0 aq]).length=true:=?_
    rw [dV]
    ·unfold cL at hk
     unfold aS at *
     rw [hl]
     simp only [Bool.and_eq_true,decide_eq_true_eq,and_true] at *
     omega
    ·refine R5 _ fun i hi=>?_
     rw [hl] at hi
     rw [List.getD_eq_getElem?_getD]
     rcases Nat.lt_or_ge i k.aH.length with h | h
     ·rw [List.getElem?_append_left h,← List.getD_eq_getElem?_getD]; exact a5 i h
     ·have:i=k.aH.length:=by omega
      subst this
      rw [List.getElem?_append_right (Nat.le_refl _),Nat.sub_self]
      exact akk _ _ g8
  ·omega
 ·omega
end Go.Proofs.YtgjoehgomjgckaaGreatDoor
end
section
set_option linter.unusedVariables false
set_option linter.unusedSimpArgs false
namespace Go.Proofs.YtgjoehgomjgckaaGreatDoor
open Go Go.Ev
set_option maxRecDepth 20000
set_option linter.unusedVariables false
theorem ajd {t:aR} {c:Int} (h0:kQ t c≠0):kQ t c=2:=by
 unfold kQ at h0 ⊢
 split
 ·split
  ·rename_i h1 h2; rw [if_pos h1,if_pos h2] at h0; exact absurd rfl h0
  ·rfl
 ·rfl
end Go.Proofs.YtgjoehgomjgckaaGreatDoor
end
section
set_option linter.unusedVariables false
set_option linter.unusedSimpArgs false
namespace Go.Proofs.YtgjoehgomjgckaaGreatDoor
open Go Go.Ev Go.RowKit
set_option maxRecDepth 20000
set_option linter.unusedVariables false
theorem aje:((Pr.fieldsOf dh).toList.map fun f=>(f.type,f.offset,decide (f.name= "_")))=[(bH,0,false),(bH,1,false),(zn,2,false)]:=by kernel_rfl
theorem aml:Pr.underlying dh=some (.struct (Pr.fieldsOf dh)):=by kernel_rfl
theorem alq:Pr.stoodInHeld dh=false:=by kernel_rfl
theorem akl:Pr.eqGuardType Pr.depth dh=false:=by kernel_rfl
theorem akm (a b:Int) (n:ByteArray) (w:World):(Op.equalIn 10000 dh (.agg ⟨ku a b n⟩) (.agg ⟨ku a b n⟩)).run Pr w=.ok true w:=by
 rw [show 10000=9999+1 from rfl,run_equalIn_struct w 9999 dh _ _ aml alq]
 refine Nz _ _ _ _ _ fun f hf=>?_
 have hm:(f.type,f.offset,decide (f.name= "_"))∈((Pr.fieldsOf dh).toList.map fun f=>(f.type,f.offset,decide (f.name= "_"))):=List.mem_map_of_mem hf
 rw [aje] at hm
 have hI:∀ z:Int,(Op.equalIn 9999 bH (.int .i64 z) (.int .i64 z)).run Pr w=.ok true w:=fun z=>by
  rw [show 9999=9998+1 from rfl,run_equalIn_int w 9998 bH .i64 .i64 z z YM]
  simp
 have hB:∀ z:ByteArray,(Op.equalIn 9999 zn (.string z) (.string z)).run Pr w=.ok true w:=fun z=>by
  rw [show 9999=9998+1 from rfl,run_equalIn_string w 9998 zn z z aic]
  simp
 have q0:(Go.part bH ⟨ku a b n⟩ 0).run Pr w=.ok (.int .i64 a) w:=by kernel_rfl
 have q1:(Go.part bH ⟨ku a b n⟩ 1).run Pr w=.ok (.int .i64 b) w:=by kernel_rfl
 have q2:(Go.part zn ⟨ku a b n⟩ 2).run Pr w=.ok (.string n) w:=by kernel_rfl
 simp only [List.mem_cons,List.not_mem_nil,or_false,Prod.mk.injEq,decide_eq_false_iff_not] at hm
 rcases hm with ⟨h1,h2,h3⟩ | ⟨h1,h2,h3⟩ | ⟨h1,h2,h3⟩
 ·rw [h1,h2]; exact ⟨_,h3,q0,q0,hI _⟩
 ·rw [h1,h2]; exact ⟨_,h3,q1,q1,hI _⟩
 ·rw [h1,h2]; exact ⟨_,h3,q2,q2,hB _⟩
theorem amm {a b:Int} {n:ByteArray} {w:World} {K:Bool→World→Prop} (h:K false w):FH Pr .neq dh (ku a b n) (ku a b n) w K:=by
 refine ⟨.bool false,w,?_,false,rfl,h⟩
 simp only [Sem.run_bind,run_eqGuard_agg w _ _ _ _ _ _ akl,Result.andThen,run_neq_struct,akm]
 rfl
theorem acA (x y:ah) (l:List cv) (w:World) (hx:fX w x l) (hy:fX w y l) (hl:l.length≤1000000):Ok Pr KZ [.slice x.a x.n x.c,.slice y.a y.n y.c] w fun v w'=>v=.bool true∧Mod [] w w':=by
 refine acr ?_
 unfold Lj
 have bU:=hx.len
 have jU:=hy.len
 refine ite_false (by rw [← bU,← jU]; simp) ?_
 refine dm 0 l.length (fun i w'=>Mod [] w w') rfl (by omega) (Mod.refl _ _) ?_ ?_
 ·intro again i w1 _ hi m aM
  have m':=m.trans (Mod.drew [] w1)
  obtain ⟨h1,c1⟩:=(hx.aG m').at hi
  obtain ⟨h2,c2⟩:=(hy.aG m').at hi
  exact ite_true (decide_eq_true (by omega)) ⟨h1,Dx c1 ⟨h2,Dx c2 (amm (ite_false rfl ⟨⟨by omega,by omega⟩,aM _ m'⟩))⟩⟩
 ·intro again w1 m
  exact ite_false (decide_eq_false (by omega)) ⟨rfl,m⟩
theorem Uy (v:bq) (x y:ah) (hl:v.aq.length≤1000000) (w:World) (hx:jM w x v) (hy:jM w y v):Ok Pr GM [.agg ⟨v.cs x⟩,.agg ⟨v.cs y⟩] w fun r w'=>r=.bool true∧Mod [] w w':=by
 refine acq ?_
 unfold Lh
 refine (ak.start w).nw fun p w1 H _=>H.nw fun p1 w2 H _=>?_
 have H:ak w [] w2 [.av p (v.cs x) cw,.av p1 (v.cs y) cw]:=H
 refine H.an 0 rfl (au p 0) rfl (H.an 1 rfl (au p1 0) rfl (H.an 0 rfl (au p 1) rfl (H.an 1 rfl (au p1 1) rfl (H.an 0 rfl (au p 2) rfl (H.an 1 rfl (au p1 2) rfl (H.ax 0 rfl (au p 3) rfl (H.ax 1 rfl (au p1 3) rfl (ite_true (by simp) ?_))))))))
 refine aB (Ly x y v.aq v.aq _ (Bytes.aG hx H.mod) (Bytes.aG hy H.mod) (by omega)) ?_
 rintro _ w3 ⟨rfl,m⟩
 exact bz ⟨by rw [decide_eq_true rfl],H.mod.trans m⟩
theorem adK (k:aP) (x y:ah) (hl:k.aH.length≤1000000) (gY:∀ v∈k.aH,v.aq.length≤1000000) (w:World) (hx:gh w x k.aH) (hy:gh w y k.aH):Ok Pr Mq [.agg ⟨k.cs x⟩,.agg ⟨k.cs y⟩] w fun r w'=>r=.bool true∧Mod [] w w':=by
 refine ady ?_
 unfold MC
 have bU:=hx.len
 have jU:=hy.len
 refine (ak.start w).nw fun p w1 H _=>H.nw fun p1 w2 H _=>?_
 have H:ak w [] w2 [.av p (k.cs x) aV,.av p1 (k.cs y) aV]:=H
 refine H.an 0 rfl (au p 0) rfl (H.an 1 rfl (au p1 0) rfl (H.an 0 rfl (au p 1) rfl (H.an 1 rfl (au p1 1) rfl (H.an 0 rfl (au p 2) rfl (H.an 1 rfl (au p1 2) rfl (H.ax 0 rfl (au p 3) rfl (H.ax 1 rfl (au p1 3) rfl (ite_false (by rw [← bU,← jU]; simp) ?_))))))))
 refine dm 0 k.aH.length (fun i w'=>ak w [] w' [.av p (k.cs x) aV,.av p1 (k.cs y) aV]) rfl (by omega) H ?_ ?_
 ·intro again i w3 _ hi H aM
  have D:=H.drew
  have hv:k.aH[i]? = some (k.aH.getD i vz):=by rw [List.getD_eq_getElem?_getD,List.getElem?_eq_getElem hi]; rfl
  obtain ⟨h1,u1,e1,c1⟩:=Dv.at bq.cz (by omega) (hx.aG D.mod) hv
  obtain ⟨h2,u2,e2,c2⟩:=Dv.at bq.cz (by omega) (hy.aG D.mod) hv
  refine H.ax 0 rfl (au p 3) rfl (ite_true (decide_eq_true (by omega)) (D.ax 0 rfl (au p 3) rfl ⟨h1,uO c1 (D.ax 1 rfl (au p1 3) rfl ⟨h2,uO c2 ?_⟩)⟩))
  refine aB (Uy (k.aH.getD i vz) u1 u2 (gY _ (by rw [List.getD_eq_getElem?_getD,List.getElem?_eq_getElem hi]; exact List.getElem_mem hi)) _ e1 e2) ?_
  rintro _ w4 ⟨rfl,m⟩
  exact bz (ite_false rfl ⟨⟨by omega,by omega⟩,aM _ (D.frame m)⟩)
 ·intro again w3 H
  exact H.ax 0 rfl (au p 3) rfl (ite_false (decide_eq_false (by omega)) ⟨rfl,H.mod⟩)
theorem acJ (x y:ah) (l:List ct) (hl:l.length≤1000) (hk:∀ p∈l,p.key.length≤1000000) (w:World) (hx:uH w x l) (hy:uH w y l):Ok Pr Lr [.slice x.a x.n x.c,.slice y.a y.n y.c] w fun v w'=>v=.bool true∧Mod [] w w':=by
 refine acD ?_
 unfold Lz
 have bU:=hx.len
 have jU:=hy.len
 refine ite_false (by rw [← bU,← jU]; simp) ?_
 refine dm 0 l.length (fun i w'=>Mod [] w w') rfl (by omega) (Mod.refl _ _) ?_ ?_
 ·intro again i w1 _ hi m aM
  have m':=m.trans (Mod.drew [] w1)
  obtain ⟨h1,u1,e1,c1⟩:=(hx.aG m').at hi
  obtain ⟨h2,u2,e2,c2⟩:=(hy.aG m').at hi
  refine ite_true (decide_eq_true (by omega)) ⟨h1,_,c1 0 _ rfl,h2,_,c2 0 _ rfl,ite_false (by simp) ⟨h1,_,c1 1 _ rfl,h2,_,c2 1 _ rfl,ite_false (by simp) ⟨h1,_,c1 3 _ rfl,h2,_,c2 3 _ rfl,ite_false (by simp) ⟨h1,_,c1 4 _ rfl,h2,_,c2 4 _ rfl,ite_false (by simp) ⟨h1,u1,c1 2 _ rfl,h2,u2,c2 2 _ rfl,?_⟩⟩⟩⟩⟩
  refine aB (Ly u1 u2 _ _ _ e1 e2 (Nat.lt_of_le_of_lt (hk _ (by rw [List.getD_eq_getElem?_getD,List.getElem?_eq_getElem hi]; exact List.getElem_mem hi)) (by omega))) ?_
  rintro _ w2 ⟨rfl,m2⟩
  exact bz (ite_false (by simp) ⟨⟨by omega,by omega⟩,aM _ (m'.trans m2)⟩)
 ·intro again w1 m
  exact ite_false (decide_eq_false (by omega)) ⟨rfl,m⟩
end Go.Proofs.YtgjoehgomjgckaaGreatDoor
end
section
set_option linter.unusedVariables false
set_option linter.unusedSimpArgs false
namespace Go.Proofs.YtgjoehgomjgckaaGreatDoor
open Go Go.Ev
set_option maxRecDepth 20000
set_option linter.unusedVariables false
theorem acZ (s1 s2:dZ) (t:aR) (hs:t.small) (w:World) (hx:gC w s1 t) (hy:gC w s2 t):Ok Pr LD [.agg ⟨t.cs s1⟩,.agg ⟨t.cs s2⟩] w fun v w'=>v=.bool true∧Mod [] w w':=by
 refine acO ?_
 unfold LM
 have AF:=hs.sec
 have yB:=hs.ten
 have yC:=hs.aE
 have wE:=hs.key
 have AM:=hs.gr
 have lE:=hx.key.len
 have oZ:=hy.key.len
 refine (ak.start w).nw fun p w1 H _=>H.nw fun p1 w2 H _=>?_
 have H:ak w [] w2 [.av p (t.cs s1) aN,.av p1 (t.cs s2) aN]:=H
 refine jJ fun go bY=>?_
 refine H.an 0 rfl (au p 0) rfl (H.an 1 rfl (au p1 0) rfl (H.ax 0 rfl (au p 1) rfl (H.ax 1 rfl (au p1 1) rfl (ite_false (by simp) ?_))))
 refine aB (Ly s1.sec s2.sec t.bG t.bG _ (Bytes.aG hx.sec H.mod) (Bytes.aG hy.sec H.mod) (by omega)) ?_
 rintro _ w6 ⟨rfl,m6⟩
 have H:=H.frame m6
 refine bz (H.ax 0 rfl (au p 2) rfl (H.ax 1 rfl (au p1 2) rfl (ite_false (by simp) ?_)))
 refine aB (acA s1.ten s2.ten t.bP _ (hx.ten.aG H.mod) (hy.ten.aG H.mod) (by omega)) ?_
 rintro _ w7 ⟨rfl,m7⟩
 have H:=H.frame m7
 refine bz (H.ax 0 rfl (au p 3) rfl (H.ax 1 rfl (au p1 3) rfl (ite_false rfl ?_)))
 refine aB (acJ s1.aE s2.aE t.aE yC hs.pk _ (hx.aE.aG H.mod) (hy.aE.aG H.mod)) ?_
 rintro _ w8 ⟨rfl,m8⟩
 have H:=H.frame m8
 refine bz (H.ax 0 rfl (au p 4) rfl (H.ax 1 rfl (au p1 4) rfl (H.ax 0 rfl (au p 5) rfl (H.ax 1 rfl (au p1 5) rfl (ite_false (by rw [← lE,← oZ]; simp) ?_)))))
 refine aB (acG s1.gr s2.gr t.br _ (hx.gr.aG H.mod) (hy.gr.aG H.mod) (by omega)) ?_
 rintro _ w9 ⟨rfl,m9⟩
 have H:=H.frame m9
 refine bz (ite_false rfl (bY w9 ?_))
 refine dm 0 t.keys.length (fun i w'=>ak w [] w' [.av p (t.cs s1) aN,.av p1 (t.cs s2) aN]) rfl (by omega) H ?_ ?_
 ·intro again i w4 _ hi H aM
  have D:=H.drew
  obtain ⟨h1,u1,e1,c1⟩:=(hx.key.aG D.mod).at hi
  obtain ⟨h2,u2,e2,c2⟩:=(hy.key.aG D.mod).at hi
  have ux:=vo hs hi
  refine H.ax 0 rfl (au p 4) rfl (ite_true (decide_eq_true (by omega)) (D.ax 0 rfl (au p 4) rfl ⟨h1,qF c1 (D.ax 1 rfl (au p1 4) rfl ⟨h2,qF c2 ?_⟩)⟩))
  refine aB (adK (t.keys.getD i kz) u1 u2 (by omega) (hs.aq _ (by rw [List.getD_eq_getElem?_getD,List.getElem?_eq_getElem hi]; exact List.getElem_mem hi)) _ e1 e2) ?_
  rintro _ w5 ⟨rfl,m5⟩
  exact bz (ite_false rfl ⟨⟨by omega,by omega⟩,aM _ (D.frame m5)⟩)
 ·intro again w4 H
  exact H.ax 0 rfl (au p 4) rfl (ite_false (decide_eq_false (by omega)) ⟨rfl,H.mod⟩)
end Go.Proofs.YtgjoehgomjgckaaGreatDoor
end
section
set_option linter.unusedVariables false
set_option linter.unusedSimpArgs false
namespace Go.Proofs.YtgjoehgomjgckaaGreatDoor
open Go Go.Ev
set_option maxRecDepth 20000
set_option linter.unusedVariables false
theorem alr {A:Type} {l:List A} {d:A} {P:A→Prop} (h:∀ j,j<l.length→P (l.getD j d)):∀ a∈l,P a:=fun a ha=>by
 obtain ⟨j,hj,e⟩:=List.getElem_of_mem ha
 have:=h j hj
 rw [List.getD_eq_getElem?_getD,List.getElem?_eq_getElem hj] at this
 simpa [e] using this
end Go.Proofs.YtgjoehgomjgckaaGreatDoor
end
section
set_option linter.unusedVariables false
set_option linter.unusedSimpArgs false
namespace Go.Proofs.YtgjoehgomjgckaaGreatDoor
open Go Go.Ev
set_option maxRecDepth 20000
set_option linter.unusedVariables false
def fT:aR:=Gt oY (List.replicate 1312 0) (List.replicate 32 0)
def AT (w w':World) (v:Value) (T:aR):Prop:=∃ s ys zs fp fq,v=.agg ⟨T.cs s⟩∧ak w [] w' (jm s T ys zs fp fq)
theorem U9 (w:World):Ok Pr uR [] w fun v w'=>AT w w' v fT:=by
 refine aen ?_
 unfold NH
 rw [tH]
 have first:∀ (x y:ah) (w3:World),Bytes w3 x (List.replicate 1312 0)→Bytes w3 y (List.replicate 32 0)→Ok Pr pE [.string oY,.slice x.a x.n x.c,.slice y.a y.n y.c] w3 fun v w'=>∃ c,aaC w3 w' v fT [.int .i64 c] []:=fun x y w3 h1 h2=>by
  refine (afG oY x y _ _ (by simp) (by simp) w3 h1 h2).mono ?_
  intro v w' h
  exact ⟨_,h⟩
 generalize fT=T at *
 refine (ak.start w).nw fun p w1 H _=>?_
 have H:ak w [] w1.drew [.av p (gM.cs sZ) aN]:=H.drew
 have post:∀ {w5:World} {p2:Nat} {s:dZ} {ys zs:List ah} {fp fq:List Nat},ak w [] w5 ([.av p (gM.cs sZ) aN,.av p2 (gM.cs sZ) aN] ++ jm s T ys zs fp fq)→
   bE ⟨p2,0,none⟩ T.clock s.sec s.ten s.aE s.key s.gr w5 fun w6=>bD ⟨p2,0,none⟩ w6 fun f0 f1 f2 f3 f4 f5=>bE ⟨p,0,none⟩ f0 f1 f2 f3 f4 f5 w6 fun w7=>bD ⟨p,0,none⟩ w7 fun g0 g1 g2 g3 g4 g5=>
    AT w w7 (.agg ⟨[.int .i64 g0,.slice g1.a g1.n g1.c,.slice g2.a g2.n g2.c,.slice g3.a g3.n g3.c,.slice g4.a g4.n g4.c,.slice g5.a g5.n g5.c]⟩) T:=by
  intro w5 p2 s ys zs fp fq K
  exact K.bE 1 rfl rfl fun w6 K=>K.bD 1 rfl (K.bE 0 rfl rfl fun w7 K=>K.bD 0 rfl ⟨s,ys,zs,fp,fq,rfl,K.drop 2⟩)
 have Cr:∀ {w8:World} {p2:Nat} {x y:ah},ak w [] w8 [.av p (gM.cs sZ) aN,.av p2 (gM.cs sZ) aN,.row aX 1 x (bp (List.replicate 1312 0)),.row aX 1 y (bp (List.replicate 32 0))]→
   ay Pr pE [.string oY,.slice x.a x.n x.c,.slice y.a y.n y.c] w8 fun v w9=>bw.bC v fun vs=>aC vs fun v1 r=>dB v1 fun t0 t1 t2 t3 t4 t5=>aC r fun v2 r2=>aY .i64 v2 fun n=>(r2=[]∧
   bE ⟨p2,0,none⟩ t0 t1 t2 t3 t4 t5 w9 fun w6=>bD ⟨p2,0,none⟩ w6 fun f0 f1 f2 f3 f4 f5=>bE ⟨p,0,none⟩ f0 f1 f2 f3 f4 f5 w6 fun w7=>bD ⟨p,0,none⟩ w7 fun g0 g1 g2 g3 g4 g5=>
    AT w w7 (.agg ⟨[.int .i64 g0,.slice g1.a g1.n g1.c,.slice g2.a g2.n g2.c,.slice g3.a g3.n g3.c,.slice g4.a g4.n g4.c,.slice g5.a g5.n g5.c]⟩) T):=by
  intro w8 p2 x y K
  refine aB (first x y w8 (Own.bytes (K.qV 2 rfl)) (Own.bytes (K.qV 3 rfl))) ?_
  rintro _ w9 ⟨c,s,ys,zs,fp,fq,rfl,G⟩
  have K:=K.join G
  refine ⟨_,rfl,iu ⟨_,rfl,rfl,post (ys:=ys) (zs:=zs) (fp:=fp) (fq:=fq) ?_⟩⟩
  exact K.cR [0,1,4,5,6,7,8,9,10] (by decide) rfl
 have Z7:∀ {w8:World} {x y:ah},ak w [] w8 [.av p (gM.cs sZ) aN,.row aX 1 x (bp (List.replicate 1312 0)),.row aX 1 y (bp (List.replicate 32 0))]→
   ay Pr pE [.string oY,.slice x.a x.n x.c,.slice y.a y.n y.c] w8 fun v w4=>bw.bC v fun vs=>aC vs fun v1 r=>dB v1 fun t0 t1 t2 t3 t4 t5=>aC r fun v2 r2=>aY .i64 v2 fun n=>(r2=[]∧
   nw aN (gM.cs sZ) w4 fun a w9=>bE a t0 t1 t2 t3 t4 t5 w9 fun w6=>bD a w6 fun f0 f1 f2 f3 f4 f5=>bE ⟨p,0,none⟩ f0 f1 f2 f3 f4 f5 w6 fun w7=>bD ⟨p,0,none⟩ w7 fun g0 g1 g2 g3 g4 g5=>
    AT w w7 (.agg ⟨[.int .i64 g0,.slice g1.a g1.n g1.c,.slice g2.a g2.n g2.c,.slice g3.a g3.n g3.c,.slice g4.a g4.n g4.c,.slice g5.a g5.n g5.c]⟩) T):=by
  intro w8 x y K
  refine aB (first x y w8 (Own.bytes (K.qV 1 rfl)) (Own.bytes (K.qV 2 rfl))) ?_
  rintro _ w9 ⟨c,s,ys,zs,fp,fq,rfl,G⟩
  have K:=K.join G
  refine ⟨_,rfl,iu ⟨_,rfl,rfl,K.nw fun p2 cM K _=>post (ys:=ys) (zs:=zs) (fp:=fp) (fq:=fq) ?_⟩⟩
  exact K.cR [0,10,3,4,5,6,7,8,9] (by decide) rfl
 have z8:zc Pr aX=[.int .u8 0]:=by kernel_rfl
 refine ⟨?_,?_,?_⟩
 ·refine H.uv iK z8 rfl rfl (by decide) fun x w2 H _=>⟨H.uv iK z8 rfl rfl (by decide) fun y w3 H _=>⟨Z7 H,H.nw fun p2 w8 H _=>Cr (H.cR [0,3,1,2] (by decide) rfl)⟩,H.nw fun p2 w8 H _=>H.uv iK z8 rfl rfl (by decide) fun y w3 H _=>Cr (H.cR [0,2,1,3] (by decide) rfl)⟩
 ·refine H.uv iK z8 rfl rfl (by decide) fun y w2 H _=>⟨H.uv iK z8 rfl rfl (by decide) fun x w3 H _=>⟨Z7 (H.cR [0,2,1] (by decide) rfl),H.nw fun p2 w8 H _=>Cr (H.cR [0,3,2,1] (by decide) rfl)⟩,H.nw fun p2 w8 H _=>H.uv iK z8 rfl rfl (by decide) fun x w3 H _=>Cr (H.cR [0,2,3,1] (by decide) rfl)⟩
 ·refine H.nw fun p2 w8 H _=>⟨H.uv iK z8 rfl rfl (by decide) fun x w2 H _=>H.uv iK z8 rfl rfl (by decide) fun y w3 H _=>Cr H,H.uv iK z8 rfl rfl (by decide) fun y w2 H _=>H.uv iK z8 rfl rfl (by decide) fun x w3 H _=>Cr (H.cR [0,1,3,2] (by decide) rfl)⟩
end Go.Proofs.YtgjoehgomjgckaaGreatDoor
end
section
set_option linter.unusedVariables false
set_option linter.unusedSimpArgs false
namespace Go.Proofs.YtgjoehgomjgckaaGreatDoor
open Go Go.Ev
set_option maxRecDepth 20000
set_option linter.unusedVariables false
def a0:bK:=⟨1,1,1,1,0,0,0,0,0,0,0,S_a,⟨none,0,0⟩,⟨none,0,0⟩⟩
theorem aw1:dC a0 [] [] [] fT=0:=by kernel_rfl
theorem aw2:(dR a0 [] [] [] fT).id=2:=by kernel_rfl
theorem aw3:(dT a0 [] [] [] fT).bP.length=2:=by kernel_rfl
theorem aw4:dC a0 [] [] [] (dT a0 [] [] [] fT)=8:=by kernel_rfl
theorem aw5:kQ (dT a0 [] [] [] fT) 9=0:=by kernel_rfl
theorem aw6:oM (dT a0 [] [] [] fT) 9=0:=by kernel_rfl
theorem aw7:(jh (dT a0 [] [] [] fT) 9).clock=9:=by kernel_rfl
end Go.Proofs.YtgjoehgomjgckaaGreatDoor
end
section
set_option linter.unusedVariables false
set_option linter.unusedSimpArgs false
namespace Go.Proofs.YtgjoehgomjgckaaGreatDoor
open Go Go.Ev
set_option maxRecDepth 20000
set_option linter.unusedVariables false
def rD (k:aP):Prop:=k.aH.length≤1000∧∀ v∈k.aH,v.aq.length≤1000000
theorem BZ:rD kz:=⟨by show 0≤1000; omega,fun v hv=>by cases hv⟩
theorem als {id ten set:Int} {aq:List B8} (h:aq.length≤1000000):rD (qY id ten set aq):=by
 unfold qY
 split
 ·exact ⟨by show 1≤1000; omega,fun v hv=>by rw [List.mem_singleton.1 hv]; exact h⟩
 ·exact BZ
theorem alu {k:aP} {aq:List B8} (hk:rD k) (h:aq.length≤1000000):rD (iV k aq):=by
 by_cases h0:oQ k aq.length=0
 ·obtain ⟨h1,h2⟩:=XN h0
  obtain ⟨_,_,_,h5,_⟩:=vm h1
  refine ⟨by omega,fun v hv=>?_⟩
  rw [h2] at hv
  rcases List.mem_append.1 hv with h3 | h3
  ·exact hk.2 v h3
  ·rw [List.mem_singleton.1 h3]; exact h
 ·unfold iV; rw [if_neg h0]; exact BZ
theorem IC {A:Type} {l:List A} {i:Nat} {d:A}:l.getD i d∈l∨l.getD i d=d:=by
 rw [List.getD_eq_getElem?_getD]
 rcases Nat.lt_or_ge i l.length with h | h
 ·rw [List.getElem?_eq_getElem h]; exact .inl (List.getElem_mem h)
 ·rw [List.getElem?_eq_none h]; exact .inr rfl
theorem Iu {t:aR} (hs:t.small):∀ k∈t.keys,rD k:=fun k hk=>⟨hs.bu k hk,hs.aq k hk⟩
theorem alv {k:aP} {op bu dY clock:Int} (hk:rD k):rD (p7 k op bu dY clock):=by
 unfold p7
 split
 ·refine ⟨by show (k.aH.set _ _).length≤1000; rw [List.length_set]; exact hk.1,fun v hv=>?_⟩
  rcases List.mem_or_eq_of_mem_set hv with h | h
  ·exact hk.2 v h
  ·rw [h]
   show (k.aH.getD (bu - 1).toNat vz).aq.length≤1000000
   rcases IC (l:=k.aH) (i:=(bu - 1).toNat) (d:=vz) with h2 | h2
   ·exact hk.2 _ h2
   ·rw [h2]; exact Nat.zero_le _
 ·exact BZ
theorem amn {k:aP} {c:Int} (hk:rD k):rD (j9 k c):=by
 unfold j9
 split
 ·refine ⟨by show (k.aH.map _).length≤1000; rw [List.length_map]; exact hk.1,fun v hv=>?_⟩
  obtain ⟨u,hu,rfl⟩:=List.mem_map.1 hv
  unfold fP
  split
  ·exact Nat.zero_le _
  ·exact hk.2 u hu
 ·exact BZ
theorem alw (ts:List cv) (par:Int) (name:ByteArray):(sr ts par name).length≤1000:=by
 unfold sr
 split
 ·rename_i h
  have hm:gL ts=true:=by
   unfold oR at h
   split at h
   ·assumption
   ·omega
  unfold gL at hm
  rw [Bool.and_eq_true,decide_eq_true_eq] at hm
  rw [List.length_append,List.length_singleton]
  omega
 ·exact Nat.zero_le _
theorem akn {l:List bQ} {g:bQ} (h:oS l g=0):gy l=true:=by
 unfold oS at h
 split at h
 ·rename_i h2; exact h2.1
 ·omega
theorem aio {q:bK} {t:aR} (hs:t.small) (hf:(iX q).fit):(xX q t).br.length≤1000∧∀ g∈(xX q t).br,g.fit:=by
 show (if q.n2=13 then l8 t.br q.n7 else lD t.br (iX q)).length≤1000∧∀ g∈(if q.n2=13 then l8 t.br q.n7 else lD t.br (iX q)),g.fit
 split
 ·unfold l8
  split
  ·rw [List.length_set]
   refine ⟨hs.gr,fun g hg=>?_⟩
   rcases List.mem_or_eq_of_mem_set hg with h | h
   ·exact hs.gf g h
   ·rw [h]
    show -9223372036854775808≤(t.br.getD (q.n7 - 1).toNat gz).n3
    rcases IC (l:=t.br) (i:=(q.n7 - 1).toNat) (d:=gz) with h2 | h2
    ·exact hs.gf _ h2
    ·rw [h2]; decide
  ·exact ⟨Nat.zero_le _,fun g hg=>by cases hg⟩
 ·unfold lD
  split
  ·rename_i h
   have:=YK (akn h)
   rw [List.length_append,List.length_singleton]
   refine ⟨by omega,fun g hg=>?_⟩
   rcases List.mem_append.1 hg with h2 | h2
   ·exact hs.gf g h2
   ·rw [List.mem_singleton.1 h2]; exact hf
  ·exact ⟨Nat.zero_le _,fun g hg=>by cases hg⟩
theorem QC {t:aR} (hs:t.small) {ks:List aP} (hl:ks.length≤1000) (h:∀ k∈ks,rD k):({ t with keys:=ks }:aR).small:=
 { hs with key:=hl,bu:=fun k hk=>(h k hk).1,aq:=fun k hk=>(h k hk).2 }
theorem ajf {q:bK} {lb aq:List B8} {t:aR} (hf:Fit q t) (hg:(iX q).fit) (Uo:lb.length≤1000000) (dU:aq.length≤1000000):(o9 q lb aq t).small:=by
 have hs:=hf.small
 have hp6:=hf.aE
 have hk6:=hf.key
 unfold o9
 split
 ·exact { hs with ten:=alw _ _ _ }
 split
 ·refine { hs with aE:=?_,pk:=fun p hp=>?_ }
  ·show (t.aE ++ [vN q lb t]).length≤1000
   rw [List.length_append,List.length_singleton]; omega
  ·rcases List.mem_append.1 (show p∈t.aE ++ [vN q lb t] from hp) with h | h
   ·exact hs.pk p h
   ·rw [List.mem_singleton.1 h]; exact Uo
 split
 ·refine QC hs (by rw [List.length_append,List.length_singleton]; omega) fun k hk=>?_
  rcases List.mem_append.1 hk with h | h
  ·exact Iu hs k h
  ·rw [List.mem_singleton.1 h]; exact als dU
 split
 ·exact hs
 split
 ·obtain ⟨h1,h2⟩:=aio hs hg
  exact { hs with gr:=h1,gf:=h2 }
 ·refine QC hs (by rw [List.length_set]; exact hs.key) fun k hk=>?_
  rcases List.mem_or_eq_of_mem_set hk with h | h
  ·exact Iu hs k h
  ·have yG:rD (cA q t):=by
    unfold cA
    rcases IC (l:=t.keys) (i:=(q.n4 - 1).toNat) (d:=kz) with h2 | h2
    ·exact Iu hs _ h2
    ·rw [h2]; exact BZ
   rw [h]
   unfold CG
   split
   ·exact alu yG dU
   ·exact alv yG
theorem Ws:gM.small:=⟨Nat.zero_le _,Nat.zero_le _,Nat.zero_le _,Nat.zero_le _,Nat.zero_le _,fun p h=>(by cases h),fun p h=>(by cases h),fun p h=>(by cases h),fun p h=>(by cases h)⟩
theorem XO {q:bK} {lb lt aq:List B8} {t:aR} (hs:t.small) (Uo:lb.length≤1000000) (dU:aq.length≤1000000):(dT q lb lt aq t).small:=by
 unfold dT
 split
 ·rename_i h
  have h0:oU q lt t=0:=by
   unfold dC at h
   split at h
   ·assumption
   ·rename_i h2; exact absurd h h2
  have hq:=(QY h0).2.1
  have hg:(iX q).fit:=by
   have:=VZ hq q.n9 (by simp [bK.rest])
   show -9223372036854775808≤q.n9
   omega
  exact ajf (XL hs h0) hg Uo dU
 ·exact Ws
theorem V0 {t:aR} {c:Int} (hs:t.small):(jh t c).small:=by
 unfold jh
 split
 ·have h:=QC hs (ks:=gw t.keys c t.keys.length) (by rw [k8]; exact hs.key) fun k hk=>by
   unfold gw at hk
   obtain ⟨j,hj,rfl⟩:=List.mem_map.1 hk
   have hkj:rD (t.keys.getD j kz):=by
    rcases IC (l:=t.keys) (i:=j) (d:=kz) with h2 | h2
    ·exact Iu hs _ h2
    ·rw [h2]; exact BZ
   split
   ·exact amn hkj
   ·exact hkj
  exact { h with }
 ·exact Ws
end Go.Proofs.YtgjoehgomjgckaaGreatDoor
end
section
set_option linter.unusedVariables false
set_option linter.unusedSimpArgs false
namespace Go.Proofs.YtgjoehgomjgckaaGreatDoor
open Go Go.Ev
set_option maxRecDepth 20000
set_option linter.unusedVariables false
theorem XP:fT.small:=by
 have e:fT=kS oY (List.replicate 1312 0) (List.replicate 32 0):=by
  unfold fT Gt
  rw [if_pos (by kernel_rfl)]
 rw [e]
 exact QA (by simp) (by simp)
theorem afI (w:World) (hg:Laid w):Ok Pr DD [] w fun v w'=>v=.bool true∧Mod [] w w':=by
 refine aem ?_
 unfold NG
 rw [tH,tI]
 have hf:=XP
 have h1:=aw1
 have h2:=aw2
 have h3:=aw3
 have h4:=aw4
 have h5:=aw5
 have h6:=aw6
 have h7:=aw7
 have hT:=XO (q:=a0) (lb:=[]) (lt:=[]) (aq:=[]) hf (by simp) (by simp)
 generalize eT0:fT=T0 at *
 refine (ak.start w).nw fun p w1 H _=>H.HQ 0 rfl (by kernel_rfl) fun w2 H=>?_
 have H:ak w [] w2 [.av p a0.cells k6]:=H
 refine ajI fun go bY=>?_
 have main:∀ {pt pr:Nat} {er:Value} {w8:World} {s:dZ} {ys zs:List ah} {fp fq:List Nat} {y z:ah},ak w [] w8 ([.av p a0.cells k6,.av pt ((dT a0 [] [] [] T0).cs s) aN,.av pr (ew 0 2 y z) bI,aD.err er 0] ++ jm s (dT a0 [] [] [] T0) ys zs fp fq)→go ⟨pt,0,none⟩ ⟨pr,0,none⟩ er w8:=by
  intro pt pr er w8 s ys zs fp fq y z K
  have hx:gC w8 s (dT a0 [] [] [] T0):=lp (L:=[_,_,_,_]) K
  have htn:=hx.ten.len
  have CQ:∀ w',Bytes w' ⟨none,0,0⟩ []:=fun w'=>Sl.nil w' 1
  refine bY _ _ _ _ (K.bD 1 rfl (K.jH 0 rfl (aB (yU s (dT a0 [] [] [] T0) a0 [] [] ⟨none,0,0⟩ [] hT (by simp) w8 (hg.oO K (by simp)) hx (CQ _) (CQ _) (CQ _)) ?_)))
  rintro _ w4 ⟨s2,jv,zs2,dX,jG,y2,z2,TV,rfl,G⟩
  rw [h4] at G ⊢
  have K:=K.join G
  generalize dT a0 [] [] [] (dT a0 [] [] [] T0)=T2 at *
  generalize (dR a0 [] [] [] (dT a0 [] [] [] T0))=R2 at *
  refine ⟨_,rfl,iu (qD ⟨rfl,K.nw fun p1 w5 K _=>K.nw fun p2 w6 K _=>K.bE 21 rfl rfl fun w7 K=>K.bN 22 rfl rfl fun w8 K=>K.bD 1 rfl ?_⟩)⟩
  refine aB (DH s (dT a0 [] [] [] T0) 9 hT w8 (lp (L:=[_,_,_,_]) (K.take 11))) ?_
  rintro _ w9 ⟨s3,wI,wJ,Gx,Gy,er3,rfl,G3⟩
  rw [h5] at G3
  rw [h6]
  have K:=K.join G3
  refine ⟨_,rfl,iu ⟨_,rfl,rfl,K.nw fun p3 cM K _=>K.bE 31 rfl rfl fun cZ K=>?_⟩⟩
  have e0:fW cZ er 0:=K.ok 3 _ rfl
  have e2:fW cZ TV 8:=K.ok 20 _ rfl
  have e3:fW cZ er3 0:=K.ok 30 _ rfl
  refine e0.isNil (K.an 2 rfl (au pr 1) rfl (K.ax 1 rfl (au pt 2) rfl (ite_true ?_ (aB (VA TV 8 cZ (hg.oO K (by simp)) e2) ?_))))
  ·rw [show ((s.ten.n:Nat):Int)=2 by omega]; rfl
  rintro _ fV ⟨rfl,kK⟩
  have K:=K.frame kK
  refine eE (K.an 22 rfl (au p2 0) rfl (ite_true (by decide) ((e3.mod kK).isNil (K.an 31 rfl (au p3 0) rfl ⟨?_,K.mod⟩))))
  rw [h7]; rfl
 have fin:∀ {pt pr:Nat} {er:Value} {w5:World} {s:dZ} {ys zs:List ah} {fp fq:List Nat} {y z:ah},ak w [] w5 [.av p a0.cells k6,.av pt (gM.cs sZ) aN,.av pr (ew 0 0 ⟨none,0,0⟩ ⟨none,0,0⟩) bI,aD.err er 0,.row aX 1 s.sec (bp (dT a0 [] [] [] T0).bG),.row dh 3 s.ten (fQ (dT a0 [] [] [] T0).bP),.row cB 6 s.gr (dK (dT a0 [] [] [] T0).br),.row eu 5 s.aE (bh ct.cs (dT a0 [] [] [] T0).aE ys),.box fp fun w=>bn gB w ys (dT a0 [] [] [] T0).aE,.row aV 4 s.key (bh aP.cs (dT a0 [] [] [] T0).keys zs),.box fq fun w=>bn fG w zs (dT a0 [] [] [] T0).keys]→
   bE ⟨pt,0,none⟩ (dT a0 [] [] [] T0).clock s.sec s.ten s.aE s.key s.gr w5 fun w6=>bN ⟨pr,0,none⟩ 0 2 y z w6 fun w7=>go ⟨pt,0,none⟩ ⟨pr,0,none⟩ er w7:=fun {pt pr er w5 s ys zs fp fq y z} K=>
  K.bE 1 rfl rfl fun w6 K=>K.bN 2 rfl rfl fun w7 K=>main (ys:=ys) (zs:=zs) (fp:=fp) (fq:=fq) K
 have qx:∀ {w8:World} {M:List aD} {s:dZ} {ys zs:List ah} {fp fq:List Nat},ak w [] w8 (M ++ jm s T0 ys zs fp fq)→Ok Pr gV [.agg ⟨T0.cs s⟩,.agg ⟨a0.cells⟩,.slice none 0 0] w8 fun v w'=>∃ s1 qy qz qA qB y z er,v=.tuple ⟨[.agg ⟨(dT a0 [] [] [] T0).cs s1⟩,.agg ⟨ew 0 2 y z⟩,er]⟩∧ak w [] w' (M ++ (jm s1 (dT a0 [] [] [] T0) qy qz qA qB ++ [.cut y (dR a0 [] [] [] T0).gD,.cut z (dR a0 [] [] [] T0).ex,aD.err er 0]))∧Mod [] w8 w':=by
  intro w8 M s ys zs fp fq K
  refine (yU s T0 a0 [] [] ⟨none,0,0⟩ [] hf (by simp) w8 (hg.oO K (by simp)) (lp K) (Sl.nil _ 1) (Sl.nil _ 1) (Sl.nil _ 1)).mono ?_
  rintro v w' ⟨s1,qy,qz,qA,qB,y,z,er,rfl,G⟩
  rw [h1] at G ⊢
  rw [h2]
  refine ⟨s1,qy,qz,qA,qB,y,z,er,rfl,?_,G.mod⟩
  have K2:=(K.take M.length)
  rw [List.take_left] at K2
  exact K2.join G
 have D2:∀ {pt pr:Nat} {w8:World} {s:dZ} {ys zs:List ah} {fp fq:List Nat},ak w [] w8 ([.av p a0.cells k6,.av pt (gM.cs sZ) aN,.av pr (ew 0 0 ⟨none,0,0⟩ ⟨none,0,0⟩) bI] ++ jm s T0 ys zs fp fq)→
   ay Pr gV [.agg ⟨T0.cs s⟩,.agg ⟨a0.cells⟩,.slice none 0 0] w8 fun v w9=>bw.bC v fun vs=>aC vs fun v1 r=>dB v1 fun t0 t1 t2 t3 t4 t5=>aC r fun v2 r2=>fR v2 fun c0 c1 c2 c3=>aC r2 fun v3 r3=>(r3=[]∧bE ⟨pt,0,none⟩ t0 t1 t2 t3 t4 t5 w9 fun w6=>bN ⟨pr,0,none⟩ c0 c1 c2 c3 w6 fun w7=>go ⟨pt,0,none⟩ ⟨pr,0,none⟩ v3 w7):=by
  intro pt pr w8 s ys zs fp fq K
  refine aB (qx K) ?_
  rintro _ w9 ⟨s1,qy,qz,qA,qB,y,z,er,rfl,G,m⟩
  refine ⟨_,rfl,iu (qD ⟨rfl,fin (ys:=qy) (zs:=qz) (fp:=qA) (fq:=qB) ?_⟩)⟩
  exact G.cR [0,1,2,12,3,4,5,6,7,8,9] (by decide) rfl
 have D1t:∀ {pt:Nat} {w8:World} {s:dZ} {ys zs:List ah} {fp fq:List Nat},ak w [] w8 ([.av p a0.cells k6,.av pt (gM.cs sZ) aN] ++ jm s T0 ys zs fp fq)→
   ay Pr gV [.agg ⟨T0.cs s⟩,.agg ⟨a0.cells⟩,.slice none 0 0] w8 fun v w9=>bw.bC v fun vs=>aC vs fun v1 r=>dB v1 fun t0 t1 t2 t3 t4 t5=>aC r fun v2 r2=>fR v2 fun c0 c1 c2 c3=>aC r2 fun v3 r3=>(r3=[]∧nw bI (ew 0 0 ⟨none,0,0⟩ ⟨none,0,0⟩) w9 fun pr cM=>(kept ⟨p,0,none⟩ 14 w9 cM∧bE ⟨pt,0,none⟩ t0 t1 t2 t3 t4 t5 cM fun w6=>bN pr c0 c1 c2 c3 w6 fun w7=>go ⟨pt,0,none⟩ pr v3 w7)):=by
  intro pt w8 s ys zs fp fq K
  refine aB (qx K) ?_
  rintro _ w9 ⟨s1,qy,qz,qA,qB,y,z,er,rfl,G,m⟩
  refine ⟨_,rfl,iu (qD ⟨rfl,G.ir fun pr cM G2 _=>⟨fZ (G.av 0 rfl) (G2.av 0 rfl) 14,fin (ys:=qy) (zs:=qz) (fp:=qA) (fq:=qB) ?_⟩⟩)⟩
  exact G2.cR [0,1,12,11,2,3,4,5,6,7,8] (by decide) rfl
 have D1r:∀ {pr:Nat} {w8:World} {s:dZ} {ys zs:List ah} {fp fq:List Nat},ak w [] w8 ([.av p a0.cells k6,.av pr (ew 0 0 ⟨none,0,0⟩ ⟨none,0,0⟩) bI] ++ jm s T0 ys zs fp fq)→
   ay Pr gV [.agg ⟨T0.cs s⟩,.agg ⟨a0.cells⟩,.slice none 0 0] w8 fun v w9=>bw.bC v fun vs=>aC vs fun v1 r=>dB v1 fun t0 t1 t2 t3 t4 t5=>aC r fun v2 r2=>fR v2 fun c0 c1 c2 c3=>aC r2 fun v3 r3=>(r3=[]∧nw aN (k5 0 ⟨none,0,0⟩ ⟨none,0,0⟩ ⟨none,0,0⟩ ⟨none,0,0⟩ ⟨none,0,0⟩) w9 fun pt cM=>(kept ⟨p,0,none⟩ 14 w9 cM∧bE pt t0 t1 t2 t3 t4 t5 cM fun w6=>bN ⟨pr,0,none⟩ c0 c1 c2 c3 w6 fun w7=>go pt ⟨pr,0,none⟩ v3 w7)):=by
  intro pr w8 s ys zs fp fq K
  refine aB (qx K) ?_
  rintro _ w9 ⟨s1,qy,qz,qA,qB,y,z,er,rfl,G,m⟩
  refine ⟨_,rfl,iu (qD ⟨rfl,G.ir fun pt cM G2 _=>⟨fZ (G.av 0 rfl) (G2.av 0 rfl) 14,fin (ys:=qy) (zs:=qz) (fp:=qA) (fq:=qB) ?_⟩⟩)⟩
  exact G2.cR [0,12,1,11,2,3,4,5,6,7,8] (by decide) rfl
 have first:∀ w8,Ok Pr uR [] w8 fun v w'=>AT w8 w' v T0:=fun w8=>eT0 ▸ U9 w8
 have D:=H.drew
 refine D.jH 0 rfl ⟨?_,?_,?_⟩
 ·refine aB (first _) ?_
  rintro _ fO ⟨s,ys,zs,fp,fq,rfl,G⟩
  have K:=D.join G
  refine iu ⟨fZ (D.av 0 rfl) (K.av 0 rfl) 14,?_,?_,?_⟩
  ·refine aB (qx K) ?_
   rintro _ w9 ⟨s1,qy,qz,qA,qB,y,z,er,rfl,G,m⟩
   refine ⟨_,rfl,iu (qD ⟨rfl,G.ir fun pt cM G2 _=>⟨fZ (G.av 0 rfl) (G2.av 0 rfl) 14,G2.ir fun pr cZ G3 _=>⟨fZ (G2.av 0 rfl) (G3.av 0 rfl) 14,fin (ys:=qy) (zs:=qz) (fp:=qA) (fq:=qB) ?_⟩⟩,G.ir fun pr cM G2 _=>⟨fZ (G.av 0 rfl) (G2.av 0 rfl) 14,G2.ir fun pt cZ G3 _=>⟨fZ (G2.av 0 rfl) (G3.av 0 rfl) 14,fin (ys:=qy) (zs:=qz) (fp:=qA) (fq:=qB) ?_⟩⟩⟩)⟩
   ·exact G3.cR [0,11,12,10,1,2,3,4,5,6,7] (by decide) rfl
   ·exact G3.cR [0,12,11,10,1,2,3,4,5,6,7] (by decide) rfl
  ·refine K.ir fun pt cM K2 _=>⟨fZ (K.av 0 rfl) (K2.av 0 rfl) 14,D1t (ys:=ys) (zs:=zs) (fp:=fp) (fq:=fq) (K2.cR [0,8,1,2,3,4,5,6,7] (by decide) rfl),K2.ir fun pr cZ K3 _=>⟨fZ (K2.av 0 rfl) (K3.av 0 rfl) 14,D2 (ys:=ys) (zs:=zs) (fp:=fp) (fq:=fq) (K3.cR [0,8,9,1,2,3,4,5,6,7] (by decide) rfl)⟩⟩
  ·refine K.ir fun pr cM K2 _=>⟨fZ (K.av 0 rfl) (K2.av 0 rfl) 14,D1r (ys:=ys) (zs:=zs) (fp:=fp) (fq:=fq) (K2.cR [0,8,1,2,3,4,5,6,7] (by decide) rfl),K2.ir fun pt cZ K3 _=>⟨fZ (K2.av 0 rfl) (K3.av 0 rfl) 14,D2 (ys:=ys) (zs:=zs) (fp:=fp) (fq:=fq) (K3.cR [0,9,8,1,2,3,4,5,6,7] (by decide) rfl)⟩⟩
 ·refine D.ir fun pt cM sY _=>⟨fZ (D.av 0 rfl) (sY.av 0 rfl) 14,?_,?_⟩
  ·refine aB (first _) ?_
   rintro _ fO ⟨s,ys,zs,fp,fq,rfl,G⟩
   have K:=sY.join G
   exact iu ⟨fZ (sY.av 0 rfl) (K.av 0 rfl) 14,D1t (ys:=ys) (zs:=zs) (fp:=fp) (fq:=fq) K,K.ir fun pr cZ K3 _=>⟨fZ (K.av 0 rfl) (K3.av 0 rfl) 14,D2 (ys:=ys) (zs:=zs) (fp:=fp) (fq:=fq) (K3.cR [0,1,9,2,3,4,5,6,7,8] (by decide) rfl)⟩⟩
  ·refine sY.ir fun pr cZ AP _=>⟨fZ (sY.av 0 rfl) (AP.av 0 rfl) 14,aB (first _) ?_⟩
   rintro _ fO ⟨s,ys,zs,fp,fq,rfl,G⟩
   have K:=AP.join G
   exact iu ⟨fZ (AP.av 0 rfl) (K.av 0 rfl) 14,D2 (ys:=ys) (zs:=zs) (fp:=fp) (fq:=fq) K⟩
 ·refine D.ir fun pr cM sY _=>⟨fZ (D.av 0 rfl) (sY.av 0 rfl) 14,?_,?_⟩
  ·refine aB (first _) ?_
   rintro _ fO ⟨s,ys,zs,fp,fq,rfl,G⟩
   have K:=sY.join G
   exact iu ⟨fZ (sY.av 0 rfl) (K.av 0 rfl) 14,D1r (ys:=ys) (zs:=zs) (fp:=fp) (fq:=fq) K,K.ir fun pt cZ K3 _=>⟨fZ (K.av 0 rfl) (K3.av 0 rfl) 14,D2 (ys:=ys) (zs:=zs) (fp:=fp) (fq:=fq) (K3.cR [0,9,1,2,3,4,5,6,7,8] (by decide) rfl)⟩⟩
  ·refine sY.ir fun pt cZ AP _=>⟨fZ (sY.av 0 rfl) (AP.av 0 rfl) 14,aB (first _) ?_⟩
   rintro _ fO ⟨s,ys,zs,fp,fq,rfl,G⟩
   have K:=AP.join G
   exact iu ⟨fZ (AP.av 0 rfl) (K.av 0 rfl) 14,D2 (ys:=ys) (zs:=zs) (fp:=fp) (fq:=fq) (K.cR [0,2,1,3,4,5,6,7,8,9] (by decide) rfl)⟩
end Go.Proofs.YtgjoehgomjgckaaGreatDoor
end
section
set_option linter.unusedVariables false
set_option linter.unusedSimpArgs false
namespace Go.Proofs.YtgjoehgomjgckaaGreatDoor
open Go Go.Ev
set_option maxRecDepth 20000
set_option linter.unusedVariables false
structure gN where
 q:bK
 sd:ah
 tick:Bool
def qC:gN:=⟨a0,⟨none,0,0⟩,false⟩
def gN.cs (a:gN) (_:ah):List Value:=a.q.cells ++ [.slice a.sd.a a.sd.n a.sd.c,.bool a.tick]
theorem gN.cz (a:gN) (x:ah):(a.cs x).length=16:=rfl
def Up (_:World) (_:ah) (_:gN):Prop:=True
def oW (w:World) (s:ah) (l:List gN):Prop:=Dv gN.cs 16 Up w s l
theorem oW.aG {w w':World} {s:ah} {l:List gN} (h:oW w s l) (m:Mod [] w w'):oW w' s l:=Dv.aG (E:=Up) (fun _ _=>trivial) h m
theorem oW.len {w:World} {s:ah} {l:List gN} (h:oW w s l):l.length=s.n:=Dv.len gN.cz (by omega) h
theorem oW.at {w:World} {s:ah} {l:List gN} (h:oW w s l) {i:Nat} (hi:i<l.length) :
  (s.a.isSome=true∧(0:Int)≤(i:Int)∧(i:Int)<(s.n:Int))∧∀ (j:Nat) (v:Value),((l.getD i qC).cs ⟨none,0,0⟩)[j]? = some v→w.cell? (Addr.add (Addr.add (base s.a) (Int.toNat (i:Int) * 16)) j)=some v:=by
 obtain ⟨h1,x,_,h2⟩:=Dv.at gN.cz (by omega) h (show l[i]? = some (l.getD i qC) by rw [List.getD_eq_getElem?_getD,List.getElem?_eq_getElem hi]; rfl)
 exact ⟨h1,h2⟩
def EM (a:gN):Prop:=(a.q.name.size≤400∧a.q.gD.n≤3000∧a.q.tok.n≤200)∧a.sd.n≤100
theorem afJ (x:ah) (l:List gN) (oV:Int) (hm:oV≤1000000) (w:World) (hx:oW w x l):Ok Pr MO [.slice x.a x.n x.c,.int .i64 oV] w fun v w'=>∃ b,v=.bool b∧Mod [] w w'∧(b=false→(l.length:Int)≤oV∧∀ a∈l,EM a):=by
 refine ael ?_
 unfold NF
 have bU:=hx.len
 by_cases h8:(l.length:Int)≤oV
 case neg=>
  refine zo (fun i w'=>Mod [] w w') (fun _ _=>0) (Mod.refl _ _) ?_
  intro again i w1 m aM
  refine ite_false ?_ ⟨_,rfl,m,fun h=>?_⟩
  ·rw [show decide ((x.n:Int)≤oV)=false from decide_eq_false (by omega),Bool.and_false]
  ·rw [decide_eq_true (show oV<(x.n:Int) by omega)] at h; cases h
 refine dm 0 l.length (fun i w'=>Mod [] w w'∧∀ j,j<i→EM (l.getD j qC)) rfl (by omega) ⟨Mod.refl _ _,fun j h=>by omega⟩ ?_ ?_
 ·rintro again i w1 _ hi ⟨m,hl⟩ aM
  obtain ⟨k1,c1⟩:=(hx.aG m).at hi
  refine ite_true (by rw [decide_eq_true (show (i:Int)<(x.n:Int) by omega),decide_eq_true (show (x.n:Int)≤oV by omega)]; rfl) ⟨k1,?_⟩
  refine M8 (fun j v hv=>?_) (aB (ad3 (l.getD i qC).q w1) ?_)
  ·rw [add_add,Nat.zero_add]
   refine c1 j v ?_
   have hj:j<(l.getD i qC).q.cells.length:=(List.getElem?_eq_some_iff.1 hv).1
   show ((l.getD i qC).q.cells ++ _)[j]? = some v
   rw [List.getElem?_append_left hj]
   exact hv
  rintro _ w2 ⟨b,rfl,m2,hb⟩
  refine bz ?_
  cases b with
  | true=>exact ite_true rfl ⟨true,rfl,m.trans m2,fun h=>by cases h⟩
  | false=>
   refine ite_false rfl ⟨k1,(l.getD i qC).sd,m2.pP (c1 14 _ rfl),bV (fun h=>⟨true,rfl,m.trans m2,fun h=>by cases h⟩) fun h=>⟨⟨by omega,by omega⟩,aM _ ⟨m.trans m2,fun j hj=>?_⟩⟩⟩
   rcases Nat.lt_or_ge j i with h2 | h2
   ·exact hl j h2
   ·have:=of_decide_eq_false h
    rw [show j=i by omega]
    exact ⟨hb rfl,by omega⟩
 ·rintro again w1 ⟨m,hl⟩
  refine ite_false (by rw [decide_eq_false (show ¬ ((l.length:Nat):Int)<(x.n:Int) by omega),Bool.false_and]) ⟨_,rfl,m,fun _=>⟨h8,alr hl⟩⟩
end Go.Proofs.YtgjoehgomjgckaaGreatDoor
end
section
set_option linter.unusedVariables false
set_option linter.unusedSimpArgs false
namespace Go.Proofs.YtgjoehgomjgckaaGreatDoor
open Go Go.Ev
set_option maxRecDepth 100000
set_option linter.unusedVariables false
def g1:bQ:=⟨1,1,2,1024,9,false⟩
end Go.Proofs.YtgjoehgomjgckaaGreatDoor
end
section
set_option linter.unusedVariables false
set_option linter.unusedSimpArgs false
namespace Go.Proofs.YtgjoehgomjgckaaGreatDoor
open Go Go.Ev
set_option maxRecDepth 20000
set_option linter.unusedVariables false
def xY (w:World) (a:gN) (lb lt aq:List B8):Prop:=Bytes w a.q.gD lb∧Bytes w a.q.tok lt∧Bytes w a.sd aq
theorem xY.aG {w w':World} {a:gN} {lb lt aq:List B8} (h:xY w a lb lt aq) (m:Mod [] w w'):xY w' a lb lt aq:=⟨h.1.aG m,h.2.1.aG m,h.2.2.aG m⟩
end Go.Proofs.YtgjoehgomjgckaaGreatDoor
end
section
set_option linter.unusedVariables false
set_option linter.unusedSimpArgs false
namespace Go.Proofs.YtgjoehgomjgckaaGreatDoor
open Go Go.Ev
set_option maxRecDepth 20000
set_option linter.unusedVariables false
theorem XQ {t:aR}:∀ n,l9 t n=true↔∀ i,i<n→p8 t i (t.aE.getD i fF)=true
 | 0=>⟨fun _ i h=>by omega,fun _=>rfl⟩
 | n+1=>by
  show (l9 t n && p8 t n (t.aE.getD n fF))=true↔_
  rw [Bool.and_eq_true,XQ n]
  refine ⟨fun h i hi=>?_,fun h=>⟨fun i hi=>h i (by omega),h n (by omega)⟩⟩
  rcases Nat.lt_or_ge i n with e | e
  ·exact h.1 i e
  ·rw [show i=n by omega]; exact h.2
theorem XR {t:aR}:∀ n,mh t n=true↔∀ i,i<n→kB t i (t.keys.getD i kz)=true
 | 0=>⟨fun _ i h=>by omega,fun _=>rfl⟩
 | n+1=>by
  show (mh t n && kB t n (t.keys.getD n kz))=true↔_
  rw [Bool.and_eq_true,XR n]
  refine ⟨fun h i hi=>?_,fun h=>⟨fun i hi=>h i (by omega),h n (by omega)⟩⟩
  rcases Nat.lt_or_ge i n with e | e
  ·exact h.1 i e
  ·rw [show i=n by omega]; exact h.2
theorem YT {ts:List cv}:∀ n,mQ ts n=true↔∀ i,i<n→nO ts i=true
 | 0=>⟨fun _ i h=>by omega,fun _=>rfl⟩
 | n+1=>by
  show (mQ ts n && nO ts n)=true↔_
  rw [Bool.and_eq_true,YT n]
  refine ⟨fun h i hi=>?_,fun h=>⟨fun i hi=>h i (by omega),h n (by omega)⟩⟩
  rcases Nat.lt_or_ge i n with e | e
  ·exact h.1 i e
  ·rw [show i=n by omega]; exact h.2
structure nR (t:aR):Prop where
 clock:0≤t.clock∧t.clock≤1099511627776
 sec:t.bG.length=32
 aaE:1≤t.bP.length
 ten:gL t.bP=true
 CI:1≤t.aE.length∧t.aE.length≤6
 xZ:t.keys.length≤6
 gr:gy t.br=true
 aE:∀ (i:Nat) (p:ct),t.aE[i]? = some p→p.id=(i:Int)+1∧aS 1 (t.bP.length:Int) p.ten=true∧p.key.length=jD 1∧fU p.high p.used=true
 key:∀ (i:Nat) (k:aP),t.keys[i]? = some k→k.id=(i:Int)+1∧aS 1 (t.bP.length:Int) k.ten=true∧cL k=true
 bad:∀ g∈t.br,g.n1≤(t.keys.length:Int)∧g.n2≤(t.aE.length:Int)
theorem HV {t:aR}:fE t=true↔nR t:=by
 have w1:∀ {a b c:Int},aS a b c=true↔a≤c∧c≤b:=fun {a b c}=>by unfold aS; simp only [Bool.and_eq_true,decide_eq_true_eq]
 unfold fE Am
 simp only [Bool.and_eq_true,decide_eq_true_eq,Bool.not_eq_true',w1]
 rw [XQ,XR]
 have e1:(t.br.any (p9 t)=false)↔∀ g∈t.br,g.n1≤(t.keys.length:Int)∧g.n2≤(t.aE.length:Int):=by
  rw [List.any_eq_false]
  refine forall_congr' fun g=>forall_congr' fun _=>?_
  unfold p9
  simp only [Bool.or_eq_true,decide_eq_true_eq]
  omega
 rw [e1]
 have e2:(∀ i,i<t.aE.length→p8 t i (t.aE.getD i fF)=true)↔∀ (i:Nat) (p:ct),t.aE[i]? = some p→p.id=(i:Int)+1∧aS 1 (t.bP.length:Int) p.ten=true∧p.key.length=jD 1∧fU p.high p.used=true:=by
  refine ⟨fun h i p hp=>?_,fun h i hi=>?_⟩
  ·have:=h i (List.getElem?_eq_some_iff.1 hp).1
   rw [List.getD_eq_getElem?_getD,hp] at this
   unfold p8 at this
   simpa only [Bool.and_eq_true,decide_eq_true_eq,Option.getD_some] using this
  ·have:=h i _ (List.getElem?_eq_getElem hi)
   rw [List.getD_eq_getElem?_getD,List.getElem?_eq_getElem hi]
   unfold p8
   simpa only [Bool.and_eq_true,decide_eq_true_eq,Option.getD_some] using this
 have e3:(∀ i,i<t.keys.length→kB t i (t.keys.getD i kz)=true)↔∀ (i:Nat) (k:aP),t.keys[i]? = some k→k.id=(i:Int)+1∧aS 1 (t.bP.length:Int) k.ten=true∧cL k=true:=by
  refine ⟨fun h i p hp=>?_,fun h i hi=>?_⟩
  ·have:=h i (List.getElem?_eq_some_iff.1 hp).1
   rw [List.getD_eq_getElem?_getD,hp] at this
   unfold kB at this
   simpa only [Bool.and_eq_true,decide_eq_true_eq,Option.getD_some] using this
  ·have:=h i _ (List.getElem?_eq_getElem hi)
   rw [List.getD_eq_getElem?_getD,List.getElem?_eq_getElem hi]
   unfold kB
   simpa only [Bool.and_eq_true,decide_eq_true_eq,Option.getD_some] using this
 rw [e2,e3]
 refine ⟨fun ⟨⟨⟨a1,a2⟩,a3,a4,a5,⟨a6,a7⟩,a8,a9⟩,b1,b2,b3⟩=>⟨⟨a1,a2⟩,a3,a4,a5,⟨by omega,by omega⟩,a8,a9,b1,b2,b3⟩,fun h=>⟨⟨h.clock,h.sec,h.aaE,h.ten,⟨by have:=h.CI; omega,by have:=h.CI; omega⟩,h.xZ,h.gr⟩,h.aE,h.key,h.bad⟩⟩
theorem Rq {A:Type} {l:List A} {a b:A} {i:Nat} (h:(l ++ [a])[i]? = some b):(l[i]? = some b∧i<l.length)∨(i=l.length∧b=a):=by
 rcases Nat.lt_or_ge i l.length with e | e
 ·rw [List.getElem?_append_left e] at h; exact .inl ⟨h,e⟩
 ·rw [List.getElem?_append_right e] at h
  rcases Nat.eq_zero_or_pos (i - l.length) with e2 | e2
  ·rw [e2] at h; exact .inr ⟨by omega,(Option.some.inj h).symm⟩
  ·rw [List.getElem?_eq_none (by simp; omega)] at h; cases h
theorem RI {A:Type} {l:List A} {a b:A} {i j:Nat} (h:(l.set j a)[i]? = some b):(l[i]? = some b∧i≠j)∨(i=j∧b=a∧j<l.length):=by
 rw [List.getElem?_set] at h
 split at h
 ·rename_i e
  split at h
  ·rename_i e2; exact .inr ⟨e.symm,(Option.some.inj h).symm,by omega⟩
  ·cases h
 ·rename_i e; exact .inl ⟨h,fun e2=>e e2.symm⟩
theorem w2 {a b c:Int}:aS a b c=true↔a≤c∧c≤b:=by unfold aS; simp only [Bool.and_eq_true,decide_eq_true_eq]
theorem ako {ts:List cv} {par:Int} {name:ByteArray} (h:oR ts par name=0):gL (sr ts par name)=true∧sr ts par name=ts ++ [⟨(ts.length:Int)+1,par,name⟩]:=by
 have e:sr ts par name=ts ++ [⟨(ts.length:Int)+1,par,name⟩]:=by unfold sr; rw [if_pos h]
 refine ⟨?_,e⟩
 rw [e]
 unfold oR at h
 split at h
 ·rename_i h1
  split at h
  ·rename_i h2
   split at h
   ·rename_i h3
    split at h
    ·omega
    ·rename_i h4
     split at h
     ·omega
     ·rename_i h5
      unfold gL at h1 ⊢
      rw [Bool.and_eq_true,decide_eq_true_eq,YT] at h1 ⊢
      rw [w2] at h2
      refine ⟨by simp; omega,fun i hi=>?_⟩
      rw [List.length_append,List.length_singleton] at hi
      rcases Nat.lt_or_ge i ts.length with k | k
      ·have:=h1.2 i k
       unfold nO at this ⊢
       rw [List.getD_eq_getElem?_getD,List.getElem?_append_left k,← List.getD_eq_getElem?_getD,List.take_append_of_le_length (by omega)]
       exact this
      ·have:i=ts.length:=by omega
       subst this
       unfold nO
       rw [List.getD_eq_getElem?_getD,List.getElem?_append_right (Nat.le_refl _),Nat.sub_self,List.take_append_of_le_length (Nat.le_refl _),List.take_length]
       simp only [List.getElem?_cons_zero,Option.getD_some,decide_true,Bool.true_and,Bool.and_eq_true,decide_eq_true_eq,Bool.not_eq_true']
       exact ⟨by omega,by omega,h3,by simpa using h4⟩
   ·omega
  ·omega
 ·omega
theorem akp {high:Int} {u:aI} {n:Int} (h:mG high u n=0):fU (uk high u n) (xU high u n)=true∧mG (uk high u n) (xU high u n) n=8:=by
 have hH:uk high u n=if high<n then n else high:=by unfold uk; rw [if_pos h]
 have hU:xU high u n=if high<n then (u <<< (min (n - high) 64).toNat) ||| 1 else u ||| ((1:aI) <<< (high - n).toNat):=by unfold xU; rw [if_pos h]
 rw [hH,hU]
 unfold mG at h
 split at h
 case isFalse=>omega
 rename_i hm
 split at h
 case isFalse=>omega
 rename_i hf
 unfold nu at hf
 split at hf
 case isFalse=>cases hf
 rename_i hc
 obtain ⟨_,c1,c2,c3⟩:=hc
 have hr:=Ro hm
 have key:fU (if high<n then n else high) (if high<n then (u <<< (min (n - high) 64).toNat) ||| 1 else u ||| ((1:aI) <<< (high - n).toNat))=true∧nu (if high<n then n else high) (if high<n then (u <<< (min (n - high) 64).toNat) ||| 1 else u ||| ((1:aI) <<< (high - n).toNat)) n=false:=by
  by_cases bZ:high<n
  ·rw [if_pos bZ,if_pos bZ]
   have m1:fU n ((u <<< (min (n - high) 64).toNat) ||| 1)=true:=by
    unfold fU
    rw [if_neg (by omega),if_neg (by omega),Bool.and_eq_true,decide_eq_true_eq,decide_eq_true_eq]
    refine ⟨fun g8=>?_,?_⟩
    ·unfold fU at hm
     rw [if_neg (by omega)] at hm
     have hu:u >>> high.toNat=0:=by
      split at hm
      ·have:=of_decide_eq_true hm; rw [this]; simp
      ·rw [Bool.and_eq_true,decide_eq_true_eq] at hm; exact hm.1 (by omega)
     have e:(min (n - high) 64).toNat=n.toNat - high.toNat:=by omega
     rw [e]
     refine BitVec.eq_of_getLsbD_eq fun i hi=>?_
     have hg:=congrArg (fun v:aI=>v.getLsbD i) hu
     simp only [BitVec.getLsbD_ushiftRight,BitVec.getLsbD_zero] at hg
     simp only [BitVec.getLsbD_ushiftRight,BitVec.getLsbD_or,BitVec.getLsbD_shiftLeft,BitVec.getLsbD_zero,BitVec.getLsbD_one]
     have e2:n.toNat+i - (n.toNat - high.toNat)=high.toNat+i:=by omega
     rw [e2,hg]
     have:¬ (n.toNat+i=0):=by omega
     simp [this]
     omega
    ·refine BitVec.eq_of_getLsbD_eq fun i hi=>?_
     simp only [BitVec.getLsbD_and,BitVec.getLsbD_or,BitVec.getLsbD_one]
     by_cases e:i=0 <;> simp [e]
   refine ⟨m1,?_⟩
   unfold nu
   rw [if_pos ⟨m1,c1,c2,by omega⟩,decide_eq_false (by omega),Bool.false_or,decide_eq_false]
   intro hb
   have hg:=congrArg (fun v:aI=>v.getLsbD 0) hb
   unfold bt at hg
   simp at hg
  ·rw [if_neg bZ,if_neg bZ]
   rw [decide_eq_false bZ,Bool.false_or,decide_eq_true_eq] at hf
   have m1:fU high (u ||| ((1:aI) <<< (high - n).toNat))=true:=by
    unfold fU at hm ⊢
    rw [if_neg (by omega)] at hm ⊢
    rw [if_neg (by omega)] at hm ⊢
    rw [Bool.and_eq_true,decide_eq_true_eq,decide_eq_true_eq] at hm ⊢
    refine ⟨fun g8=>?_,?_⟩
    ·refine BitVec.eq_of_getLsbD_eq fun i hi=>?_
     have hg:=congrArg (fun v:aI=>v.getLsbD i) (hm.1 g8)
     simp only [BitVec.getLsbD_ushiftRight,BitVec.getLsbD_zero] at hg
     simp only [BitVec.getLsbD_ushiftRight,BitVec.getLsbD_or,BitVec.getLsbD_shiftLeft,BitVec.getLsbD_zero,BitVec.getLsbD_one,hg]
     have:¬ (high.toNat+i - (high - n).toNat=0):=by omega
     simp [this]
    ·refine BitVec.eq_of_getLsbD_eq fun i hi=>?_
     have hg:=congrArg (fun v:aI=>v.getLsbD i) hm.2
     simp only [BitVec.getLsbD_and,BitVec.getLsbD_one] at hg
     simp only [BitVec.getLsbD_and,BitVec.getLsbD_or,BitVec.getLsbD_one]
     by_cases e:i=0
     ·subst e
      simp at hg
      simp [hg]
     ·simp [e]
   refine ⟨m1,?_⟩
   unfold nu
   rw [if_pos ⟨m1,c1,c2,c3⟩,decide_eq_false bZ,Bool.false_or,decide_eq_false]
   intro hb
   have hg:=congrArg (fun v:aI=>v.getLsbD 0) hb
   unfold bt at hg
   have g8:(high - n).toNat<64:=by omega
   simp [g8] at hg
 refine ⟨key.1,?_⟩
 unfold mG
 rw [if_pos key.1,if_neg (by rw [key.2]; decide)]
theorem akq {q:bK} {t:aR} (h:nR t) (hw:aS 1 (t.aE.length:Int) q.n0=true) (hu:mG (ek q t).high (ek q t).used q.n1=0):nR (iD q t):=by
 have hl:(iD q t).aE.length=t.aE.length:=by show (t.aE.set _ _).length=_; rw [List.length_set]
 rw [w2] at hw
 refine { h with CI:=by rw [hl]; exact h.CI,aE:=fun i p hp=>?_,bad:=fun g hg=>by rw [hl]; exact h.bad g hg }
 rcases RI (show (t.aE.set _ _)[i]? = some p from hp) with ⟨h1,_⟩ | ⟨e,h1,h2⟩
 ·exact h.aE i p h1
 ·have hi:t.aE[i]? = some (ek q t):=by
   unfold ek
   rw [e,List.getD_eq_getElem?_getD,List.getElem?_eq_getElem h2]; rfl
  obtain ⟨a1,a2,a3,a4⟩:=h.aE i _ hi
  rw [h1]
  exact ⟨a1,a2,a3,(akp hu).1⟩
end Go.Proofs.YtgjoehgomjgckaaGreatDoor
end
section
set_option linter.unusedVariables false
set_option linter.unusedSimpArgs false
namespace Go.Proofs.YtgjoehgomjgckaaGreatDoor
open Go Go.Ev
set_option maxRecDepth 20000
set_option linter.unusedVariables false
theorem YU {k:aP} (h:(1≤k.id∧k.id≤6)∧(1≤k.ten∧k.ten≤8)∧(1≤k.set∧k.set≤3)∧(1≤k.aH.length∧k.aH.length≤5)∧∀ i,i<k.aH.length→gl (k.aH.getD i vz) ((i:Int)+1)=true):cL k=true:=by
 obtain ⟨a1,a2,a3,a4,a5⟩:=h
 unfold cL
 rw [Bool.and_eq_true,Bool.and_eq_true,Bool.and_eq_true,Bool.and_eq_true,w2,w2,w2,w2]
 exact ⟨a1,a2,a3,by omega,R5 _ a5⟩
theorem akr {k:aP} {op bu dY clock:Int} (h:vL k op bu dY clock=0):cL (p7 k op bu dY clock)=true∧(p7 k op bu dY clock).id=k.id∧(p7 k op bu dY clock).ten=k.ten∧(p7 k op bu dY clock).set=k.set:=by
 have e:p7 k op bu dY clock=⟨k.id,k.ten,k.set,k.aH.set (bu - 1).toNat (BX k op bu dY)⟩:=by unfold p7; rw [if_pos h]
 rw [e]
 refine ⟨?_,rfl,rfl,rfl⟩
 unfold vL at h
 split at h
 case isFalse=>omega
 rename_i hm
 obtain ⟨hm,C0⟩:=hm
 split at h
 case h_1=>omega
 rename_i v hf
 obtain ⟨_,f1,f2,f3,f4⟩:=Qz hf
 split at h
 case h_1=>omega
 rename_i s hn
 split at h
 case isTrue=>omega
 rename_i hd
 obtain ⟨a1,a2,a3,a4,a5⟩:=vm hm
 refine YU ⟨a1,a2,a3,by show 1≤(k.aH.set _ _).length∧(k.aH.set _ _).length≤5; rw [List.length_set]; exact a4,fun i hi=>?_⟩
 have hi:i<k.aH.length:=by have:i<(k.aH.set _ _).length:=hi; rwa [List.length_set] at this
 show gl ((k.aH.set (bu - 1).toNat (BX k op bu dY)).getD i vz) _=true
 rw [List.getD_eq_getElem?_getD,List.getElem?_set]
 by_cases e2:(bu - 1).toNat=i
 ·rw [if_pos e2,if_pos (by omega),Option.getD_some]
  have hv:=IV f4
  obtain ⟨g1,g2,g3,g4,g5,g6,g7⟩:=hv
  unfold BX gl
  rw [← f3,hn,Option.getD_some]
  have ql:s=1∨s=2∨s=3:=by
   unfold kO at hn
   split at hn
   ·split at hn
    ·injection hn with hn; omega
    ·cases hn
   split at hn
   ·split at hn
    ·injection hn with hn; omega
    ·cases hn
   split at hn
   ·split at hn
    ·injection hn with hn; omega
    ·cases hn
   split at hn
   ·split at hn
    ·injection hn with hn; omega
    ·cases hn
   ·cases hn
  have h3:s=3↔op=7:=by
   unfold kO at hn
   split at hn
   ·split at hn
    ·injection hn with hn; omega
    ·cases hn
   split at hn
   ·split at hn
    ·injection hn with hn; omega
    ·cases hn
   split at hn
   ·split at hn
    ·injection hn with hn; omega
    ·cases hn
   split at hn
   ·split at hn
    ·injection hn with hn; omega
    ·cases hn
   ·cases hn
  have h4:v.st≠4:=by
   intro e4
   unfold kO at hn
   rw [e4] at hn
   split at hn
   ·cases hn
   split at hn
   ·cases hn
   split at hn
   ·cases hn
   split at hn <;> cases hn
  have g8:=g5 h4
  have Tn:bu=(i:Int)+1:=by omega
  rw [Bool.and_eq_true]
  refine ⟨by simp only [decide_eq_true_eq]; omega,?_⟩
  by_cases h7:op=7
  ·rw [if_pos (h3.2 h7)]
   simp only [Bool.and_eq_true,decide_eq_true_eq]
   rw [if_pos h7]
   refine ⟨?_,g8⟩
   have:¬ (dY≤clock∨aS 1 1099511627776 dY=false):=fun hx=>hd ⟨h7,hx⟩
   cases hb:aS 1 1099511627776 dY with
   | true=>rfl
   | false=>exact absurd (.inr hb) this
  ·have n3:¬ s=3:=fun hx=>h7 (h3.1 hx)
   rw [if_neg n3,if_neg (show ¬ s=4 by omega),if_pos (show s=1∨s=2 by omega)]
   simp only [Bool.and_eq_true,decide_eq_true_eq]
   rw [if_neg h7]
   exact ⟨rfl,g8⟩
 ·rw [if_neg e2,← List.getD_eq_getElem?_getD]
  exact a5 i hi
theorem Ey {k:aP} (c:Int) (h:cL k=true):cL (j9 k c)=true∧j9 k c=⟨k.id,k.ten,k.set,k.aH.map (fP c)⟩:=by
 have e:j9 k c=⟨k.id,k.ten,k.set,k.aH.map (fP c)⟩:=by unfold j9; rw [if_pos h]
 rw [e]
 refine ⟨?_,rfl⟩
 obtain ⟨a1,a2,a3,a4,a5⟩:=vm h
 refine YU ⟨a1,a2,a3,by show 1≤(k.aH.map _).length∧(k.aH.map _).length≤5; rw [List.length_map]; exact a4,fun i hi=>?_⟩
 have hi:i<k.aH.length:=by have:i<(k.aH.map (fP c)).length:=hi; rwa [List.length_map] at this
 have h5:=a5 i hi
 show gl ((k.aH.map (fP c)).getD i vz) _=true
 rw [List.getD_eq_getElem?_getD,List.getElem?_map,List.getElem?_eq_getElem hi,Option.map_some,Option.getD_some]
 rw [List.getD_eq_getElem?_getD,List.getElem?_eq_getElem hi,Option.getD_some] at h5
 unfold fP
 split
 ·have:=(IV h5).1
  unfold gl
  simp [this]
 ·exact h5
theorem W1 (l:List bQ):∀ k,p6 l k=true↔∀ i,i<k→(l.getD i gz).n0=(i:Int)+1∧lq (l.getD i gz)=true
 | 0=>⟨fun _ i h=>by omega,fun _=>rfl⟩
 | n+1=>by
  show (p6 l n && _)=true↔_
  rw [Bool.and_eq_true,W1 l n,Bool.and_eq_true,decide_eq_true_eq]
  refine ⟨fun h i hi=>?_,fun h=>⟨fun i hi=>h i (by omega),h n (by omega)⟩⟩
  rcases Nat.lt_or_ge i n with e | e
  ·exact h.1 i e
  ·rw [show i=n by omega]; exact h.2
theorem ID {l:List bQ}:gy l=true↔l.length≤8∧∀ (i:Nat) (g:bQ),l[i]? = some g→g.n0=(i:Int)+1∧lq g=true:=by
 unfold gy
 rw [Bool.and_eq_true,decide_eq_true_eq,W1,and_comm]
 refine and_congr_right fun _=>⟨fun h i g hg=>?_,fun h i hi=>?_⟩
 ·have:=h i (List.getElem?_eq_some_iff.1 hg).1
  rw [List.getD_eq_getElem?_getD,hg] at this
  exact this
 ·rw [List.getD_eq_getElem?_getD,List.getElem?_eq_getElem hi]
  exact h i _ (List.getElem?_eq_getElem hi)
theorem aks {l:List bQ} {g:bQ} (h:oS l g=0):gy (lD l g)=true∧lD l g=l ++ [nP l g]:=by
 have e:lD l g=l ++ [nP l g]:=by unfold lD; rw [if_pos h]
 rw [e]
 refine ⟨?_,rfl⟩
 unfold oS at h
 split at h
 case isFalse=>omega
 rename_i hm
 split at h
 case isTrue=>omega
 rename_i h8
 obtain ⟨h1,h2⟩:=ID.1 hm.1
 refine ID.2 ⟨by simp; omega,fun i x hx=>?_⟩
 rcases Rq hx with ⟨k,_⟩ | ⟨k,rfl⟩
 ·exact h2 i x k
 ·exact ⟨by rw [k]; rfl,hm.2⟩
theorem akt {l:List bQ} {id:Int} (h:oT l id=0):gy (l8 l id)=true∧l8 l id=l.set (id - 1).toNat (xV (l.getD (id - 1).toNat gz))∧(id - 1).toNat<l.length:=by
 have e:l8 l id=l.set (id - 1).toNat (xV (l.getD (id - 1).toNat gz)):=by unfold l8; rw [if_pos h]
 rw [e]
 unfold oT at h
 split at h
 case isFalse=>omega
 rename_i hm
 split at h
 case isFalse=>omega
 rename_i C5
 obtain ⟨h1,h2⟩:=ID.1 hm
 have bZ:(id - 1).toNat<l.length:=by omega
 refine ⟨ID.2 ⟨by rw [List.length_set]; exact h1,fun i x hx=>?_⟩,rfl,bZ⟩
 rcases RI hx with ⟨k,_⟩ | ⟨k,rfl,_⟩
 ·exact h2 i x k
 ·have:=h2 _ _ (List.getElem?_eq_getElem bZ)
  rw [List.getD_eq_getElem?_getD,List.getElem?_eq_getElem bZ,k]
  exact this
theorem nR.ZL {t:aR} (h:nR t) {i:Nat} {k:aP} (hi:i<t.keys.length) (hm:cL k=true) (h1:k.id=(t.keys.getD i kz).id) (h2:k.ten=(t.keys.getD i kz).ten):nR { t with keys:=t.keys.set i k }:=by
 refine { h with xZ:=by show (t.keys.set i k).length≤6; rw [List.length_set]; exact h.xZ,key:=fun j x hx=>?_,bad:=fun g hg=>by show _≤((t.keys.set i k).length:Int)∧_; rw [List.length_set]; exact h.bad g hg }
 rcases RI hx with ⟨e,_⟩ | ⟨e,rfl,_⟩
 ·exact h.key j x e
 ·obtain ⟨b1,b2,_⟩:=h.key i _ (List.getElem?_eq_getElem hi)
  rw [List.getD_eq_getElem?_getD,List.getElem?_eq_getElem hi,Option.getD_some] at h1 h2
  subst e
  exact ⟨h1.trans b1,by rw [h2]; exact b2,hm⟩
theorem aip {q:bK} {t:aR} (h:gW q t=true) (hm:jy q.n2=true):aS 1 (t.bP.length:Int) q.n3=true:=by
 unfold gW at h; rwa [if_pos hm] at h
theorem ajg {q:bK} {t:aR} (h:gW q t=true) (hm:jy q.n2=false):aS 1 (t.keys.length:Int) (gm q t)=true∧(q.n2=12→aS 1 (t.aE.length:Int) q.n8=true):=by
 unfold gW at h
 rw [if_neg (by rw [hm]; decide),Bool.and_eq_true,Bool.and_eq_true] at h
 refine ⟨h.2.1,fun jB=>?_⟩
 have:=h.2.2
 rw [if_neg (by rw [jB]; decide),Bool.or_eq_true,decide_eq_true_eq] at this
 rcases this with h | h
 ·exact absurd jB h
 ·exact h
theorem alx {q:bK} {lb aq:List B8} {t:aR} (h:nR t) (wF:jy q.n2=true→aS 1 (t.bP.length:Int) q.n3=true)
  (hky:jy q.n2=false→aS 1 (t.keys.length:Int) q.n4=true∧(q.n2=12→aS 1 (t.aE.length:Int) q.n8=true)) (h0:qx q lb aq t=0):nR (o9 q lb aq t):=by
 unfold qx at h0
 unfold o9
 split at h0
 ·rename_i e
  rw [if_pos e]
  obtain ⟨a1,a2⟩:=ako h0
  have hl:(CB q t).bP.length=t.bP.length+1:=by show (sr _ _ _).length=_; rw [a2]; simp
  have hw:∀ {x:Int},aS 1 (t.bP.length:Int) x=true→aS 1 ((CB q t).bP.length:Int) x=true:=fun {x} hx=>by rw [w2] at *; omega
  exact { h with aaE:=by rw [hl]; omega,ten:=a1,aE:=fun i p hp=>(h.aE i p hp).imp_right fun k=>k.imp_left hw,key:=fun i p hp=>(h.key i p hp).imp_right fun k=>k.imp_left hw }
 rename_i e1
 rw [if_neg e1]
 split at h0
 ·rename_i e
  rw [if_pos e]
  unfold CC at h0
  split at h0
  case isFalse=>omega
  rename_i hk
  split at h0
  case isTrue=>omega
  rename_i h6
  have hp6:=h.CI
  have hl:(qZ q lb t).aE.length=t.aE.length+1:=by show (t.aE ++ [_]).length=_; simp
  refine { h with CI:=by rw [hl]; omega,aE:=fun i p hp=>?_,bad:=fun g hg=>by rw [hl]; have:=h.bad g hg; exact ⟨this.1,by omega⟩ }
  rcases Rq (show (t.aE ++ [vN q lb t])[i]? = some p from hp) with ⟨k,_⟩ | ⟨k,rfl⟩
  ·exact h.aE i p k
  ·exact ⟨by rw [k]; rfl,wF (by rw [e]; rfl),hk,by rfl⟩
 rename_i e2
 rw [if_neg e2]
 split at h0
 ·rename_i e
  rw [if_pos e]
  unfold CD at h0
  split at h0
  case isFalse=>omega
  split at h0
  case isFalse=>omega
  split at h0
  case isTrue=>omega
  rename_i h6
  split at h0
  case isFalse=>rename_i hn; exact absurd h0 hn
  rename_i hn
  have hm:cK q aq t=Al ((t.keys.length:Int)+1) q.n3 q.n6 aq:=by unfold cK qY; rw [if_pos hn]
  have aoG:cL (cK q aq t)=true:=by
   rw [hm]
   unfold mF at hn
   split at hn
   ·assumption
   ·omega
  have hk6:=h.xZ
  have hl:(su q aq t).keys.length=t.keys.length+1:=by show (t.keys ++ [_]).length=_; simp
  refine { h with xZ:=by rw [hl]; omega,key:=fun i p hp=>?_,bad:=fun g hg=>by rw [hl]; have:=h.bad g hg; exact ⟨by omega,this.2⟩ }
  rcases Rq (show (t.keys ++ [cK q aq t])[i]? = some p from hp) with ⟨k,_⟩ | ⟨k,rfl⟩
  ·exact h.key i p k
  ·exact ⟨by rw [k,hm]; rfl,by rw [hm]; exact wF (by rw [e]; rfl),aoG⟩
 rename_i e3
 rw [if_neg e3]
 have hnm:jy q.n2=false:=by unfold jy; rw [decide_eq_false e1,decide_eq_false e2,decide_eq_false e3]; rfl
 obtain ⟨hk,hp8⟩:=hky hnm
 split at h0
 ·rename_i e; rw [if_pos e]; exact h
 rename_i e4
 rw [if_neg e4]
 split at h0
 ·rename_i e
  rw [if_pos e]
  unfold CH at h0
  unfold xX
  split at h0
  ·rename_i C8
   rw [if_pos C8]
   obtain ⟨r1,r2,r3⟩:=akt h0
   refine { h with gr:=r1,bad:=fun g hg=>?_ }
   have hg:g∈l8 t.br q.n7:=hg
   rw [r2] at hg
   rcases List.mem_or_eq_of_mem_set hg with k | k
   ·exact h.bad g k
   ·rw [k,List.getD_eq_getElem?_getD,List.getElem?_eq_getElem r3]
    have:=h.bad _ (List.getElem_mem r3)
    exact this
  ·rename_i C8
   rw [if_neg C8]
   split at h0
   case isTrue=>omega
   obtain ⟨r1,r2⟩:=aks h0
   refine { h with gr:=r1,bad:=fun g hg=>?_ }
   have hg:g∈lD t.br (iX q):=hg
   rw [r2] at hg
   rcases List.mem_append.1 hg with k | k
   ·exact h.bad g k
   ·rw [List.mem_singleton.1 k]
    rw [w2] at hk
    have h8:=hp8 (by rcases e with e | e; exact e; exact absurd e C8)
    rw [w2] at h8
    exact ⟨hk.2,h8.2⟩
 ·rename_i e
  rw [if_neg e]
  rw [w2] at hk
  have hi:(q.n4 - 1).toNat<t.keys.length:=by omega
  unfold CF at h0
  unfold Ap CG
  split at h0
  ·rename_i e4
   rw [if_pos e4]
   split at h0
   case isFalse=>rename_i hn; exact absurd h0 hn
   rename_i hr
   obtain ⟨m1,_⟩:=XN hr
   have er:iV (cA q t) aq=⟨(cA q t).id,(cA q t).ten,(cA q t).set,(cA q t).aH ++ [⟨((cA q t).aH.length:Int)+1,1,0,aq⟩]⟩:=by unfold iV; rw [if_pos hr]
   exact h.ZL hi m1 (by rw [er]; rfl) (by rw [er]; rfl)
  ·rename_i e4
   rw [if_neg e4]
   obtain ⟨m1,m2,m3,_⟩:=akr h0
   exact h.ZL hi m1 m2 m3
theorem amo {q:bK} {lb lt aq:List B8} {t:aR} (h0:dC q lb lt aq t=0):nR (dT q lb lt aq t)∧nR t:=by
 have hC:=h0
 unfold dC at h0
 split at h0
 case isFalse=>rename_i hn; exact absurd h0 hn
 rename_i hb
 obtain ⟨b1,b2,b3,b4,b5,b6⟩:=QY hb
 have hm:=HV.1 b1
 refine ⟨?_,hm⟩
 unfold dT
 rw [if_pos hC]
 refine alx (akq hm b3 b4) (fun wF=>(aip b5 wF:aS 1 (t.bP.length:Int) q.n3=true)) (fun wF=>?_) h0
 obtain ⟨c1,c2⟩:=ajg b5 wF
 refine ⟨c1,fun jB=>?_⟩
 show aS 1 (((iD q t).aE.length:Nat):Int) q.n8=true
 rw [show (iD q t).aE.length=t.aE.length from List.length_set]
 exact c2 jB
theorem amq (l:List aP) (c:Int) {i:Nat} {k:aP} (h:(gw l c l.length)[i]? = some k):i<l.length∧k=j9 (l.getD i kz) c:=by
 have hi:i<l.length:=by have:=(List.getElem?_eq_some_iff.1 h).1; rwa [k8] at this
 rw [vp l c _ i hi,if_pos hi] at h
 exact ⟨hi,(Option.some.inj h).symm⟩
theorem W4 {t:aR} {c:Int} (h0:kQ t c=0):nR (jh t c)∧nR t∧t.clock≤c∧c≤1099511627776:=by
 have hC:=h0
 unfold kQ at h0
 split at h0
 case isFalse=>omega
 rename_i hm
 split at h0
 case isFalse=>omega
 rename_i hc
 have h:=HV.1 hm
 refine ⟨?_,h,hc⟩
 unfold jh
 rw [if_pos hC]
 unfold Dh
 have h1:=h.clock
 refine { h with clock:=⟨by show 0≤c; omega,hc.2⟩,xZ:=by show (gw _ _ _).length≤6; rw [k8]; exact h.xZ,key:=fun i k hk=>?_,bad:=fun g hg=>by show _≤((gw _ _ _).length:Int)∧_; rw [k8]; exact h.bad g hg }
 obtain ⟨hi,rfl⟩:=amq _ _ hk
 have hg:t.keys[i]? = some (t.keys.getD i kz):=by rw [List.getD_eq_getElem?_getD,List.getElem?_eq_getElem hi]; rfl
 obtain ⟨k1,k2,k3⟩:=h.key i _ hg
 obtain ⟨m1,m2⟩:=Ey c k3
 exact ⟨by rw [m2]; exact k1,by rw [m2]; exact k2,m1⟩
end Go.Proofs.YtgjoehgomjgckaaGreatDoor
end
section
set_option linter.unusedVariables false
set_option linter.unusedSimpArgs false
namespace Go.Proofs.YtgjoehgomjgckaaGreatDoor
open Go Go.Ev
set_option maxRecDepth 20000
set_option linter.unusedVariables false
theorem QZ {w0 w w':World} (m:Mod [] w0 w) (m':Mod [] w0 w') {a:Addr} {n:Nat} (ha:a.block<w0.heap.size):kept a n w w':=fun j hj=>((Ep m' ha (by simp):kept a n w0 w') j hj).trans ((Ep m ha (by simp):kept a n w0 w) j hj).symm
theorem oW.kept {w0 w w':World} {s:ah} {l:List gN} (h:oW w0 s l) (m:Mod [] w0 w) (m':Mod [] w0 w') {i:Nat} (hi:i<l.length) (k n:Nat):kept (Addr.add (Addr.add (base s.a) (Int.toNat (i:Int) * 16)) k) n w w':=
 QZ m m' (World.block_lt_of_cell? _ _ ((h.at hi).2 14 _ rfl) |> fun h=>by
  have e:∀ (a:Addr) (j:Nat),(a.add j).block=a.block:=fun a j=>by unfold Addr.add; split <;> rfl
  rw [e] at h ⊢
  exact h)
theorem EM.bounds {a:gN} {w:World} {lb lt aq:List B8} (h:EM a) (r:xY w a lb lt aq):lb.length≤1000000∧aq.length≤1000000:=by
 have h1:=r.1.len
 have h2:=r.2.2.len
 obtain ⟨⟨_,h3,_⟩,h4⟩:=h
 omega
theorem amr:fE fT=true:=by kernel_rfl
def SE (w:World) (l:List gN):Prop:=∀ a∈l,∃ lb lt aq,xY w a lb lt aq
theorem BO {A:Type} {l:List A} {i:Nat} {d:A} (h:i<l.length):l.getD i d∈l:=by
 rw [List.getD_eq_getElem?_getD,List.getElem?_eq_getElem h]
 exact List.getElem_mem h
end Go.Proofs.YtgjoehgomjgckaaGreatDoor
end
section
set_option linter.unusedVariables false
set_option linter.unusedSimpArgs false
namespace Go.Proofs.YtgjoehgomjgckaaGreatDoor
open Go Go.Ev
set_option maxRecDepth 20000
set_option linter.unusedVariables false
def SF (x:ah) (p:Addr) (i:Int) (w:World) (go:Addr→Value→World→Prop):Prop:=
 bD p (World.drew w) fun EY nG nH nI nJ nL=>
 aQ x.a i x.n
 (jH (Addr.add (Addr.add (base x.a) (Int.toNat i * 16)) 0) (World.drew w) fun EZ E0 E7 E8 E9 Fh Fj Fk Fl Fm EN EO nv nx=>
 aQ x.a i x.n
 (ax (Addr.add (Addr.add (base x.a) (Int.toNat i * 16)) 14) (World.drew w) fun t42=>
 ((ay Pr gV [.agg ⟨[.int .i64 EY,.slice nG.a nG.n nG.c,.slice nH.a nH.n nH.c,.slice nI.a nI.n nI.c,.slice nJ.a nJ.n nJ.c,.slice nL.a nL.n nL.c]⟩,.agg ⟨[.int .i64 EZ,.int .i64 E0,.int .i64 E7,.int .i64 E8,.int .i64 E9,.int .i64 Fh,.int .i64 Fj,.int .i64 Fk,.int .i64 Fl,.int .i64 Fm,.int .i64 EN,.string EO,.slice nv.a nv.n nv.c,.slice nx.a nx.n nx.c]⟩,.slice t42.a t42.n t42.c] (World.drew w) fun Uk w9=>
 bw.bC Uk fun vs=>
 aC vs fun Ul r=>
 dB Ul fun t43 Z8 Z9 aac aad aae=>
 aC r fun Gk Um=>
 fR Gk fun aaf aag aah aai=>
 aC Um fun v_4 r_2=>
 (r_2=[]∧
 ((nw aN (zc Pr aN) w9 fun p_2 cM=>
 (kept (Addr.add (Addr.add (base x.a) (Int.toNat i * 16)) 14) 1 w9 cM∧
 (kept (Addr.add (Addr.add (base x.a) (Int.toNat i * 16)) 0) 14 w9 cM∧
 (kept p 6 w9 cM∧
 nw bI (zc Pr bI) cM fun p_3 cZ=>
 (kept (Addr.add (Addr.add (base x.a) (Int.toNat i * 16)) 14) 1 cM cZ∧
 (kept (Addr.add (Addr.add (base x.a) (Int.toNat i * 16)) 0) 14 cM cZ∧
 (kept p 6 cM cZ∧
 bE p_2 t43 Z8 Z9 aac aad aae cZ fun fV=>
 bN p_3 aaf aag aah aai fV fun fO=>
 go p_2 v_4 fO)))))))∧
 (nw bI (zc Pr bI) w9 fun TJ gu=>
 (kept (Addr.add (Addr.add (base x.a) (Int.toNat i * 16)) 14) 1 w9 gu∧
 (kept (Addr.add (Addr.add (base x.a) (Int.toNat i * 16)) 0) 14 w9 gu∧
 (kept p 6 w9 gu∧
 nw aN (zc Pr aN) gu fun p_5 kJ=>
 (kept (Addr.add (Addr.add (base x.a) (Int.toNat i * 16)) 14) 1 gu kJ∧
 (kept (Addr.add (Addr.add (base x.a) (Int.toNat i * 16)) 0) 14 gu kJ∧
 (kept p 6 gu kJ∧
 bE p_5 t43 Z8 Z9 aac aad aae kJ fun mO=>
 bN TJ aaf aag aah aai mO fun yq=>
 go p_5 v_4 yq))))))))))∧
 (((nw aN (zc Pr aN) (World.drew w) fun Km kV=>
 (kept (Addr.add (Addr.add (base x.a) (Int.toNat i * 16)) 14) 1 (World.drew w) kV∧
 (kept (Addr.add (Addr.add (base x.a) (Int.toNat i * 16)) 0) 14 (World.drew w) kV∧
 (kept p 6 (World.drew w) kV∧
 ((ay Pr gV [.agg ⟨[.int .i64 EY,.slice nG.a nG.n nG.c,.slice nH.a nH.n nH.c,.slice nI.a nI.n nI.c,.slice nJ.a nJ.n nJ.c,.slice nL.a nL.n nL.c]⟩,.agg ⟨[.int .i64 EZ,.int .i64 E0,.int .i64 E7,.int .i64 E8,.int .i64 E9,.int .i64 Fh,.int .i64 Fj,.int .i64 Fk,.int .i64 Fl,.int .i64 Fm,.int .i64 EN,.string EO,.slice nv.a nv.n nv.c,.slice nx.a nx.n nx.c]⟩,.slice t42.a t42.n t42.c] kV fun v_5 kI=>
 bw.bC v_5 fun aoH=>
 aC aoH fun v_6 r_3=>
 dB v_6 fun ams amt amu amv amw amx=>
 aC r_3 fun v_7 r_4=>
 fR v_7 fun amy amz amA amB=>
 aC r_4 fun v_8 r_5=>
 (r_5=[]∧
 nw bI (zc Pr bI) kI fun p_7 wj=>
 (kept (Addr.add (Addr.add (base x.a) (Int.toNat i * 16)) 14) 1 kI wj∧
 (kept (Addr.add (Addr.add (base x.a) (Int.toNat i * 16)) 0) 14 kI wj∧
 (kept p 6 kI wj∧
 bE Km ams amt amu amv amw amx wj fun C7=>
 bN p_7 amy amz amA amB C7 fun Dj=>
 go Km v_8 Dj)))))∧
 (nw bI (zc Pr bI) kV fun p_8 uL=>
 (kept (Addr.add (Addr.add (base x.a) (Int.toNat i * 16)) 14) 1 kV uL∧
 (kept (Addr.add (Addr.add (base x.a) (Int.toNat i * 16)) 0) 14 kV uL∧
 (kept p 6 kV uL∧
 ay Pr gV [.agg ⟨[.int .i64 EY,.slice nG.a nG.n nG.c,.slice nH.a nH.n nH.c,.slice nI.a nI.n nI.c,.slice nJ.a nJ.n nJ.c,.slice nL.a nL.n nL.c]⟩,.agg ⟨[.int .i64 EZ,.int .i64 E0,.int .i64 E7,.int .i64 E8,.int .i64 E9,.int .i64 Fh,.int .i64 Fj,.int .i64 Fk,.int .i64 Fl,.int .i64 Fm,.int .i64 EN,.string EO,.slice nv.a nv.n nv.c,.slice nx.a nx.n nx.c]⟩,.slice t42.a t42.n t42.c] uL fun v_9 Ko=>
 bw.bC v_9 fun aoI=>
 aC aoI fun aoJ r_6=>
 dB aoJ fun amC amD amE amF amG amH=>
 aC r_6 fun aoK r_7=>
 fR aoK fun amI amJ amK amL=>
 aC r_7 fun aoL r_8=>
 (r_8=[]∧
 bE Km amC amD amE amF amG amH Ko fun AQ=>
 bN p_8 amI amJ amK amL AQ fun Uq=>
 go Km aoL Uq))))))))))∧
 (nw bI (zc Pr bI) (World.drew w) fun p_9 uM=>
 (kept (Addr.add (Addr.add (base x.a) (Int.toNat i * 16)) 14) 1 (World.drew w) uM∧
 (kept (Addr.add (Addr.add (base x.a) (Int.toNat i * 16)) 0) 14 (World.drew w) uM∧
 (kept p 6 (World.drew w) uM∧
 ((ay Pr gV [.agg ⟨[.int .i64 EY,.slice nG.a nG.n nG.c,.slice nH.a nH.n nH.c,.slice nI.a nI.n nI.c,.slice nJ.a nJ.n nJ.c,.slice nL.a nL.n nL.c]⟩,.agg ⟨[.int .i64 EZ,.int .i64 E0,.int .i64 E7,.int .i64 E8,.int .i64 E9,.int .i64 Fh,.int .i64 Fj,.int .i64 Fk,.int .i64 Fl,.int .i64 Fm,.int .i64 EN,.string EO,.slice nv.a nv.n nv.c,.slice nx.a nx.n nx.c]⟩,.slice t42.a t42.n t42.c] uM fun aoM Dk=>
 bw.bC aoM fun aoN=>
 aC aoN fun aoO r_9=>
 dB aoO fun amM amN amO amP amQ amR=>
 aC r_9 fun aoP aoQ=>
 fR aoP fun amS amT amU amV=>
 aC aoQ fun aoR aoS=>
 (aoS=[]∧
 nw aN (zc Pr aN) Dk fun aaF Dl=>
 (kept (Addr.add (Addr.add (base x.a) (Int.toNat i * 16)) 14) 1 Dk Dl∧
 (kept (Addr.add (Addr.add (base x.a) (Int.toNat i * 16)) 0) 14 Dk Dl∧
 (kept p 6 Dk Dl∧
 bE aaF amM amN amO amP amQ amR Dl fun AR=>
 bN p_9 amS amT amU amV AR fun yI=>
 go aaF aoR yI)))))∧
 (nw aN (zc Pr aN) uM fun aaG uN=>
 (kept (Addr.add (Addr.add (base x.a) (Int.toNat i * 16)) 14) 1 uM uN∧
 (kept (Addr.add (Addr.add (base x.a) (Int.toNat i * 16)) 0) 14 uM uN∧
 (kept p 6 uM uN∧
 ay Pr gV [.agg ⟨[.int .i64 EY,.slice nG.a nG.n nG.c,.slice nH.a nH.n nH.c,.slice nI.a nI.n nI.c,.slice nJ.a nJ.n nJ.c,.slice nL.a nL.n nL.c]⟩,.agg ⟨[.int .i64 EZ,.int .i64 E0,.int .i64 E7,.int .i64 E8,.int .i64 E9,.int .i64 Fh,.int .i64 Fj,.int .i64 Fk,.int .i64 Fl,.int .i64 Fm,.int .i64 EN,.string EO,.slice nv.a nv.n nv.c,.slice nx.a nx.n nx.c]⟩,.slice t42.a t42.n t42.c] uN fun aoT w33=>
 bw.bC aoT fun aoU=>
 aC aoU fun aoV aoW=>
 dB aoV fun amW amX amY amZ am0 am1=>
 aC aoW fun aoX aoY=>
 fR aoX fun am2 am3 am4 am5=>
 aC aoY fun aoZ ao0=>
 (ao0=[]∧
 bE aaG amW amX amY amZ am0 am1 w33 fun w34=>
 bN p_9 am2 am3 am4 am5 w34 fun w35=>
 go aaG aoZ w35)))))))))))))))
theorem aiq {ad:Addr} {w:World} {a:gN} (h:∀ (j:Nat) (v:Value),(a.cs ⟨none,0,0⟩)[j]? = some v→w.cell? (Addr.add ad j)=some v):∀ (j:Nat) (v:Value),a.q.cells[j]? = some v→w.cell? (Addr.add (Addr.add ad 0) j)=some v:=fun j v hj=>by
 rw [add_add,Nat.zero_add]
 have hl:j<a.q.cells.length:=(List.getElem?_eq_some_iff.1 hj).1
 refine h j v ?_
 unfold gN.cs
 rw [List.getElem?_append_left hl]
 exact hj
theorem aku {w w6:World} {p:Nat} {x:ah} {l:List gN} {i:Nat} {a:gN} {lb lt aq:List B8} {s:dZ} {t:aR} {ys zs:List ah} {fp fq:List Nat} (hg:Laid w) (hx:oW w x l) (hi:i<l.length) (ha:l.getD i qC=a) (r:xY w a lb lt aq) (dU:aq.length≤1000000) (hs:t.small)
  {m:aD} (K:ak w [] w6 ([.av p (t.cs s) aN] ++ jm s t ys zs fp fq ++ [m])) {go:Addr→Value→World→Prop}
  (fin:∀ {w7:World} {p1:Nat} {er:Value} {s2:dZ} {jv zs2:List ah} {dX jG:List Nat},ak w [] w7 ([.av p (t.cs s) aN,.row aX 1 s.sec (bp t.bG),.row dh 3 s.ten (fQ t.bP),.row cB 6 s.gr (dK t.br),.row eu 5 s.aE (bh ct.cs t.aE ys),.box fp fun w=>bn gB w ys t.aE,.row aV 4 s.key (bh aP.cs t.keys zs),.box fq fun w=>bn fG w zs t.keys,m,.av p1 ((dT a.q lb lt aq t).cs s2) aN,aD.err er (dC a.q lb lt aq t)] ++ jm s2 (dT a.q lb lt aq t) jv zs2 dX jG)→go ⟨p1,0,none⟩ er w7):SF x ⟨p,0,none⟩ i w6 go:=by
 unfold SF
 rw [tH,tI]
 have D:=K.drew
 obtain ⟨k1,c1⟩:=(hx.aG D.mod).at hi
 rw [ha] at c1
 have kp:∀ {u u':World},Mod [] w u→Mod [] w u'→Ev.kept (Addr.add (Addr.add (base x.a) (Int.toNat (i:Int) * 16)) 14) 1 u u':=fun m m'=>hx.kept m m' hi 14 1
 have kq:∀ {u u':World},Mod [] w u→Mod [] w u'→Ev.kept (Addr.add (Addr.add (base x.a) (Int.toNat (i:Int) * 16)) 0) 14 u u':=fun m m'=>hx.kept m m' hi 0 14
 refine D.bD 0 rfl ⟨k1,M8 (aiq c1) ⟨k1,a.sd,c1 14 _ rfl,⟨?_,⟨?_,?_⟩⟩⟩⟩
 ·refine aB (yU s t a.q lb lt a.sd aq hs dU _ (hg.oO D (by simp)) (lp (L:=[_]) (D.take 8)) (r.aG D.mod).1 (r.aG D.mod).2.1 (r.aG D.mod).2.2) ?_
  rintro _ cZ ⟨s2,jv,zs2,dX,jG,y2,z2,er,rfl,G⟩
  have E:=D.join G
  exact ⟨_,rfl,iu (qD ⟨rfl,⟨E.nw fun p1 Dj E2 _=>⟨kp E.mod E2.mod,kq E.mod E2.mod,fZ (E.av 0 rfl) (E2.av 0 rfl) 6,E2.nw fun p2 uL E3 _=>⟨kp E2.mod E3.mod,kq E2.mod E3.mod,fZ (E2.av 0 rfl) (E3.av 0 rfl) 6,E3.bE 19 rfl rfl fun yI F=>F.bN 20 rfl rfl fun uN F=>fin (jv:=jv) (zs2:=zs2) (dX:=dX) (jG:=jG) (F.cR [0,1,2,3,4,5,6,7,8,19,18,9,10,11,12,13,14,15] (by decide) rfl)⟩⟩,E.nw fun p2 Dj E2 _=>⟨kp E.mod E2.mod,kq E.mod E2.mod,fZ (E.av 0 rfl) (E2.av 0 rfl) 6,E2.nw fun p1 uL E3 _=>⟨kp E2.mod E3.mod,kq E2.mod E3.mod,fZ (E2.av 0 rfl) (E3.av 0 rfl) 6,E3.bE 20 rfl rfl fun yI F=>F.bN 19 rfl rfl fun uN F=>fin (jv:=jv) (zs2:=zs2) (dX:=dX) (jG:=jG) (F.cR [0,1,2,3,4,5,6,7,8,20,18,9,10,11,12,13,14,15] (by decide) rfl)⟩⟩⟩⟩)⟩
 ·refine D.nw fun p1 C7 E1 _=>⟨kp D.mod E1.mod,kq D.mod E1.mod,fZ (D.av 0 rfl) (E1.av 0 rfl) 6,⟨?_,?_⟩⟩
  ·refine aB (yU s t a.q lb lt a.sd aq hs dU _ (hg.oO E1 (by simp)) (lp (L:=[_]) (E1.take 8)) (r.aG E1.mod).1 (r.aG E1.mod).2.1 (r.aG E1.mod).2.2) ?_
   rintro _ cZ ⟨s2,jv,zs2,dX,jG,y2,z2,er,rfl,G⟩
   have E2:=E1.join G
   exact ⟨_,rfl,iu (qD ⟨rfl,E2.nw fun p2 uL E3 _=>⟨kp E2.mod E3.mod,kq E2.mod E3.mod,fZ (E2.av 0 rfl) (E3.av 0 rfl) 6,E3.bE 9 rfl rfl fun yI F=>F.bN 20 rfl rfl fun uN F=>fin (jv:=jv) (zs2:=zs2) (dX:=dX) (jG:=jG) (F.cR [0,1,2,3,4,5,6,7,8,9,19,10,11,12,13,14,15,16] (by decide) rfl)⟩⟩)⟩
  ·refine E1.nw fun p2 Dj E2 _=>⟨kp E1.mod E2.mod,kq E1.mod E2.mod,fZ (E1.av 0 rfl) (E2.av 0 rfl) 6,aB (yU s t a.q lb lt a.sd aq hs dU _ (hg.oO E2 (by simp)) (lp (L:=[_]) (E2.take 8)) (r.aG E2.mod).1 (r.aG E2.mod).2.1 (r.aG E2.mod).2.2) ?_⟩
   rintro _ cZ ⟨s2,jv,zs2,dX,jG,y2,z2,er,rfl,G⟩
   have E3:=E2.join G
   exact ⟨_,rfl,iu (qD ⟨rfl,E3.bE 9 rfl rfl fun yI F=>F.bN 10 rfl rfl fun uN F=>fin (jv:=jv) (zs2:=zs2) (dX:=dX) (jG:=jG) (F.cR [0,1,2,3,4,5,6,7,8,9,20,11,12,13,14,15,16,17] (by decide) rfl)⟩)⟩
 ·refine D.nw fun p2 C7 E1 _=>⟨kp D.mod E1.mod,kq D.mod E1.mod,fZ (D.av 0 rfl) (E1.av 0 rfl) 6,⟨?_,?_⟩⟩
  ·refine aB (yU s t a.q lb lt a.sd aq hs dU _ (hg.oO E1 (by simp)) (lp (L:=[_]) (E1.take 8)) (r.aG E1.mod).1 (r.aG E1.mod).2.1 (r.aG E1.mod).2.2) ?_
   rintro _ cZ ⟨s2,jv,zs2,dX,jG,y2,z2,er,rfl,G⟩
   have E2:=E1.join G
   exact ⟨_,rfl,iu (qD ⟨rfl,E2.nw fun p1 uL E3 _=>⟨kp E2.mod E3.mod,kq E2.mod E3.mod,fZ (E2.av 0 rfl) (E3.av 0 rfl) 6,E3.bE 20 rfl rfl fun yI F=>F.bN 9 rfl rfl fun uN F=>fin (jv:=jv) (zs2:=zs2) (dX:=dX) (jG:=jG) (F.cR [0,1,2,3,4,5,6,7,8,20,19,10,11,12,13,14,15,16] (by decide) rfl)⟩⟩)⟩
  ·refine E1.nw fun p1 Dj E2 _=>⟨kp E1.mod E2.mod,kq E1.mod E2.mod,fZ (E1.av 0 rfl) (E2.av 0 rfl) 6,aB (yU s t a.q lb lt a.sd aq hs dU _ (hg.oO E2 (by simp)) (lp (L:=[_]) (E2.take 8)) (r.aG E2.mod).1 (r.aG E2.mod).2.1 (r.aG E2.mod).2.2) ?_⟩
   rintro _ cZ ⟨s2,jv,zs2,dX,jG,y2,z2,er,rfl,G⟩
   have E3:=E2.join G
   exact ⟨_,rfl,iu (qD ⟨rfl,E3.bE 10 rfl rfl fun yI F=>F.bN 9 rfl rfl fun uN F=>fin (jv:=jv) (zs2:=zs2) (dX:=dX) (jG:=jG) (F.cR [0,1,2,3,4,5,6,7,8,10,20,11,12,13,14,15,16,17] (by decide) rfl)⟩)⟩
end Go.Proofs.YtgjoehgomjgckaaGreatDoor
end
section
set_option linter.unusedVariables false
set_option linter.unusedSimpArgs false
namespace Go.Proofs.YtgjoehgomjgckaaGreatDoor
open Go Go.Ev
set_option maxRecDepth 20000
set_option linter.unusedVariables false
theorem aly (q:bK) (lb aq:List B8) (t:aR):(o9 q lb aq t).clock=t.clock∧(o9 q lb aq t).bG=t.bG∧∀ i,i<t.aE.length→(o9 q lb aq t).aE[i]? = t.aE[i]?:=by
 unfold o9
 split
 ·exact ⟨rfl,rfl,fun _ _=>rfl⟩
 split
 ·exact ⟨rfl,rfl,fun i hi=>List.getElem?_append_left hi⟩
 split
 ·exact ⟨rfl,rfl,fun _ _=>rfl⟩
 split
 ·exact ⟨rfl,rfl,fun _ _=>rfl⟩
 split
 ·exact ⟨rfl,rfl,fun _ _=>rfl⟩
 ·exact ⟨rfl,rfl,fun _ _=>rfl⟩
theorem anW {q:bK} {lb lt aq:List B8} {t:aR} (h0:dC q lb lt aq t=0):dT q lb lt aq t=o9 (qK q t) lb aq (iD q t)∧oU q lt t=0∧qx (qK q t) lb aq (iD q t)=0:=by
 refine ⟨by unfold dT; rw [if_pos h0],?_⟩
 unfold dC at h0
 split at h0
 ·rename_i hb; exact ⟨hb,h0⟩
 ·rename_i hb; exact absurd h0 hb
theorem akv {q:bK} {lb lt aq:List B8} {t:aR} (h0:dC q lb lt aq t=0):(dT q lb lt aq t).clock=t.clock:=by
 rw [(anW h0).1]; exact (aly _ _ _ _).1
def Jq (w w':World) (p:Nat) (m:aD):Prop:=∃ (t:aR) (s:dZ) (ys zs:List ah) (fp fq:List Nat),nR t∧t.small∧t.clock=0∧ak w [] w' ([.av p (t.cs s) aN] ++ jm s t ys zs fp fq ++ [m])
def anX (p:Nat) (again:World→Prop):Addr→Value→World→Prop:=fun u e w7=>fm e fun nil=>aA nil (bD u w7 fun f0 f1 f2 f3 f4 f5=>bE ⟨p,0,none⟩ f0 f1 f2 f3 f4 f5 w7 fun w8=>again w8) (again w7)
theorem ajh {w w6:World} {p i:Nat} {x:ah} {l:List gN} {m:aD} (hg:Laid w) (hx:oW w x l) (hi:i<l.length) (hr:SE w l) (Cy:∀ a∈l,EM a) (H:Jq w w6 p m) {again:World→Prop} (aM:∀ w8,Jq w w8 p m→again w8)
  {go:Addr→Value→World→Prop} (bY:∀ u e w7,anX p again u e w7→go u e w7):SF x ⟨p,0,none⟩ i w6 go:=by
 obtain ⟨t,s,ys,zs,fp,fq,hm,hs,hc,K⟩:=H
 obtain ⟨lb,lt,aq,r⟩:=hr _ (BO (d:=qC) hi)
 obtain ⟨hl,dU⟩:=(Cy _ (BO (d:=qC) hi)).bounds r
 refine aku hg hx hi rfl r dU hs K fun {w7 p1 er s2 jv zs2 dX jG} K=>bY _ _ _ ?_
 have hTs:=XO (q:=(l.getD i qC).q) (lt:=lt) hs hl dU
 have he:fW w7 er (dC (l.getD i qC).q lb lt aq t):=K.ok 10 _ rfl
 refine he.isNil ?_
 by_cases hC:dC (l.getD i qC).q lb lt aq t=0
 ·refine ite_true (decide_eq_true hC) (K.bD 9 rfl (K.bE 0 rfl rfl fun w8 K=>aM w8 ⟨_,s2,jv,zs2,dX,jG,(amo hC).1,hTs,(akv hC).trans hc,K.cR [0,11,12,13,14,15,16,17,8] (by decide) rfl⟩))
 ·exact ite_false (decide_eq_false hC) (aM w7 ⟨t,s,ys,zs,fp,fq,hm,hs,hc,K.take 9⟩)
end Go.Proofs.YtgjoehgomjgckaaGreatDoor
end
section
set_option linter.unusedVariables false
set_option linter.unusedSimpArgs false
namespace Go.Proofs.YtgjoehgomjgckaaGreatDoor
open Go Go.Ev
set_option maxRecDepth 20000
set_option linter.unusedVariables false
theorem alz (lo hi:Int) (h:lo≤hi) (v:bq):fP hi (fP lo v)=fP hi v:=by
 unfold fP
 by_cases h1:v.st=3∧v.due≤lo
 ·rw [if_pos h1,if_neg (by simp),if_pos ⟨h1.1,by omega⟩]
 ·rw [if_neg h1]
theorem Rr (c:Int) (v:bq) (vs:List bq):o8 c (v :: vs)=o8 c vs+if v.st=3∧v.due≤c then 1 else 0:=by
 unfold o8
 rw [List.countP_cons]
 by_cases h:v.st=3∧v.due≤c
 ·rw [if_pos h,if_pos (decide_eq_true h)]
 ·rw [if_neg h,if_neg (by rw [decide_eq_false h]; decide)]
theorem YV (lo hi:Int) (h:lo≤hi):∀ vs:List bq,o8 lo vs+o8 hi (vs.map (fP lo))=o8 hi vs
 | []=>rfl
 | v :: vs=>by
  have ih:=YV lo hi h vs
  rw [List.map_cons,Rr,Rr,Rr]
  by_cases h1:v.st=3∧v.due≤lo
  ·have e:fP lo v=⟨v.n,4,0,[]⟩:=by unfold fP; rw [if_pos h1]
   rw [e,if_pos h1,if_neg (fun h=>absurd h.1 (show ¬ (4:Int)=3 by decide)),if_pos (show v.st=3∧v.due≤hi from ⟨h1.1,by omega⟩)]
   omega
  ·have e:fP lo v=v:=by unfold fP; rw [if_neg h1]
   rw [e,if_neg h1]
   omega
theorem YW {k:aP} (lo hi:Int) (h:lo≤hi) (hk:cL k=true):j9 (j9 k lo) hi=j9 k hi∧ou k lo+ou (j9 k lo) hi=ou k hi:=by
 obtain ⟨m1,e1⟩:=Ey lo hk
 have e2:=(Ey hi hk).2
 have e3:=(Ey hi m1).2
 refine ⟨?_,?_⟩
 ·rw [e3,e2,e1]
  simp only [List.map_map]
  congr 1
  refine List.map_congr_left fun v _=>alz lo hi h v
 ·unfold ou
  rw [if_pos hk,if_pos m1,if_pos hk,e1]
  exact YV lo hi h _
theorem alA {l:List aP} (lo hi:Int) (h:lo≤hi) (hk:∀ k∈l,cL k=true):gw (gw l lo l.length) hi l.length=gw l hi l.length∧∀ n,n≤l.length→mW l lo n+mW (gw l lo l.length) hi n=mW l hi n:=by
 have at_:∀ j,j<l.length→(gw l lo l.length).getD j kz=j9 (l.getD j kz) lo:=fun j hj=>by
  rw [List.getD_eq_getElem?_getD,vp l lo _ j hj,if_pos hj]; rfl
 refine ⟨?_,?_⟩
 ·refine List.ext_getElem? fun j=>?_
  rcases Nat.lt_or_ge j l.length with hj | hj
  ·have e:=vp (gw l lo l.length) hi l.length j (by rw [k8]; exact hj)
   rw [if_pos hj,at_ j hj,(YW lo hi h (hk _ (BO hj))).1] at e
   rw [e,vp l hi _ j hj,if_pos hj]
  ·rw [List.getElem?_eq_none (by rw [k8,k8]; exact hj),List.getElem?_eq_none (by rw [k8]; exact hj)]
 ·intro n
  induction n with
  | zero=>intro _; rfl
  | succ n ih=>
   intro hn
   have:=ih (by omega)
   show (mW l lo n+ou (l.getD n kz) lo)+(mW _ hi n+ou ((gw l lo l.length).getD n kz) hi)=mW l hi n+ou (l.getD n kz) hi
   rw [at_ n (by omega),← (YW lo hi h (hk _ (BO (show n<l.length by omega)))).2]
   omega
theorem Q2 {t:aR} {c:Int} (h:nR t) (h1:t.clock≤c) (h2:c≤1099511627776):kQ t c=0:=by
 unfold kQ; rw [if_pos (HV.2 h),if_pos ⟨h1,h2⟩]
theorem qL {t:aR} {c:Int} (h:kQ t c=0):jh t c=Dh t c∧oM t c=(mW t.keys c t.keys.length:Int):=⟨by unfold jh; rw [if_pos h],by unfold oM; rw [if_pos h]⟩
theorem akw {t:aR} {lo hi:Int} (h:nR t) (h1:t.clock≤lo) (h2:lo≤hi) (h3:hi≤1099511627776):kQ t lo=0∧kQ (jh t lo) hi=0∧kQ t hi=0∧jh (jh t lo) hi=jh t hi∧oM t lo+oM (jh t lo) hi=oM t hi:=by
 have c1:=Q2 h h1 (by omega:lo≤1099511627776)
 have c3:=Q2 h (by omega:t.clock≤hi) h3
 obtain ⟨m1,_⟩:=W4 c1
 have ck:(jh t lo).clock=lo:=by rw [(qL c1).1]; rfl
 have c2:=Q2 m1 (by rw [ck]; exact h2) h3
 have hk:∀ k∈t.keys,cL k=true:=fun k hk=>by
  obtain ⟨j,hj,e⟩:=List.getElem_of_mem hk
  exact (h.key j k (by rw [List.getElem?_eq_getElem hj,e])).2.2
 obtain ⟨s1,s2⟩:=alA lo hi h2 hk
 refine ⟨c1,c2,c3,?_,?_⟩
 ·rw [(qL c2).1,(qL c3).1,(qL c1).1]
  unfold Dh
  show aR.mk hi t.bG t.bP t.aE (gw (gw t.keys lo t.keys.length) hi (gw t.keys lo t.keys.length).length) t.br=_
  rw [k8,s1]
 ·rw [(qL c2).2,(qL c3).2,(qL c1).2,(qL c1).1]
  show (mW t.keys lo t.keys.length:Int)+(mW (gw t.keys lo t.keys.length) hi (gw t.keys lo t.keys.length).length:Int)=_
  rw [k8,← s2 _ (Nat.le_refl _)]
  omega
theorem getD_some {A:Type} {l:List A} {i:Nat} {d:A} (h:i<l.length):l[i]? = some (l.getD i d):=by rw [List.getD_eq_getElem?_getD,List.getElem?_eq_getElem h]; rfl
theorem am6 {w:World} {a:Addr} {j:Nat} {v:Value} (h:w.cell? (Addr.add a j)=some v):a.block<w.heap.size:=by
 have:=World.block_lt_of_cell? _ _ h
 have e:(a.add j).block=a.block:=by unfold Addr.add; split <;> rfl
 rwa [e] at this
theorem XS:zc Pr cw=(bq.mk 0 0 0 []).cs ⟨none,0,0⟩:=by kernel_rfl
theorem agH (x:ah) (l:List gN) (a b:Int) (w:World) (hg:Laid w) (hx:oW w x l) (hr:SE w l) :
  Ok Pr UE [.slice x.a x.n x.c,.int .i64 a,.int .i64 b] w fun v w'=>v=.bool true∧Mod [] w w':=by
 refine acy ?_
 unfold Lq
 have bU:=hx.len
 have aaj:∀ {w3:World},Mod [] w w3→Ok Pr DD [] w3 fun v w4=>v=.bool true∧Mod [] w w4:=fun {w3} m=>
  (afI w3 (hg.oO ((ak.start w).frame m) (by simp))).mono fun v w4 h=>⟨h.1,m.trans h.2⟩
 refine aB (afJ x l 6 (by omega) w hx) ?_
 rintro _ w1 ⟨b1,rfl,m1,hb⟩
 refine bz ?_
 cases b1 with
 | true=>exact ite_true rfl (aB (aaj m1) fun v w4 h=>by obtain ⟨rfl,m⟩:=h; exact bz ⟨rfl,m⟩)
 | false=>
 obtain ⟨hlen,Cy⟩:=hb rfl
 refine ite_false rfl (aB (U9 w1) ?_)
 rintro _ w5 ⟨s,ys,zs,fp,fq,rfl,G⟩
 have H:=((ak.start w).frame m1).join G
 rw [tH]
 refine iu (H.nw fun p w6 H _=>H.bE 7 rfl rfl fun w7 H=>?_)
 have h0:Jq w w7 p .no:=⟨fT,s,ys,zs,fp,fq,HV.1 amr,XP,rfl,(H.push (r:=.no) (Mod.refl [] _) trivial (fun b hb=>by cases hb)).cR [7,0,1,2,3,4,5,6,8] (by decide) rfl⟩
 refine dm 0 l.length (fun i w'=>Jq w w' p .no) rfl (by omega) h0 ?_ ?_
 ·rintro again i w8 _ hi H aM
  rw [← tH]
  exact ite_true (decide_eq_true (by omega)) (uZ fun go bY=>ajh hg hx hi hr Cy H (again:=fun w=>aF ((i:Int)+1)∧again ((i:Int)+1) w) (fun w9 H=>⟨⟨by omega,by omega⟩,aM w9 H⟩) fun u e w9 h=>bY u e w9 h)
 rintro again w8 ⟨t,s,ys,zs,fp,fq,hm,hs,hc,K⟩
 refine ite_false (decide_eq_false (by omega)) ?_
 refine aB (VR a 100 (by omega) (by omega) w8) ?_
 rintro _ w9 ⟨rfl,e9⟩
 rw [e9]
 refine eE (aB (VR b 100 (by omega) (by omega) w8) ?_)
 rintro _ cM ⟨rfl,e10⟩
 rw [e10]
 refine eE ?_
 have la:=Zk (x:=a) (n:=100) (by omega)
 have lb:=Zk (x:=b) (n:=100) (by omega)
 obtain ⟨lo,mq⟩:∃ lo,lo=min ((low a 100:Nat):Int) ((low b 100:Nat):Int):=⟨_,rfl⟩
 obtain ⟨hi,ur⟩:∃ hi,hi=max ((low a 100:Nat):Int) ((low b 100:Nat):Int):=⟨_,rfl⟩
 rw [← mq,← ur]
 have g1:t.clock≤lo:=by omega
 have g2:lo≤hi:=by omega
 have g3:hi≤1099511627776:=by omega
 have g4:0≤hi∧hi≤100:=by omega
 clear mq ur
 have t1s:=V0 (c:=lo) hs
 have t2s:=V0 (c:=hi) hs
 obtain ⟨q1,q2,q3,q4,q5⟩:=akw hm g1 g2 g3
 have q6:=ajd (t:=jh t hi) (c:=hi - 1) (by
  intro h
  have:=(W4 h).2.2.1
  rw [(qL q3).1] at this
  have:hi≤hi - 1:=this
  omega)
 have hTk:(jh t hi).keys=gw t.keys hi t.keys.length:=by rw [(qL q3).1]; rfl
 have q7:oM t hi≤12000000:=by
  rw [(qL q3).2]
  have:=R4 hs hi t.keys.length (Nat.le_refl _)
  have:=hm.xZ
  omega
 have q8:0≤oM t hi:=by rw [(qL q3).2]; omega
 refine K.bD 0 rfl (aB (DH s t lo hs _ (lp (L:=[_]) (K.take 8))) ?_)
 rintro _ cZ ⟨s1,qy,qz,qA,qB,e1,rfl,G1⟩
 rw [q1] at G1
 have K:=K.join G1
 refine ⟨_,rfl,iu ⟨_,rfl,rfl,K.nw fun p11 fV K _=>K.bE 17 rfl rfl fun fO K=>K.bD 17 rfl (aB (DH s1 (jh t lo) hi t1s _ (lp (L:=[_,_,_,_,_,_,_,_,_]) (K.take 16))) ?_)⟩⟩
 rintro _ gu ⟨s2,jv,zs2,dX,jG,e2,rfl,G2⟩
 rw [q2,q4] at G2
 rw [q4]
 have K:ak w [] fO [.av p (t.cs s) aN,.row aX 1 s.sec (bp t.bG),.row dh 3 s.ten (fQ t.bP),.row cB 6 s.gr (dK t.br),.row eu 5 s.aE (bh ct.cs t.aE ys),.box fp fun w=>bn gB w ys t.aE,.row aV 4 s.key (bh aP.cs t.keys zs),.box fq fun w=>bn fG w zs t.keys,aD.err e1 0]:=K.cR [0,1,2,3,4,5,6,7,16] (by decide) rfl
 have K:=K.join G2
 refine ⟨_,rfl,iu ⟨_,rfl,rfl,K.nw fun p12 kJ K _=>K.bE 17 rfl rfl fun mO K=>K.bD 0 rfl (aB (DH s t hi hs _ (lp (L:=[_]) (K.take 8))) ?_)⟩⟩
 rintro _ yq ⟨s3,wI,wJ,Gx,Gy,e3,rfl,G3⟩
 rw [q3] at G3
 have K:=K.join G3
 refine ⟨_,rfl,iu ⟨_,rfl,rfl,K.nw fun s5 kV K _=>K.bE 26 rfl rfl fun kI K=>?_⟩⟩
 have F9:∀ i,i<t.keys.length→cL (t.keys.getD i kz)=true:=fun i hi=>(hm.key i _ (by rw [List.getD_eq_getElem?_getD,List.getElem?_eq_getElem hi]; rfl)).2.2
 have aaH:∀ i,i<t.keys.length→((jh t hi).keys.getD i kz).aH=(t.keys.getD i kz).aH.map (fP hi):=fun i sx=>by
  rw [hTk,List.getD_eq_getElem?_getD,vp _ _ _ i sx,if_pos sx,Option.getD_some,(Ey hi (F9 i sx)).2]
 have hTl:(jh t hi).keys.length=t.keys.length:=by rw [hTk,k8]
 generalize oM (jh t lo) hi=M2 at *
 generalize oM t lo=M1 at *
 generalize oM t hi=M3 at *
 generalize jh t lo=T1 at *
 generalize jh t hi=T at *
 have K:ak w [] kI [.av p (t.cs s) aN,.row aX 1 s.sec (bp t.bG),.row dh 3 s.ten (fQ t.bP),.row cB 6 s.gr (dK t.br),.row eu 5 s.aE (bh ct.cs t.aE ys),.box fp fun w=>bn gB w ys t.aE,.row aV 4 s.key (bh aP.cs t.keys zs),.box fq fun w=>bn fG w zs t.keys,aD.err e1 0,
   .row aX 1 s2.sec (bp T.bG),.row dh 3 s2.ten (fQ T.bP),.row cB 6 s2.gr (dK T.br),.row eu 5 s2.aE (bh ct.cs T.aE jv),.box dX fun w=>bn gB w jv T.aE,.row aV 4 s2.key (bh aP.cs T.keys zs2),.box jG fun w=>bn fG w zs2 T.keys,aD.err e2 0,.av p12 (T.cs s2) aN,
   .row aX 1 s3.sec (bp T.bG),.row dh 3 s3.ten (fQ T.bP),.row cB 6 s3.gr (dK T.br),.row eu 5 s3.aE (bh ct.cs T.aE wI),.box Gx fun w=>bn gB w wI T.aE,.row aV 4 s3.key (bh aP.cs T.keys wJ),.box Gy fun w=>bn fG w wJ T.keys,aD.err e3 0,.av s5 (T.cs s3) aN]:=K
 refine jJ fun C9 CE=>?_
 have r2:gC kI s2 T:=lp (L:=[_,_,_,_,_,_,_,_,_]) (K.take 16)
 have r3:gC kI s3 T:=lp (L:=[_,_,_,_,_,_,_,_,_,_,_,_,_,_,_,_,_,_]) (K.take 25)
 refine (K.ok 8 _ rfl:fW kI e1 0).isNil (ite_false rfl ((K.ok 16 _ rfl:fW kI e2 0).isNil (ite_false rfl ((K.ok 25 _ rfl:fW kI e3 0).isNil (K.bD 17 rfl (K.bD 26 rfl (ite_false ?_ (aB (acZ s2 s3 T t2s kI r2 r3) ?_))))))))
 ·rw [wrap_i64 (by omega) (by omega),q5,decide_eq_true rfl,decide_eq_true rfl]; rfl
 rintro _ wj ⟨rfl,m20⟩
 have K:=K.frame m20
 have K:ak w [] wj [.av p (t.cs s) aN,.row aX 1 s.sec (bp t.bG),.row dh 3 s.ten (fQ t.bP),.row cB 6 s.gr (dK t.br),.row eu 5 s.aE (bh ct.cs t.aE ys),.box fp fun w=>bn gB w ys t.aE,.row aV 4 s.key (bh aP.cs t.keys zs),.box fq fun w=>bn fG w zs t.keys,
   .av s5 (T.cs s3) aN,.row aX 1 s3.sec (bp T.bG),.row dh 3 s3.ten (fQ T.bP),.row cB 6 s3.gr (dK T.br),.row eu 5 s3.aE (bh ct.cs T.aE wI),.box Gx fun w=>bn gB w wI T.aE,.row aV 4 s3.key (bh aP.cs T.keys wJ),.box Gy fun w=>bn fG w wJ T.keys]:=K.cR [0,1,2,3,4,5,6,7,26,18,19,20,21,22,23,24] (by decide) rfl
 refine bz (ite_false rfl (CE _ (K.bD 8 rfl ⟨⟨by omega,by omega⟩,?_⟩)))
 refine aB (DH s3 T (hi - 1) t2s _ (lp (L:=[_,_,_,_,_,_,_,_,_]) K)) ?_
 rintro _ C7 ⟨s4,ys4,zs4,fp4,fq4,e4,rfl,G4⟩
 rw [q6] at G4
 have K:=K.join G4
 refine ⟨_,rfl,iu ⟨_,rfl,rfl,K.nw fun p14 Dj K _=>K.bE 24 rfl rfl fun uL K=>?_⟩⟩
 have K:ak w [] uL [.av p (t.cs s) aN,.row aX 1 s.sec (bp t.bG),.row dh 3 s.ten (fQ t.bP),.row cB 6 s.gr (dK t.br),.row eu 5 s.aE (bh ct.cs t.aE ys),.box fp fun w=>bn gB w ys t.aE,.row aV 4 s.key (bh aP.cs t.keys zs),.box fq fun w=>bn fG w zs t.keys,
   .av s5 (T.cs s3) aN,.row aX 1 s3.sec (bp T.bG),.row dh 3 s3.ten (fQ T.bP),.row cB 6 s3.gr (dK T.br),.row eu 5 s3.aE (bh ct.cs T.aE wI),.box Gx fun w=>bn gB w wI T.aE,.row aV 4 s3.key (bh aP.cs T.keys wJ),.box Gy fun w=>bn fG w wJ T.keys,aD.err e4 2]:=K.cR [0,1,2,3,4,5,6,7,8,9,10,11,12,13,14,15,23] (by decide) rfl
 generalize hL:([.av p (t.cs s) aN,.row aX 1 s.sec (bp t.bG),.row dh 3 s.ten (fQ t.bP),.row cB 6 s.gr (dK t.br),.row eu 5 s.aE (bh ct.cs t.aE ys),.box fp fun w=>bn gB w ys t.aE,.row aV 4 s.key (bh aP.cs t.keys zs),.box fq fun w=>bn fG w zs t.keys,
   .av s5 (T.cs s3) aN,.row aX 1 s3.sec (bp T.bG),.row dh 3 s3.ten (fQ T.bP),.row cB 6 s3.gr (dK T.br),.row eu 5 s3.aE (bh ct.cs T.aE wI),.box Gx fun w=>bn gB w wI T.aE,.row aV 4 s3.key (bh aP.cs T.keys wJ),.box Gy fun w=>bn fG w wJ T.keys,aD.err e4 2]:List aD)=L at K
 have qw:L[0]? = some (.av p (t.cs s) aN):=by rw [← hL]; rfl
 have Dm:L[8]? = some (.av s5 (T.cs s3) aN):=by rw [← hL]; rfl
 have ao1:L[16]? = some (aD.err e4 2):=by rw [← hL]; rfl
 have rt:∀ {u:World},ak w [] u L→gC u s t:=fun {u} K=>lp (L:=[_]) (by rw [← hL] at K; exact K.take 8)
 have rT:∀ {u:World},ak w [] u L→gC u s3 T:=fun {u} K=>lp (L:=[_,_,_,_,_,_,_,_,_]) (by rw [← hL] at K; exact K.take 16)
 have Ay:t.keys.length=s.key.n:=(rt K).key.len
 have arR:T.keys.length=s3.key.n:=(rT K).key.len
 have bO:=hs.key
 refine dm 0 t.keys.length (fun i w'=>ak w [] w' L) rfl (by omega) K ?_ ?_
 ·rintro k9 i Ko _ uK K iU
  refine K.ax 0 qw (au p 4) rfl (K.ax 8 Dm (au s5 4) rfl (ite_true ?_ ?_))
  ·rw [decide_eq_true (show (i:Int)<(s.key.n:Int) by omega),decide_eq_true (show (i:Int)<(s3.key.n:Int) by omega)]; rfl
  have ux:=vo hs uK
  have hkT:i<T.keys.length:=by omega
  refine dm 0 (t.keys.getD i kz).aH.length (fun j w'=>ak w [] w' L) rfl (by omega) K ?_ ?_
  ·rintro zF j AQ _ hj K xP
   refine jJ fun go2 oP=>?_
   obtain ⟨a1,z1,v1,c1⟩:=(rt K).key.at uK
   obtain ⟨a2,z2,v2,c2⟩:=(rT K).key.at hkT
   have vT:=v1.len
   have qk:=v2.len
   rw [aaH i uK,List.length_map] at qk
   refine K.ax 0 qw (au p 4) rfl ⟨a1,z1,c1 3 z1.v rfl,K.ax 8 Dm (au s5 4) rfl (ite_true (decide_eq_true (by omega)) ⟨a2,z2,c2 3 z2.v rfl,ite_true (decide_eq_true (by omega)) (oP _ (uZ fun go bY=>?_))⟩)⟩
   have D:=K.drew
   obtain ⟨a1,z1,v1,c1⟩:=(rt D).key.at uK
   obtain ⟨a2,z2,v2,c2⟩:=(rT D).key.at hkT
   have Tn:(t.keys.getD i kz).aH[j]? = some ((t.keys.getD i kz).aH.getD j vz):=getD_some hj
   have anY:(T.keys.getD i kz).aH[j]? = some (fP hi ((t.keys.getD i kz).aH.getD j vz)):=by rw [aaH i uK,List.getElem?_map,Tn]; rfl
   obtain ⟨b1,y1,s1',d1⟩:=Dv.at bq.cz (by omega) v1 Tn
   obtain ⟨b2,y2,s2',d2⟩:=Dv.at bq.cz (by omega) v2 anY
   have gY:((t.keys.getD i kz).aH.getD j vz).aq.length≤1000000:=hs.aq _ (BO uK) _ (BO hj)
   generalize (t.keys.getD i kz).aH.getD j vz=X at *
   have e1:=c1 3 z1.v rfl
   have e2:=c2 3 z2.v rfl
   have e3:AQ.drew.cell? (Addr.add ⟨p,0,none⟩ 4)=some s.key.v:=by rw [au]; exact ((D.av 0 qw).cell 4).trans rfl
   have e4:AQ.drew.cell? (Addr.add ⟨s5,0,none⟩ 4)=some s3.key.v:=by rw [au]; exact ((D.av 8 Dm).cell 4).trans rfl
   have f1:=d1 0 _ rfl
   have f2:=d2 0 _ rfl
   generalize hU:AQ.drew=U at *
   have kc:∀ {a:Addr} {v:Value} {n:Nat} {u u':World},U.cell? a=some v→Mod [] U u→Mod [] U u'→kept a n u u':=fun h m m'=>QZ m m' (World.block_lt_of_cell? _ _ h)
   have ka:∀ {a:Addr} {k:Nat} {v:Value} {n:Nat} {u u':World},U.cell? (Addr.add a k)=some v→Mod [] U u→Mod [] U u'→kept a n u u':=fun h m m'=>QZ m m' (am6 h)
   have fin:∀ {AR:World} {px py:Nat},ak U [] AR [.av px (X.cs y1) cw,.av py ((fP hi X).cs y2) cw]→go ⟨px,0,none⟩ ⟨py,0,none⟩ AR:=by
    intro AR px py M
    have KM:=D.join M
    have K':ak w [] AR L:=D.frame M.mod
    refine bY _ _ _ (M.an 0 rfl (au px 1) rfl (M.an 0 rfl (au px 2) rfl (rN ?_)))
    refine M.an 1 rfl (au py 1) rfl (M.an 0 rfl (au px 1) rfl (M.gE 0 rfl (M.gE 1 rfl ?_)))
    by_cases C2:X.st=3∧X.due≤hi
    ·have e:fP hi X=⟨X.n,4,0,[]⟩:=by unfold fP; rw [if_pos C2]
     rw [e,decide_eq_true C2.1,decide_eq_true C2.2]
     refine ite_false ?_ (ite_false rfl ⟨⟨by omega,by omega⟩,xP _ K'⟩)
     rw [decide_eq_false (show ¬ X.st=4 by omega)]
     rfl
    ·have e:fP hi X=X:=by unfold fP; rw [if_neg C2]
     have hng:(decide (X.st=3) && decide (X.due≤hi))=false:=by
      rw [← Bool.decide_and]; exact decide_eq_false C2
     rw [e] at s2' ⊢
     rw [hng]
     refine ite_false ?_ (ite_true rfl (aB (Uy X y1 y2 gY AR (jM.aG M.mod s1') (jM.aG M.mod s2')) ?_))
     ·cases decide (X.st=4) <;> rfl
     rintro _ yI ⟨rfl,m31⟩
     exact bz (ite_false rfl ⟨⟨by omega,by omega⟩,xP _ (K'.frame m31)⟩)
   refine D.ax 0 qw (au p 4) rfl ⟨a1,z1,e1,b1,uO d1 (D.ax 8 Dm (au s5 4) rfl ⟨a2,z2,e2,b2,uO d2 ⟨?_,?_⟩⟩)⟩
   ·refine (ak.start U).nw fun px Uq M1 _=>⟨ka f2 (Mod.refl [] U) M1.mod,kc e2 (Mod.refl [] U) M1.mod,kc e4 (Mod.refl [] U) M1.mod,ka f1 (Mod.refl [] U) M1.mod,kc e1 (Mod.refl [] U) M1.mod,kc e3 (Mod.refl [] U) M1.mod,
     M1.nw fun py uM M2 _=>⟨ka f2 M1.mod M2.mod,kc e2 M1.mod M2.mod,kc e4 M1.mod M2.mod,ka f1 M1.mod M2.mod,kc e1 M1.mod M2.mod,kc e3 M1.mod M2.mod,?_⟩⟩
    rw [XS] at M2
    refine M2.fz 0 rfl rfl fun Dk M3=>⟨ka f2 M2.mod M3.mod,kc e2 M2.mod M3.mod,kc e4 M2.mod M3.mod,M3.fz 1 rfl rfl fun Dl M4=>fin M4⟩
   ·refine (ak.start U).nw fun py Uq M1 _=>⟨ka f2 (Mod.refl [] U) M1.mod,kc e2 (Mod.refl [] U) M1.mod,kc e4 (Mod.refl [] U) M1.mod,ka f1 (Mod.refl [] U) M1.mod,kc e1 (Mod.refl [] U) M1.mod,kc e3 (Mod.refl [] U) M1.mod,
     M1.nw fun px uM M2 _=>⟨ka f2 M1.mod M2.mod,kc e2 M1.mod M2.mod,kc e4 M1.mod M2.mod,ka f1 M1.mod M2.mod,kc e1 M1.mod M2.mod,kc e3 M1.mod M2.mod,?_⟩⟩
    rw [XS] at M2
    refine M2.fz 1 rfl rfl fun Dk M3=>⟨ka f2 M2.mod M3.mod,kc e2 M2.mod M3.mod,kc e4 M2.mod M3.mod,M3.fz 0 rfl rfl fun Dl M4=>fin (M4.cR [1,0] (by decide) rfl)⟩
  ·rintro zF AQ K
   refine jJ fun go2 oP=>?_
   obtain ⟨a1,z1,v1,c1⟩:=(rt K).key.at uK
   have vT:=v1.len
   exact K.ax 0 qw (au p 4) rfl ⟨a1,z1,c1 3 z1.v rfl,K.ax 8 Dm (au s5 4) rfl (ite_false (decide_eq_false (by omega)) ⟨⟨by omega,by omega⟩,iU _ K⟩)⟩
 ·rintro k9 Ko K
  refine K.ax 0 qw (au p 4) rfl (K.ax 8 Dm (au s5 4) rfl (ite_false (by rw [decide_eq_false (show ¬ ((t.keys.length:Nat):Int)<(s.key.n:Int) by omega)]; rfl) ?_))
  refine aB (VA e4 2 Ko (hg.oO K (by simp)) (K.ok 16 _ ao1)) ?_
  rintro _ AQ ⟨rfl,m25⟩
  refine eE (ite_true rfl (aB (aaj (K.mod.trans m25)) fun v w4 h=>?_))
  obtain ⟨rfl,m⟩:=h
  exact bz ⟨rfl,m⟩
end Go.Proofs.YtgjoehgomjgckaaGreatDoor
end
section
set_option linter.unusedVariables false
set_option linter.unusedSimpArgs false
namespace Go.Ev
open Go Go.RowKit Go.ChangeShapes Go.WideShapes Go.ChangeAt Go.Deep
variable {H:Type} {enc:TypeId×Value→H} {P:Program} {w:World} {held:Bool}
inductive Lk where
 | int (k:IntKind) | str | bool | bytes
def FE (w:World):Lk→Value→Prop
 | .int k,v=>∃ z,v=.int k z∧k.min≤z∧z≤k.max
 | .str,v=>∃ s:ByteArray,v=.string s∧s.size≤9223372036854775807
 | .bool,v=>∃ b,v=.bool b
 | .bytes,v=>∃ (s:ah) (l:List B8),v=.slice s.a s.n s.c∧Bytes w s l∧s.n≤9223372036854775807
def vC (P:Program) (t:TypeId):Lk→Bool
 | .int k=>match P.underlying t with | some (.int k')=>decide (k'=k) | _=>false
 | .str=>match P.underlying t with | some .string=>true | _=>false
 | .bool=>match P.underlying t with | some .bool=>true | _=>false
 | .bytes=>match P.underlying t with | some (.slice e)=>(match P.underlying e with | some (.int .u8)=>decide (P.cellsOf e=1) | _=>false) | _=>false
theorem W5 {t:TypeId} {k:Lk} {c:Value} {n:Nat} {x:DataW H×List MemPlace} (hk:vC P t k=true) (h:DataW.trod enc P w 0 (fun _=>true) held n t [c]=some x):FE w k c:=by
 cases k with
 | int k=>
  simp only [vC] at hk
  split at hk
  ·rename_i k' hu
   have:k'=k:=of_decide_eq_true hk
   subst this
   obtain ⟨z,hz,_,hw⟩:=DataW.trod_int hu h
   have hz:c=.int k' z:=by simpa using hz
   have:=Zl hw
   exact ⟨z,hz,this.1,this.2⟩
  ·cases hk
 | str=>
  simp only [vC] at hk
  split at hk
  ·rename_i hu
   obtain ⟨s,hs,_,hm⟩:=DataW.trod_string hu h
   have hs:c=.string s:=by simpa using hs
   exact ⟨s,hs,by simp only [maxLen] at hm; omega⟩
  ·cases hk
 | bool=>
  simp only [vC] at hk
  split at hk
  ·rename_i hu
   obtain ⟨b,hb,_⟩:=DataW.trod_bool hu h
   exact ⟨b,by simpa using hb⟩
  ·cases hk
 | bytes=>
  simp only [vC] at hk
  split at hk
  ·rename_i e hu
   split at hk
   ·rename_i he
    have hc:P.cellsOf e=1:=of_decide_eq_true hk
    rcases open_ints hu he hc h with ⟨jo,-⟩ | ⟨a,len,cap,zs,jo,-,hl,hm,hz,-,nC,hw⟩
    ·exact ⟨⟨none,0,0⟩,[],by simpa using jo,Bytes.nil w,by show 0≤_; omega⟩
    ·simp only [if_true] at hz
     have hI:aan w ⟨some a,len,cap⟩ .u8 (zs.take len):=by
      refine ⟨⟨?_,hl,fun _=>rfl,fun i x hx=>?_⟩,fun x hx=>Zl (hw x (List.mem_of_mem_take hx))⟩
      ·simp only [List.length_map,List.length_take,Nat.mul_one]; omega
      ·rw [List.getElem?_map,List.getElem?_take] at hx
       split at hx
       ·rename_i hi
        have:=nC i (by omega)
        rw [List.getD_eq_getElem?_getD] at this
        cases hzi:zs[i]? with
        | none=>rw [hzi] at hx; cases hx
        | some z=>
         rw [hzi] at hx this
         simp only [Option.map_some,Option.some.injEq] at hx
         subst hx
         exact this
       ·cases hx
     exact ⟨⟨some a,len,cap⟩,_,by simpa using jo,afX hI,by simp only [maxLen] at hm; show len≤_; omega⟩
   ·cases hk
  ·cases hk
def rS (w:World):List Lk→List Value→Prop
 | [],[]=>True
 | k :: ks,c :: cs=>FE w k c∧rS w ks cs
 | _,_=>False
theorem rS.cons {w:World} {k:Lk} {ks:List Lk} {cs:List Value} (h:rS w (k :: ks) cs):∃ c r,cs=c :: r∧FE w k c∧rS w ks r:=by
 cases cs with
 | nil=>exact h.elim
 | cons c r=>exact ⟨c,r,rfl,h.1,h.2⟩
theorem rS.nil {w:World} {cs:List Value} (h:rS w [] cs):cs=[]:=by
 cases cs with
 | nil=>rfl
 | cons c r=>exact h.elim
def sv (P:Program) (t:TypeId):Array Field:=match P.underlying t with | some (.struct fs)=>fs | _=>#[]
def IE (P:Program) (t:TypeId):Bool:=match P.underlying t with | some (.struct _)=>true | _=>false
def R6 (P:Program) (fs:List Field):List Lk→Bool:=go fs
where
 go:List Field→List Lk→Bool
  | [],[]=>true
  | f :: fs,k :: ks=>vC P f.type k && go fs ks
  | _,_=>false
def IW (P:Program) (t:TypeId) (ks:List Lk):Bool:=IE P t && (oneCellFields P (sv P t) && (decide (P.cellsOf t=ks.length) && (decide ((sv P t).size=ks.length) && R6 P (sv P t).toList ks)))
theorem ZM {t:TypeId} (h:IE P t=true):P.underlying t=some (.struct (sv P t)):=by
 unfold IE at h
 unfold sv
 split at h
 ·rename_i fs hu; rw [hu]
 ·cases h
theorem XT:∀ (fs:List Field) (ks:List Lk) (cs:List Value),R6 P fs ks=true→cs.length=ks.length→(∀ (i:Nat) (f:Field) (c:Value),fs[i]? = some f→cs[i]? = some c→∃ n x,DataW.trod enc P w 0 (fun _=>true) held n f.type [c]=some x)→rS w ks cs
 | [],[],[],_,_,_=>trivial
 | [],[],_ :: _,_,h,_=>by simp at h
 | [],_ :: _,_,h,_,_=>by cases h
 | _ :: _,[],_,h,_,_=>by cases h
 | _ :: _,_ :: _,[],_,h,_=>by simp at h
 | f :: fs,k :: ks,c :: cs,h,hl,hc=>by
  have h:(vC P f.type k && R6 P fs ks)=true:=h
  simp only [Bool.and_eq_true] at h
  obtain ⟨n,x,hx⟩:=hc 0 f c rfl rfl
  exact ⟨W5 h.1 hx,XT fs ks cs h.2 (by simpa using hl) fun i f' c' hf vU=>hc (i+1) f' c' (by simpa using hf) (by simpa using vU)⟩
theorem air {t:TypeId} {ks:List Lk} {cs:List Value} {n:Nat} {x:DataW H×List MemPlace} (hs:IW P t ks=true) (h:DataW.trod enc P w 0 (fun _=>true) held n t cs=some x):rS w ks cs∧cs.length=ks.length:=by
 unfold IW at hs
 simp only [Bool.and_eq_true,decide_eq_true_eq] at hs
 obtain ⟨h1,h2,h3,h4,h5⟩:=hs
 obtain ⟨xs,m,_,_,hl,bU,hf⟩:=DataW.trod_struct (ZM h1) h
 refine ⟨XT (enc:=enc) (held:=held) _ ks cs h5 (by omega) fun i f c hfi nU=>?_,by omega⟩
 have To:(sv P t)[i]? = some f:=by simpa using hfi
 have hi:i<(sv P t).size:=(Array.getElem?_eq_some_iff.1 To).1
 obtain ⟨ho,TK⟩:=hone_of h2 i f To
 have:=hf i f To
 rw [ho,TK,take1_drop cs i undef (by omega),List.getElem?_eq_getElem (by omega)] at this
 have vO:cs.getD i undef=c:=by simp [List.getD_eq_getElem?_getD,nU]
 rw [vO] at this
 exact ⟨m,_,this⟩
end Go.Ev
end
section
set_option linter.unusedVariables false
set_option linter.unusedSimpArgs false
namespace Go.Ev
open Go Go.RowKit Go.ChangeShapes Go.WideShapes Go.ChangeAt Go.Deep
variable {P:Program}
def Reads (P:Program) (t:TypeId) (n:Nat) (Q:World→List Value→Prop):Prop:=
 ∀ {H:Type} {enc:TypeId×Value→H} {w:World} {held:Bool} {fuel:Nat} {cs:List Value} {x:DataW H×List MemPlace},DataW.trod enc P w 0 (fun _=>true) held fuel t cs=some x→Q w cs∧cs.length=n
theorem ahM {t:TypeId} {ks:List Lk} (hs:IW P t ks=true):Reads P t ks.length (fun w cs=>rS w ks cs):=fun h=>air hs h
theorem akx {H:Type} {enc:TypeId×Value→H} {w:World} {held:Bool} {t:TypeId} {k:Lk} {n:Nat} {cs:List Value} {x:DataW H×List MemPlace} (hk:vC P t k=true) (h1:cs.length=1) (h:DataW.trod enc P w 0 (fun _=>true) held n t cs=some x):∃ c,cs=[c]∧FE w k c:=by
 match cs,h1 with
 | [c],_=>exact ⟨c,rfl,W5 hk h⟩
def SG (k:Lk):World→List Value→Prop:=fun w cs=>∃ c,cs=[c]∧FE w k c
def EP:List (TypeId×Nat×(World→List Value→Prop))→World→List Value→Prop
 | [],_,cs=>cs=[]
 | (_,n,Q) :: r,w,cs=>∃ a b,cs=a ++ b∧Q w a∧a.length=n∧EP r w b
def IX (P:Program):List Field→Nat→List (TypeId×Nat)→Bool
 | [],_,[]=>true
 | f :: fs,o,(t,n) :: l=>decide (f.type=t) && (decide (f.offset=o) && (decide (P.cellsOf t=n) && IX P fs (o+n) l))
 | _,_,_=>false
def ZN (P:Program) (t:TypeId) (l:List (TypeId×Nat)):Bool:=IE P t && (decide (P.cellsOf t=(l.map (·.2)).sum) && IX P (sv P t).toList 0 l)
def Part (P:Program) (x:TypeId×Nat×(World→List Value→Prop)):Prop:=
 ∀ {H:Type} {enc:TypeId×Value→H} {w:World} {held:Bool} {fuel:Nat} {cs:List Value} {y:DataW H×List MemPlace},cs.length=x.2.1→DataW.trod enc P w 0 (fun _=>true) held fuel x.1 cs=some y→x.2.2 w cs
theorem Part.leaf {t:TypeId} {k:Lk} (hk:vC P t k=true):Part P (t,1,SG k):=fun hl h=>akx hk hl h
theorem Part.of {t:TypeId} {n:Nat} {Q:World→List Value→Prop} (h:Reads P t n Q):Part P (t,n,Q):=fun _ k=>(h k).1
theorem XU {H:Type} {enc:TypeId×Value→H} {w:World} {held:Bool} {m:Nat} {cs:List Value}:∀ (l:List (TypeId×Nat×(World→List Value→Prop))) (fs:List Field) (o:Nat),IX P fs o (l.map fun x=>(x.1,x.2.1))=true→(∀ x∈l,Part P x)→
  cs.length=o+(l.map (·.2.1)).sum→(∀ f∈fs,∃ y,DataW.trod enc P w 0 (fun _=>true) held m f.type ((cs.drop f.offset).take (P.cellsOf f.type))=some y)→EP l w (cs.drop o)
 | [],[],o,_,_,hl,_=>by
  show cs.drop o=[]
  exact List.drop_eq_nil_of_le (by rw [hl]; simp)
 | [],_ :: _,_,h,_,_,_=>by cases h
 | _ :: _,[],_,h,_,_,_=>by cases h
 | (t,n,Q) :: l,f :: fs,o,h,hp,hl,hf=>by
  have h:(decide (f.type=t) && (decide (f.offset=o) && (decide (P.cellsOf t=n) && IX P fs (o+n) (l.map fun x=>(x.1,x.2.1)))))=true:=h
  simp only [Bool.and_eq_true,decide_eq_true_eq] at h
  obtain ⟨h1,h2,h3,h4⟩:=h
  have hl:cs.length=o+(n+(l.map (·.2.1)).sum):=hl
  obtain ⟨y,hy⟩:=hf f (List.mem_cons_self ..)
  rw [h1,h2,h3] at hy
  have wk:((cs.drop o).take n).length=n:=by rw [List.length_take,List.length_drop]; omega
  refine ⟨(cs.drop o).take n,cs.drop (o+n),?_,hp (t,n,Q) (List.mem_cons_self ..) wk hy,wk,XU l fs (o+n) h4 (fun x hx=>hp x (List.mem_cons_of_mem _ hx)) (by omega) fun g hg=>hf g (List.mem_cons_of_mem _ hg)⟩
  rw [← List.drop_drop,List.take_append_drop]
theorem ahN {t:TypeId} (l:List (TypeId×Nat×(World→List Value→Prop))) (hb:ZN P t (l.map fun x=>(x.1,x.2.1))=true) (hp:∀ x∈l,Part P x):Reads P t (l.map (·.2.1)).sum (EP l):=by
 intro H enc w held fuel cs x h
 unfold ZN at hb
 simp only [Bool.and_eq_true,decide_eq_true_eq,List.map_map] at hb
 obtain ⟨h1,h2,h3⟩:=hb
 obtain ⟨xs,m,_,_,hl,bU,hf⟩:=DataW.trod_struct (ZM h1) h
 have hl:cs.length=(l.map (·.2.1)).sum:=hl.trans h2
 refine ⟨?_,hl⟩
 have:=XU (enc:=enc) (held:=held) (m:=m) (cs:=cs) (w:=w) l (sv P t).toList 0 h3 hp (by omega) fun f FI=>?_
 ·simpa using this
 ·obtain ⟨i,hi,rfl⟩:=List.getElem_of_mem FI
  have sx:i<(sv P t).size:=by simpa using hi
  have:=hf i ((sv P t).toList[i]) (by rw [Array.getElem_toList]; exact Array.getElem?_eq_getElem sx)
  rw [List.getElem?_eq_getElem (by omega)] at this
  exact ⟨_,this⟩
def aak (n:Nat) (Q:World→List Value→Prop):World→List Value→Prop:=fun w cs=>
 ∃ (s:ah) (rows:List (List Value)),cs=[s.v]∧Sl w s n rows.flatten∧rows.length=s.n∧(∀ row∈rows,Q w row∧row.length=n)∧s.n≤9223372036854775807
theorem XV {n:Nat}:∀ (rows:List (List Value)),(∀ row∈rows,row.length=n)→rows.flatten.length=rows.length * n
 | [],_=>by simp
 | r :: rs,h=>by
  rw [List.flatten_cons,List.length_append,XV rs fun row hr=>h row (List.mem_cons_of_mem _ hr),h r (List.mem_cons_self ..),List.length_cons,Nat.succ_mul]
  omega
theorem YX {n:Nat}:∀ (rows:List (List Value)),(∀ row∈rows,row.length=n)→∀ (j:Nat) (v:Value),rows.flatten[j]? = some v→∃ i row,rows[i]? = some row∧i * n≤j∧row[j - i * n]? = some v
 | [],_,j,v,h=>by simp at h
 | r :: rs,hr,j,v,h=>by
  have hl:=hr r (List.mem_cons_self ..)
  rw [List.flatten_cons] at h
  rcases Nat.lt_or_ge j r.length with k | k
  ·rw [List.getElem?_append_left k] at h
   exact ⟨0,r,rfl,by omega,by simpa using h⟩
  ·rw [List.getElem?_append_right k] at h
   obtain ⟨i,row,h1,h2,h3⟩:=YX rs (fun row hx=>hr row (List.mem_cons_of_mem _ hx)) _ v h
   refine ⟨i+1,row,by simpa using h1,by rw [Nat.succ_mul]; omega,?_⟩
   rw [show j - (i+1) * n=j - r.length - i * n by rw [Nat.succ_mul]; omega]
   exact h3
theorem ais {t e:TypeId} {n:Nat} {Q:World→List Value→Prop} (ht:P.underlying t=some (.slice e)) (hn:P.cellsOf e=n) (hr:Reads P e n Q):Reads P t 1 (aak n Q):=by
 intro H enc w held fuel cs x h
 rcases open_slice ht h with ⟨jo,-⟩ | ⟨a,len,cap,m,k,D,Pl,jo,-,hl,hm,Kf,-,hx⟩
 ·subst jo
  exact ⟨⟨⟨none,0,0⟩,[],rfl,Sl.nil w _,rfl,(fun _ h=>by cases h),by show 0≤_; omega⟩,rfl⟩
 ·simp only [if_true] at Kf
  subst Kf
  have hex:∀ i:Nat,∃ x7,i<m→(w.cells? 0 (a.add (i * P.cellsOf e)) (P.cellsOf e)=some x7∧DataW.trod enc P w 0 (fun _=>true) held k e x7=some (D i,Pl i)):=fun i=>by
   by_cases hi:i<m
   ·obtain ⟨x7,h1⟩:=hx i hi; exact ⟨x7,fun _=>h1⟩
   ·exact ⟨[],fun h=>absurd h hi⟩
  obtain ⟨C,hC⟩:=Classical.axiomOfChoice hex
  have iT:∀ i,i<m→Q w (C i)∧(C i).length=n:=fun i hi=>hr (hC i hi).2
  have l6:∀ row∈(List.range len).map C,Q w row∧row.length=n:=fun row hx=>by
   obtain ⟨i,hi,rfl⟩:=List.mem_map.1 hx
   exact iT i (by have:=List.mem_range.1 hi; omega)
  subst jo
  refine ⟨⟨⟨some a,len,m⟩,(List.range len).map C,rfl,⟨?_,hl,fun _=>rfl,fun j v hj=>?_⟩,by simp,l6,by simp only [maxLen] at hm; show len≤_; omega⟩,rfl⟩
  ·rw [XV _ fun row hx=>(l6 row hx).2,List.length_map,List.length_range]
  ·obtain ⟨i,row,h1,h2,h3⟩:=YX _ (fun row hx=>(l6 row hx).2) j v hj
   rw [List.getElem?_map] at h1
   have hi:i<len:=by
    rcases Nat.lt_or_ge i len with e | e
    ·exact e
    ·rw [List.getElem?_eq_none (by simp; exact e)] at h1; cases h1
   rw [List.getElem?_range hi] at h1
   obtain rfl:C i=row:=Option.some.inj h1
   obtain ⟨_,_,nC⟩:=World.cells?_some (hC i (by omega)).1
   have hjl:=(List.getElem?_eq_some_iff.1 h3).1
   have h4:=nC (j - i * n) (by have:=(iT i (by omega)).2; omega)
   rw [h3,add_add,hn,show i * n+(j - i * n)=j by omega] at h4
   exact h4
theorem XW {A:Type} {C:A→ah→List Value} {E:World→ah→A→Prop} {p:A→Prop} {w:World}:∀ (rows:List (List Value)),(∀ row∈rows,∃ a x,row=C a x∧E w x a∧p a)→∃ ls xs,rows.flatten=bh C ls xs∧bn E w xs ls∧∀ a∈ls,p a
 | [],_=>⟨[],[],rfl,⟨rfl,fun i x l h=>by simp at h⟩,fun a h=>by cases h⟩
 | r :: rs,h=>by
  obtain ⟨ls,xs,h1,h2,h5⟩:=XW rs fun row hr=>h row (List.mem_cons_of_mem _ hr)
  obtain ⟨a,x,h3,h4,h6⟩:=h r (List.mem_cons_self ..)
  refine ⟨a :: ls,x :: xs,?_,?_,fun b hb=>?_⟩
  ·rw [List.flatten_cons,h1,h3,rI]
  ·refine ⟨by simp [h2.1],fun i y l hy hl=>?_⟩
   cases i with
   | zero=>simp at hy hl; subst hy hl; exact h4
   | succ i=>exact h2.2 i y l (by simpa using hy) (by simpa using hl)
  ·rcases List.mem_cons.1 hb with rfl | hb
   ·exact h6
   ·exact h5 b hb
theorem aky {t e:TypeId} {n:Nat} {Q:World→List Value→Prop} (ht:P.underlying t=some (.slice e)) (hr:Reads P t 1 (aak n Q)) {H:Type} {enc:TypeId×Value→H} {w:World} {held:Bool} {v:Value} {d:DataW H} {ps:List MemPlace} {r:Reach} {base:Nat} (hv:Value.okWide P w r base t v) (h:DataW.Trod enc P w 0 (fun _=>true) held t v d ps) :
  ∃ (s:ah) (rows:List (List Value)),v=.slice s.a s.n s.c∧Sl w s n rows.flatten∧rows.length=s.n∧(∀ row∈rows,Q w row∧row.length=n)∧s.n≤9223372036854775807:=by
 obtain ⟨va,vn,vc,rfl⟩:=Go.WideShapes.okWide_slice ht hv
 obtain ⟨fuel,h⟩:=h
 obtain ⟨⟨s,rows,h1,h2⟩,_⟩:=hr (by simpa [Value.cells] using h)
 exact ⟨s,rows,by simpa [ah.v] using h1,h2⟩
end Go.Ev
end
section
set_option linter.unusedVariables false
set_option linter.unusedSimpArgs false
namespace Go.Proofs.YtgjoehgomjgckaaGreatDoor
open Go Go.Ev Go.RowKit
set_option maxRecDepth 20000
def Rs:List Lk:=[.int .i64,.int .i64,.int .i64,.int .i64,.int .i64,.int .i64,.int .i64,.int .i64,.int .i64,.int .i64,.int .i64,.str,.bytes,.bytes]
theorem aji:IW Pr k6 Rs=true:=by kernel_rfl
end Go.Proofs.YtgjoehgomjgckaaGreatDoor
end
section
set_option linter.unusedVariables false
set_option linter.unusedSimpArgs false
namespace Go.Proofs.YtgjoehgomjgckaaGreatDoor
open Go Go.Ev Go.RowKit
set_option maxRecDepth 20000
set_option linter.unusedVariables false
theorem am7 {w:World} {cs:List Value} (l6:rS w Rs cs):∃ (q:bK) (lb lt:List B8),cs=q.cells∧Bytes w q.gD lb∧Bytes w q.tok lt:=by
 obtain ⟨c0,r0,rfl,⟨z0,rfl,b0⟩,h0⟩:=l6.cons
 obtain ⟨c1,r1,rfl,⟨z1,rfl,b1⟩,h1⟩:=h0.cons
 obtain ⟨c2,r2,rfl,⟨z2,rfl,b2⟩,h2⟩:=h1.cons
 obtain ⟨c3,r3,rfl,⟨z3,rfl,b3⟩,h3⟩:=h2.cons
 obtain ⟨c4,r4,rfl,⟨z4,rfl,b4⟩,h4⟩:=h3.cons
 obtain ⟨c5,r5,rfl,⟨z5,rfl,b5⟩,h5⟩:=h4.cons
 obtain ⟨c6,r6,rfl,⟨z6,rfl,b6⟩,h6⟩:=h5.cons
 obtain ⟨c7,r7,rfl,⟨z7,rfl,b7⟩,h7⟩:=h6.cons
 obtain ⟨c8,r8,rfl,⟨z8,rfl,b8⟩,h8⟩:=h7.cons
 obtain ⟨c9,r9,rfl,⟨z9,rfl,b9⟩,h9⟩:=h8.cons
 obtain ⟨nV,r10,rfl,⟨z10,rfl,b10⟩,jn⟩:=h9.cons
 obtain ⟨nX,r11,rfl,⟨s,rfl,_⟩,x5⟩:=jn.cons
 obtain ⟨kF,r12,rfl,⟨u,l,rfl,hl,_⟩,jB⟩:=x5.cons
 obtain ⟨kG,r13,rfl,⟨v,m,rfl,hm,_⟩,mV⟩:=jB.cons
 obtain rfl:=mV.nil
 exact ⟨⟨z0,z1,z2,z3,z4,z5,z6,z7,z8,z9,z10,s,u,v⟩,l,m,rfl,hl,hm⟩
def IF:List (TypeId×Nat×(World→List Value→Prop)):=[(k6,14,fun w cs=>rS w Rs cs),(bJ,1,SG .bytes),(oF,1,SG .bool)]
theorem ajj:Reads Pr VQ 16 (EP IF):=ahN IF (by kernel_rfl) fun x hx=>by
 simp only [IF,List.mem_cons,List.not_mem_nil,or_false] at hx
 rcases hx with rfl | rfl | rfl
 ·exact Part.of (ahM aji)
 ·exact Part.leaf (by kernel_rfl)
 ·exact Part.leaf (by kernel_rfl)
theorem am8 {w:World} {cs:List Value} (h:EP IF w cs):∃ (a:gN) (lb lt aq:List B8),cs=a.cs ⟨none,0,0⟩∧xY w a lb lt aq:=by
 obtain ⟨u,r,rfl,hu,_,v,r2,rfl,⟨c1,rfl,s,sl,rfl,hs,_⟩,_,x,r3,rfl,⟨c2,rfl,b,rfl⟩,_,rfl⟩:=h
 obtain ⟨q,lb,lt,rfl,h1,h2⟩:=am7 hu
 exact ⟨⟨q,s,b⟩,lb,lt,sl,rfl,h1,h2,hs⟩
theorem XX:Pr.underlying KO=some (.slice VQ):=by kernel_rfl
theorem ajk {H:Type} {enc:TypeId×Value→H} {w:World} {held:Bool} {v:Value} {d:DataW H} {ps:List MemPlace} {r:Reach} {base:Nat} (hv:Value.okWide Pr w r base KO v) (h:DataW.Trod enc Pr w 0 (fun _=>true) held KO v d ps) :
  ∃ (s:ah) (l:List gN),v=.slice s.a s.n s.c∧oW w s l∧SE w l:=by
 obtain ⟨s,rows,rfl,hs,hn,hr,_⟩:=aky XX (ais XX (by kernel_rfl) ajj) hv h
 obtain ⟨ls,xs,h1,h2,h3⟩:=XW (C:=gN.cs) (E:=Up) (p:=fun a=>∃ lb lt aq,xY w a lb lt aq) rows fun row iT=>by
  obtain ⟨a,lb,lt,aq,e,ha⟩:=am8 (hr row iT).1
  exact ⟨a,⟨none,0,0⟩,e,trivial,lb,lt,aq,ha⟩
 rw [h1] at hs
 exact ⟨s,ls,rfl,⟨xs,hs,h2⟩,h3⟩
end Go.Proofs.YtgjoehgomjgckaaGreatDoor
end
