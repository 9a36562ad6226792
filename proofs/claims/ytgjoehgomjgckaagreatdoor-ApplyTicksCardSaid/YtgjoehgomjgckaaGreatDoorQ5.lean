/- Texts of this claim, packed and shortened. -/
import Derived.Laws.StructEq
import Derived.KernelRfl
import Derived.Test.YtgjoehgomjgckaaGreatDoorQ4
import Derived.Test.YtgjoehgomjgckaaGreatDoorQ3
import Derived.Test.YtgjoehgomjgckaaGreatDoorQ2
import Derived.Test.YtgjoehgomjgckaaGreatDoorQ1
section
set_option linter.unusedVariables false
set_option linter.unusedSimpArgs false
namespace Go.Ev
open Go Go.RowKit
theorem ak.RA {w0 w:World} {S:List Nat} {L:List aD} (H:ak w0 S w L) (k:Nat) {fp:List Nat} {Q Q':World→Prop} (hk:L[k]? = some (.box fp Q)) (h:∀ w,Q w→Q' w):ak w0 S w (L.set k (.box fp Q')):=
 H.less k hk (by
  have h2:(aD.box fp Q).ok w:=H.ok k _ hk
  exact ⟨h2.1,fun w' hw=>h w' (h2.2 w' hw)⟩) fun b hb=>hb
end Go.Ev
namespace Go.Proofs.YtgjoehgomjgckaaGreatDoor
open Go Go.Ev
set_option maxRecDepth 20000
set_option linter.unusedVariables false
def oQ (k:aP) (n:Nat):Int:=if cL k=true then (if n=64 then (if k.aH.length=5 then 12 else 0) else 3) else 2
def iV (k:aP) (aq:List B8):aP:=if oQ k aq.length=0 then ⟨k.id,k.ten,k.set,k.aH ++ [⟨(k.aH.length:Int)+1,1,0,aq⟩]⟩ else kz
theorem aaz {w w7:World} {p1:Nat} {L:List aD} {K:Nat} {e:Value} {c:Int} {t:TypeId} {cs:List Value} (H:ak w [] w7 L) (hK:L[K]? = some (.av p1 cs t)) (jo:cs.length=4) {w8:World} (h:cP w7 w8 e c) (m:Mod [] w7 w8) :
  cF ⟨p1,0,none⟩ 0 0 0 ⟨none,0,0⟩ w8 fun w8=>bA ⟨p1,0,none⟩ w8 fun a b c' d=>BW w w8 (.tuple ⟨[.agg ⟨[.int .i64 a,.int .i64 b,.int .i64 c',.slice d.a d.n d.c]⟩,e]⟩) kz c:=by
 have hKl:K<L.length:=(List.getElem?_eq_some_iff.1 hK).1
 have H:=H.gH m h
 refine H.cF K (by rw [List.getElem?_append_left hKl]; exact hK) jo fun w9 H=>?_
 have hg:((L ++ [aD.err e c]).set K (.av p1 (dH 0 0 0 ⟨none,0,0⟩) t))[K]? = some (.av p1 (dH 0 0 0 ⟨none,0,0⟩) t):=by
  rw [List.getElem?_set,if_pos rfl,if_pos (by simp; omega)]
 have he:((L ++ [aD.err e c]).set K (.av p1 (dH 0 0 0 ⟨none,0,0⟩) t))[L.length]? = some (aD.err e c):=by
  rw [List.getElem?_set,if_neg (by omega),List.getElem?_append_right (Nat.le_refl _),Nat.sub_self]; rfl
 refine H.bA K hg ⟨⟨none,0,0⟩,e,rfl,Ex H.mod fun w=>jZ.nil w,?_⟩
 exact ⟨H.ok L.length _ he,fun b hb=>(H.own L.length _ he b hb).resolve_left (by simp)⟩
theorem afD (k:aP) (x xs:ah) (aq:List B8) (hl:k.aH.length≤1000000) (w:World) (hx:gh w x k.aH) (hs:Bytes w xs aq):Ok Pr MV [.agg ⟨k.cs x⟩,.slice xs.a xs.n xs.c] w fun r w'=>BW w w' r (iV k aq) (oQ k aq.length):=by
 refine aeb ?_
 unfold Nx
 rw [pM]
 have bU:=hx.len
 have dU:=hs.len
 have hC:oQ k aq.length=if cL k=true then (if aq.length=64 then (if k.aH.length=5 then 12 else 0) else 3) else 2:=rfl
 have hR:iV k aq=if oQ k aq.length=0 then ⟨k.id,k.ten,k.set,k.aH ++ [⟨(k.aH.length:Int)+1,1,0,aq⟩]⟩ else kz:=rfl
 generalize oQ k aq.length=C at *
 generalize iV k aq=R at *
 refine (ak.start w).nw fun p w1 H _=>H.nw fun p1 w2 H _=>?_
 have H:ak w [] w2 [.av p (dH k.id k.ten k.set x) aV,.av p1 [.int .i64 0,.int .i64 0,.int .i64 0,.slice none 0 0] aV]:=H
 refine H.bA 0 rfl (aB (wV k x hl _ (hx.aG H.mod)) ?_)
 rintro _ w3 ⟨rfl,m3⟩
 have H:=H.frame m3
 have no:∀ c:Int,c≠0→C=c→ay Pr kZ [.int .i64 c] w3 fun v w4=>cF ⟨p1,0,none⟩ 0 0 0 ⟨none,0,0⟩ w4 fun w8=>bA ⟨p1,0,none⟩ w8 fun a b c' d=>BW w w8 (.tuple ⟨[.agg ⟨[.int .i64 a,.int .i64 b,.int .i64 c',.slice d.a d.n d.c]⟩,v]⟩) R C:=by
  intro c hc iq
  rw [iq,if_neg hc] at hR
  subst hR
  rw [iq]
  refine aB (A5 c hc w3) ?_
  rintro e w4 ⟨h,m⟩
  exact aaz H (K:=1) rfl rfl h m
 refine bz ?_
 cases hm:cL k with
 | false=>
  rw [hm,if_neg (by decide)] at hC
  exact ite_true rfl (no 2 (by decide) hC)
 | true=>
  rw [hm,if_pos rfl] at hC
  refine ite_false rfl ?_
  by_cases g8:aq.length=64
  case neg=>
   rw [if_neg g8] at hC
   exact ite_true (by rw [decide_eq_false (show ¬ ((xs.n:Nat):Int)=64 by omega)]; rfl) (no 3 (by decide) hC)
  rw [if_pos g8] at hC
  refine ite_false (by rw [decide_eq_true (show ((xs.n:Nat):Int)=64 by omega)]; rfl) (H.ax 0 rfl (au p 3) rfl ?_)
  by_cases h5:k.aH.length=5
  case pos=>
   rw [if_pos h5] at hC
   exact ite_true (decide_eq_true (by omega)) (no 12 (by decide) hC)
  rw [if_neg h5] at hC
  rw [hC,if_pos rfl] at hR
  subst hR
  rw [hC]
  obtain ⟨h1,h2⟩:=HU hm
  refine ite_false (decide_eq_false (by omega)) (H.bA 0 rfl (aB (HE k x (by omega) (fun v hv=>Nat.le_trans (h2 v hv) (by omega)) _ (hx.aG H.mod)) ?_))
  rintro _ w4 ⟨y,rfl,hy⟩
  have jU:=hy.box.now.aH.len
  obtain ⟨ys,fp,D⟩:=hy
  have hE:bn iB w4 ys k.aH:=D.box 1 rfl
  have H:=H.join D
  refine oA (H.cF 0 rfl rfl fun w5 H=>?_)
  have H:ak w [] w5.drew [.av p (dH k.id k.ten k.set y) aV,.av p1 [.int .i64 0,.int .i64 0,.int .i64 0,.slice none 0 0] aV,.row cw 4 y (bh bq.cs k.aH ys),.box fp fun w=>bn iB w ys k.aH]:=H.drew
  refine H.ax 0 rfl (au p 3) rfl (H.ax 0 rfl (au p 3) rfl ⟨⟨by omega,by omega⟩,aB (Vu _ xs aq (by omega) _ (hs.aG H.mod)) ?_⟩)
  rintro _ w6 ⟨u,rfl,hu⟩
  obtain ⟨f2,H1⟩:=H.iy hu
  refine wK ⟨H.jY 0 rfl hu.mod 3,H1.nw fun p2 w7 H2 _=>⟨kN (H1.av 0 rfl) (H2.av 0 rfl) (jI _ _),?_⟩⟩
  rw [show ((y.n:Nat):Int)+1=(k.aH.length:Int)+1 by omega] at H2
  have kU:bX w7 p2 ((bq.mk ((k.aH.length:Int)+1) 1 0 aq).cs u) cw:=H2.av 5 rfl
  have dU:=kU.sl 4 1 1 (by rw [bq.cz]; decide) (by omega)
  rw [show ((bq.mk ((k.aH.length:Int)+1) 1 0 aq).cs u).take (1 * 4)=(bq.mk ((k.aH.length:Int)+1) 1 0 aq).cs u from rfl] at dU
  refine H2.app (x:=⟨some ⟨p2,0,none⟩,1,1⟩) 2 Rz rfl dU (bq.l7 _ _) (by show (y.n+1) * 48≤_; omega) (by show y.n+1≤_; omega) fun y' w8 H3 _=>?_
  refine H3.st 0 rfl (au p 3) (by show 3<4; omega) rfl fun w9 H4=>?_
  have H4:ak w [] w9 [.av p (dH k.id k.ten k.set y') aV,.av p1 [.int .i64 0,.int .i64 0,.int .i64 0,.slice none 0 0] aV,.row cw 4 y' (bh bq.cs k.aH ys ++ (bq.mk ((k.aH.length:Int)+1) 1 0 aq).cs u),.box fp fun w=>bn iB w ys k.aH,.box f2 fun w=>Own w 0 aX 1 u (bp aq),.av p2 ((bq.mk ((k.aH.length:Int)+1) 1 0 aq).cs u) cw]:=H4
  refine H4.bA 0 rfl (H4.cF 1 rfl rfl fun cM H5=>H5.bA 1 rfl ⟨y',.nilIface,rfl,?_,qN _ _⟩)
  refine H5.boxed fun w' h=>⟨ys ++ [u],?_,?_⟩
  ·rw [Bx _ _ hE.1,zB]
   exact h 2 _ rfl
  ·have h3:(aD.box fp fun w=>bn iB w ys k.aH).ok w':=h 3 _ rfl
   have h4:(aD.box f2 fun w=>Own w 0 aX 1 u (bp aq)).ok w':=h 4 _ rfl
   exact bn.snoc (h3.2 w' fun _ _=>rfl) (h4.2 w' fun _ _=>rfl)
def xJ (vs:List bq):Nat→Option bq
 | 0=>none
 | n+1=>if (vs.getD n vz).st=1 then some (vs.getD n vz) else xJ vs n
def kD (k:aP):Option bq:=if cL k=true then xJ k.aH k.aH.length else none
theorem aeR (k:aP) (x:ah) (hl:k.aH.length≤1000000) (w:World) (hx:gh w x k.aH):Ok Pr Mv [.agg ⟨k.cs x⟩] w fun r w'=>ZB w w' r (kD k):=by
 refine adG ?_
 unfold ML
 rw [xy]
 have bU:=hx.len
 refine (ak.start w).nw fun p w1 H _=>H.nw fun p1 w2 H _=>?_
 have H:ak w [] w2 [.av p (dH k.id k.ten k.set x) aV,.av p1 [.int .i64 0,.int .i64 0,.int .i64 0,.slice none 0 0] cw]:=H
 refine H.ax 0 rfl (au p 3) rfl ?_
 refine zo (fun (n:Int) w'=>∃ j:Nat,n=(j:Int)∧j≤k.aH.length∧(cL k=true→xJ k.aH j=kD k)∧ak w [] w' [.av p (dH k.id k.ten k.set x) aV,.av p1 [.int .i64 0,.int .i64 0,.int .i64 0,.slice none 0 0] cw]) (fun n _=>n.toNat)
  ⟨k.aH.length,by omega,Nat.le_refl _,fun h=>by unfold kD; rw [if_pos h],H⟩ ?_
 rintro again _ w3 ⟨j,rfl,hj,Jy,H⟩ aM
 refine bV (fun hc=>?_) (fun hc=>?_)
 ·have hc:=of_decide_eq_true hc
  obtain ⟨i,rfl⟩:∃ i,j=i+1:=⟨j - 1,by omega⟩
  have back:∀ w6,ak w [] w6 [.av p (dH k.id k.ten k.set x) aV,.av p1 [.int .i64 0,.int .i64 0,.int .i64 0,.slice none 0 0] cw]→(cL k=true→xJ k.aH i=kD k)→aF (((i+1:Nat):Int) - 1)∧again (((i+1:Nat):Int) - 1) w6:=fun w6 H h=>by
   refine ⟨⟨by omega,by omega⟩,?_⟩
   rw [show ((i+1:Nat):Int) - 1=(i:Int) by omega]
   exact aM _ w6 ⟨i,rfl,by omega,h,H⟩ (by omega)
  refine H.bA 0 rfl (aB (DP k x ((i+1:Nat):Int) hl _ (hx.aG H.mod)) ?_)
  rintro _ w4 ⟨y,rfl,hy⟩
  obtain ⟨f,H1⟩:=H.iy hy
  have ql:(cL k=true→xJ k.aH (i+1)=kD k):=Jy
  refine ⟨_,rfl,wK ⟨_,rfl,rfl,H1.nw fun p2 w5 H2 _=>H2.fz 3 rfl rfl fun w6 H2=>H2.an 3 rfl (au p2 1) rfl ?_⟩⟩
  cases hf:iS k ((i+1:Nat):Int) with
  | none=>
   refine ite_false rfl (back w6 (H2.take 2) fun h=>?_)
   unfold iS aS at hf
   rw [h,if_pos (by simp; omega)] at hf
   cases hf
  | some v=>
   obtain ⟨h1,h2,h3,h4,h5⟩:=Qz hf
   rw [show (((i+1:Nat):Int) - 1).toNat=i by omega] at h4
   have hs:=ql h1
   change (if (k.aH.getD i vz).st=1 then some (k.aH.getD i vz) else xJ k.aH i)=kD k at hs
   rw [← h4] at hs
   rw [hf] at hy H2
   by_cases h:v.st=1
   ·rw [if_pos h] at hs
    rw [← hs]
    refine ite_true (by show (true && decide (v.st=1))=true; rw [decide_eq_true h]; rfl) (H2.gE 3 rfl (H2.fz 1 rfl rfl fun w7 H=>H.gE 1 rfl ⟨y,rfl,?_⟩))
    refine H.boxed fun w' hh=>?_
    have h2:(aD.box f fun w=>jM w y ((some v).getD vz)).ok w':=hh 2 _ rfl
    exact h2.2 w' fun _ _=>rfl
   ·rw [if_neg h] at hs
    exact ite_false (by show (true && decide (v.st=1))=false; rw [decide_eq_false h]; rfl) (back w6 (H2.take 2) fun _=>hs)
 ·have hc:=of_decide_eq_false hc
  obtain rfl:j=0:=by omega
  have e:kD k=none:=by
   by_cases h:cL k=true
   ·exact (Jy h).symm
   ·unfold kD; rw [if_neg h]
  rw [e]
  exact H.fz 1 rfl rfl fun w8 H=>H.gE 1 rfl ⟨⟨none,0,0⟩,rfl,Ex H.mod fun w=>YH w⟩
end Go.Proofs.YtgjoehgomjgckaaGreatDoor
end
section
set_option linter.unusedVariables false
set_option linter.unusedSimpArgs false
namespace Go.Proofs.YtgjoehgomjgckaaGreatDoor
open Go Go.Ev
set_option maxRecDepth 20000
set_option linter.unusedVariables false
theorem DG {A:Type} {l:List A} {i:Nat} {a:A} (h:l[i]? = some a):l.set i a=l:=by
 refine List.ext_getElem? fun k=>?_
 rw [List.getElem?_set]
 by_cases e:i=k
 ·subst e; rw [if_pos rfl,if_pos (List.getElem?_eq_some_iff.1 h).1,h]
 ·rw [if_neg e]
theorem bn.put {A:Type} {E:World→ah→A→Prop} {w:World} {xs:List ah} {ls:List A} (h:bn E w xs ls) {i:Nat} {x:ah} {a:A} (hE:E w x a):bn E w (xs.set i x) (ls.set i a):=by
 refine ⟨by rw [List.length_set,List.length_set]; exact h.1,fun j y b hy hb=>?_⟩
 rw [List.getElem?_set] at hy hb
 by_cases e:i=j
 ·subst e
  rw [if_pos rfl] at hy hb
  split at hy
  ·split at hb
   ·cases hy; cases hb; exact hE
   ·cases hb
  ·cases hy
 ·rw [if_neg e] at hy hb
  exact h.2 j y b hy hb
def vL (k:aP) (op bu dY clock:Int):Int:=
 if cL k=true∧5≤op∧op≤8 then (match iS k bu with
  | none=>9
  | some v=>match kO op v.st with
   | none=>11
   | some _=>if op=7∧(dY≤clock∨aS 1 1099511627776 dY=false) then 2 else 0) else 2
def BX (k:aP) (op bu dY:Int):bq:=⟨(k.aH.getD (bu - 1).toNat vz).n,(kO op (k.aH.getD (bu - 1).toNat vz).st).getD 0,if op=7 then dY else 0,(k.aH.getD (bu - 1).toNat vz).aq⟩
def p7 (k:aP) (op bu dY clock:Int):aP:=if vL k op bu dY clock=0 then ⟨k.id,k.ten,k.set,k.aH.set (bu - 1).toNat (BX k op bu dY)⟩ else kz
theorem ahI (k:aP) (x:ah) (op bu dY clock:Int) (hl:k.aH.length≤1000000) (w:World) (hx:gh w x k.aH):Ok Pr PF [.agg ⟨k.cs x⟩,.int .i64 op,.int .i64 bu,.int .i64 dY,.int .i64 clock] w fun r w'=>BW w w' r (p7 k op bu dY clock) (vL k op bu dY clock):=by
 refine agy ?_
 unfold Qx
 rw [pM,xy]
 have bU:=hx.len
 have hC:vL k op bu dY clock=if cL k=true∧5≤op∧op≤8 then (match iS k bu with
  | none=>9
  | some v=>match kO op v.st with
   | none=>11
   | some _=>if op=7∧(dY≤clock∨aS 1 1099511627776 dY=false) then 2 else 0) else 2:=rfl
 have hR:p7 k op bu dY clock=if vL k op bu dY clock=0 then ⟨k.id,k.ten,k.set,k.aH.set (bu - 1).toNat (BX k op bu dY)⟩ else kz:=rfl
 generalize vL k op bu dY clock=C at *
 generalize p7 k op bu dY clock=R at *
 refine (ak.start w).nw fun p w1 H _=>H.nw fun p1 w2 H _=>?_
 have H:ak w [] w2 [.av p (dH k.id k.ten k.set x) aV,.av p1 [.int .i64 0,.int .i64 0,.int .i64 0,.slice none 0 0] aV]:=H
 refine H.bA 0 rfl (aB (wV k x hl _ (hx.aG H.mod)) ?_)
 rintro _ w3 ⟨rfl,m3⟩
 have H:=H.frame m3
 have no:∀ {L:List aD} {w3:World} (c:Int),ak w [] w3 L→L[1]? = some (.av p1 [.int .i64 0,.int .i64 0,.int .i64 0,.slice none 0 0] aV)→c≠0→C=c→ay Pr kZ [.int .i64 c] w3 fun v w4=>cF ⟨p1,0,none⟩ 0 0 0 ⟨none,0,0⟩ w4 fun w8=>bA ⟨p1,0,none⟩ w8 fun a b c' d=>BW w w8 (.tuple ⟨[.agg ⟨[.int .i64 a,.int .i64 b,.int .i64 c',.slice d.a d.n d.c]⟩,v]⟩) R C:=by
  intro L w3 c H hL hc iq
  rw [iq,if_neg hc] at hR
  subst hR
  rw [iq]
  refine aB (A5 c hc w3) ?_
  rintro e w4 ⟨h,m⟩
  exact aaz H (K:=1) hL rfl h m
 refine bz ?_
 by_cases h0:cL k=true∧5≤op∧op≤8
 case neg=>
  rw [if_neg h0] at hC
  refine ite_true ?_ (no 2 H rfl (by decide) hC)
  cases hm:cL k with
  | false=>rfl
  | true=>
   rw [hm] at h0
   by_cases h:op<5
   ·rw [decide_eq_true h]; rfl
   ·rw [decide_eq_false h,decide_eq_true (show 8<op from Decidable.byContradiction fun hh=>h0 ⟨rfl,by omega,by omega⟩)]; rfl
 rw [if_pos h0] at hC
 obtain ⟨hm,ho1,ho2⟩:=h0
 obtain ⟨b1,b2⟩:=HU hm
 refine ite_false (by rw [hm,decide_eq_false (show ¬ op<5 by omega),decide_eq_false (show ¬ 8<op by omega)]; rfl) (H.bA 0 rfl (aB (DP k x bu hl _ (hx.aG H.mod)) ?_))
 rintro _ w4 ⟨y,rfl,hy⟩
 obtain ⟨f,H⟩:=H.iy hy
 refine ⟨_,rfl,wK ⟨_,rfl,rfl,H.nw fun p2 w5 H _=>H.fz 3 rfl rfl fun w6 H=>?_⟩⟩
 cases hf:iS k bu with
 | none=>
  rw [hf] at hC
  exact ite_true rfl (no 9 H rfl (by decide) hC)
 | some v=>
  rw [hf] at hC
  obtain ⟨_,h2,h3,h4,h5⟩:=Qz hf
  refine ite_false rfl (H.an 3 rfl (au p2 1) rfl (aB (ag6 op _ _) ?_))
  rw [hf]
  change _=_ at hC
  rintro _ w7 ⟨z,rfl,hz,hw⟩
  subst hw
  refine ⟨_,rfl,_,rfl,_,rfl,rfl,jK fun go bY=>?_⟩
  change C=(match kO op v.st with | none=>11 | some _=>if op=7∧(dY≤clock∨aS 1 1099511627776 dY=false) then 2 else 0) at hC
  change ∀ s,kO op v.st=some s→z=s at hz
  show aA (!(kO op v.st).isSome) _ _
  cases hn:kO op v.st with
  | none=>
   rw [hn] at hC
   exact ite_true rfl (no 11 H rfl (by decide) hC)
  | some s=>
   rw [hn] at hC
   obtain rfl:z=s:=hz s hn
   change C=if op=7∧(dY≤clock∨aS 1 1099511627776 dY=false) then 2 else 0 at hC
   have rest:C=0→go (if op=7 then dY else 0) w7:=by
    intro hC0
    rw [hC0,if_pos rfl] at hR
    subst hR
    rw [hC0] at bY
    refine bY _ _ (H.bA 0 rfl (aB (HE k x (by omega) (fun v hv=>Nat.le_trans (b2 v hv) (by omega)) _ (hx.aG H.mod)) ?_))
    rintro _ w8 ⟨u,rfl,hu⟩
    have nY:=hu.box.now.aH.len
    obtain ⟨ys,fp,D⟩:=hu
    have hE:bn iB w8 ys k.aH:=D.box 1 rfl
    have H:=(H.join D)
    refine oA (H.cF 0 rfl rfl fun w9 H=>?_)
    have H:=H.drew
    obtain ⟨j,hj⟩:∃ j:Nat,bu - 1=(j:Int):=⟨(bu - 1).toNat,by omega⟩
    unfold BX
    rw [hj] at h4 ⊢
    rw [Int.toNat_natCast] at h4 ⊢
    rw [← h4,hn]
    have ha:k.aH[j]? = some v:=by rw [h4,List.getD_eq_getElem?_getD,List.getElem?_eq_getElem (by omega)]; rfl
    obtain ⟨q,hq⟩:∃ q,ys[j]? = some q:=⟨_,List.getElem?_eq_getElem (by rw [hE.1]; omega)⟩
    have gY:jM w8 q v:=(hE.2 j q v hq ha).r
    have Kb:=iQ bq.cz k.aH ys hE.1
    refine H.ax 0 rfl (au p 3) rfl ⟨⟨by omega,by omega⟩,H.ax 0 rfl (au p 3) rfl ⟨⟨by omega,by omega⟩,⟨(H.fJ 4 rfl).pre (by omega),by omega,by omega⟩,?_⟩⟩
    refine H.qQ 4 (i:=j * 4+1) rfl (by rw [add_add]) (by omega) rfl fun cM H2=>?_
    refine ⟨kN (H.av 0 rfl) (H2.av 0 rfl) (jI _ _),⟨(H.fJ 4 rfl).pre (by omega),by omega,by omega⟩,?_⟩
    refine H2.qQ 4 (i:=j * 4+2) rfl (by rw [add_add]) (by rw [List.length_set]; omega) rfl fun cZ H3=>?_
    have e1:(bh bq.cs k.aH ys).set (j * 4+1) (.int .i64 z)=bh bq.cs (k.aH.set j ⟨v.n,z,v.due,v.aq⟩) (ys.set j q):=tD bq.cz k.aH ys j 1 v ⟨v.n,z,v.due,v.aq⟩ q q _ ha hq (by omega) rfl
    have e2:(bh bq.cs (k.aH.set j ⟨v.n,z,v.due,v.aq⟩) (ys.set j q)).set (j * 4+2) (.int .i64 (if op=7 then dY else 0))=bh bq.cs ((k.aH.set j ⟨v.n,z,v.due,v.aq⟩).set j ⟨v.n,z,if op=7 then dY else 0,v.aq⟩) ((ys.set j q).set j q):=
     tD bq.cz _ _ j 2 ⟨v.n,z,v.due,v.aq⟩ ⟨v.n,z,if op=7 then dY else 0,v.aq⟩ q q _ (by rw [List.getElem?_set,if_pos rfl,if_pos (by omega)]) (by rw [DG hq]; exact hq) (by omega) rfl
    refine H3.bA 0 rfl (H3.cF 1 rfl rfl fun fV H4=>H4.bA 1 rfl ⟨u,.nilIface,rfl,?_,qN _ _⟩)
    refine H4.boxed fun w' h=>⟨ys,?_,?_⟩
    ·have ho:Own w' 0 cw 4 u (((bh bq.cs k.aH ys).set (j * 4+1) (.int .i64 z)).set (j * 4+2) (.int .i64 (if op=7 then dY else 0))):=h 4 _ rfl
     rw [e1,e2,List.set_set,List.set_set,DG hq] at ho
     exact ho
    ·have h5:(aD.box fp fun w=>bn iB w ys k.aH).ok w':=h 5 _ rfl
     have hE':=h5.2 w' fun _ _=>rfl
     have:=bn.put hE' (i:=j) (x:=q) (a:=⟨v.n,z,if op=7 then dY else 0,v.aq⟩) (hE'.2 j q v hq ha:iB w' q v)
     rw [DG hq] at this
     exact this
   refine ite_false rfl ?_
   by_cases h7:op=7
   ·rw [if_pos h7] at rest
    refine ite_false (by rw [decide_eq_true h7]; rfl) (jK fun j6 jl=>?_)
    refine bV (fun hc=>?_) (fun hc=>?_)
    ·have hc:=of_decide_eq_true hc
     rw [if_pos ⟨h7,.inl hc⟩] at hC
     exact jl _ _ (ite_true rfl (no 2 H rfl (by decide) hC))
    ·have hc:=of_decide_eq_false hc
     refine aB (yZ _ _ _ _) ?_
     rintro _ w8 ⟨rfl,hw⟩
     subst hw
     refine bz (jl _ _ ?_)
     cases hi:aS 1 1099511627776 dY with
     | false=>
      rw [if_pos ⟨h7,.inr hi⟩] at hC
      exact ite_true rfl (no 2 H rfl (by decide) hC)
     | true=>
      rw [if_neg (by rintro ⟨_,h | h⟩; exact hc h; rw [hi] at h; cases h)] at hC
      exact ite_false rfl (rest hC)
   ·rw [if_neg h7] at rest
    rw [if_neg (fun h=>h7 h.1)] at hC
    exact ite_true (by rw [decide_eq_false h7]; rfl) (rest hC)
end Go.Proofs.YtgjoehgomjgckaaGreatDoor
end
section
set_option linter.unusedVariables false
set_option linter.unusedSimpArgs false
namespace Go.Proofs.YtgjoehgomjgckaaGreatDoor
open Go Go.Ev
set_option maxRecDepth 20000
set_option linter.unusedVariables false
theorem _root_.Go.Ev.ak.al8 {w0 w:World} {S:List Nat} {L:List aD} (H:ak w0 S w L) (k:Nat) {s:ah} {vs:List bq} {xs:List ah} (hk:L[k]? = some (.row cw 4 s (bh bq.cs vs xs))) (jR:xs.length=vs.length) {i:Nat} (hi:i<vs.length) (v':bq) (x':ah) {K:World→Prop}
  (h:∀ w',ak w0 S w' (L.set k (.row cw 4 s (bh bq.cs (vs.set i v') (xs.set i x'))))→K w'):fz (Addr.add (base s.a) (i * 4)) v'.n v'.st v'.due x' w K:=by
 have bO:k<L.length:=(List.getElem?_eq_some_iff.1 hk).1
 obtain ⟨v,hv⟩:∃ v,vs[i]? = some v:=⟨_,List.getElem?_eq_getElem hi⟩
 obtain ⟨x,hx⟩:∃ x,xs[i]? = some x:=⟨_,List.getElem?_eq_getElem (by omega)⟩
 have Kb:=iQ bq.cz vs xs jR
 have g:∀ {l:List Value} {w:World} {L':List aD},(L'.set k (.row cw 4 s l)).length=L'.length:=by simp
 have e0:(bh bq.cs vs xs).set (i * 4+0) (.int .i64 v'.n)=bh bq.cs (vs.set i ⟨v'.n,v.st,v.due,v.aq⟩) (xs.set i x):=tD bq.cz vs xs i 0 v ⟨v'.n,v.st,v.due,v.aq⟩ x x _ hv hx (by omega) rfl
 have q1:(vs.set i ⟨v'.n,v.st,v.due,v.aq⟩)[i]? = some ⟨v'.n,v.st,v.due,v.aq⟩:=by rw [List.getElem?_set,if_pos rfl,if_pos hi]
 have p1:(xs.set i x)[i]? = some x:=by rw [DG hx]; exact hx
 have e1:=tD bq.cz _ _ i 1 _ ⟨v'.n,v'.st,v.due,v.aq⟩ x x (.int .i64 v'.st) q1 p1 (by omega) rfl
 rw [List.set_set,List.set_set] at e1
 have q2:(vs.set i ⟨v'.n,v'.st,v.due,v.aq⟩)[i]? = some ⟨v'.n,v'.st,v.due,v.aq⟩:=by rw [List.getElem?_set,if_pos rfl,if_pos hi]
 have e2:=tD bq.cz _ _ i 2 _ ⟨v'.n,v'.st,v'.due,v.aq⟩ x x (.int .i64 v'.due) q2 p1 (by omega) rfl
 rw [List.set_set,List.set_set] at e2
 have q3:(vs.set i ⟨v'.n,v'.st,v'.due,v.aq⟩)[i]? = some ⟨v'.n,v'.st,v'.due,v.aq⟩:=by rw [List.getElem?_set,if_pos rfl,if_pos hi]
 have e3:=tD bq.cz _ _ i 3 _ v' x x' x'.v q3 p1 (by omega) rfl
 rw [List.set_set,List.set_set] at e3
 have gk:∀ (r:aD) (M:List aD),k<M.length→(M.set k r)[k]? = some r:=fun r M h=>by rw [List.getElem?_set,if_pos rfl,if_pos h]
 refine H.qQ k (i:=i * 4+0) hk (by rw [add_add]) (by omega) rfl fun w1 H1=>?_
 rw [e0] at H1
 refine H1.qQ k (i:=i * 4+1) (gk _ _ bO) (by rw [add_add]) (by rw [iQ bq.cz _ _ (by simp [jR])]; simp; omega) rfl fun w2 H2=>?_
 rw [e1,List.set_set] at H2
 refine H2.qQ k (i:=i * 4+2) (gk _ _ bO) (by rw [add_add]) (by rw [iQ bq.cz _ _ (by simp [jR])]; simp; omega) rfl fun w3 H3=>?_
 rw [e2,List.set_set] at H3
 refine H3.qQ k (i:=i * 4+3) (v:=x'.v) (gk _ _ bO) (by rw [add_add]) (by rw [iQ bq.cz _ _ (by simp [jR])]; simp; omega) rfl fun w4 H4=>?_
 rw [e3,List.set_set] at H4
 exact h w4 H4
def fP (clock:Int) (v:bq):bq:=if v.st=3∧v.due≤clock then ⟨v.n,4,0,[]⟩ else v
def o8 (clock:Int) (vs:List bq):Nat:=vs.countP fun v=>decide (v.st=3∧v.due≤clock)
def j9 (k:aP) (clock:Int):aP:=if cL k=true then ⟨k.id,k.ten,k.set,k.aH.map (fP clock)⟩ else kz
def ou (k:aP) (clock:Int):Nat:=if cL k=true then o8 clock k.aH else 0
theorem agA (k:aP) (x:ah) (clock:Int) (hl:k.aH.length≤1000000) (w:World) (hx:gh w x k.aH):Ok Pr NK [.agg ⟨k.cs x⟩,.int .i64 clock] w fun r w'=>∃ y:ah,r=.tuple ⟨[.agg ⟨(j9 k clock).cs y⟩,.int .i64 (ou k clock:Int)]⟩∧fK w w' fun w=>jZ w y (j9 k clock).aH:=by
 refine aeK ?_
 unfold Ot
 rw [pM,xy]
 have bU:=hx.len
 refine (ak.start w).nw fun p w1 H _=>H.nw fun p1 w2 H _=>?_
 have H:ak w [] w2 [.av p (dH k.id k.ten k.set x) aV,.av p1 [.int .i64 0,.int .i64 0,.int .i64 0,.slice none 0 0] aV]:=H
 refine H.bA 0 rfl (aB (wV k x hl _ (hx.aG H.mod)) ?_)
 rintro _ w3 ⟨rfl,m3⟩
 have H:=H.frame m3
 refine bz ?_
 have hR:j9 k clock=if cL k=true then ⟨k.id,k.ten,k.set,k.aH.map (fP clock)⟩ else kz:=rfl
 have hM:ou k clock=if cL k=true then o8 clock k.aH else 0:=rfl
 generalize j9 k clock=R at *
 generalize ou k clock=M at *
 cases hm:cL k with
 | false=>
  rw [hm,if_neg (by decide)] at hR hM
  subst hR hM
  exact ite_true rfl (H.cF 1 rfl rfl fun w8 H=>H.bA 1 rfl ⟨⟨none,0,0⟩,rfl,Ex H.mod fun w=>jZ.nil w⟩)
 | true=>
  rw [hm,if_pos rfl] at hR hM
  subst hR hM
  obtain ⟨b1,b2⟩:=HU hm
  refine ite_false rfl (H.bA 0 rfl (aB (HE k x (by omega) (fun v hv=>Nat.le_trans (b2 v hv) (by omega)) _ (hx.aG H.mod)) ?_))
  rintro _ w4 ⟨u,rfl,hu⟩
  have nY:=hu.box.now.aH.len
  obtain ⟨ys,fp,D⟩:=hu
  have hE:bn iB w4 ys k.aH:=D.box 1 rfl
  have H:=(H.join D)
  refine oA (H.cF 0 rfl rfl fun w5 H=>H.ax 0 rfl (au p 3) rfl ?_)
  have H:ak w [] w5 [.av p (dH k.id k.ten k.set u) aV,.av p1 [.int .i64 0,.int .i64 0,.int .i64 0,.slice none 0 0] aV,.row cw 4 u (bh bq.cs k.aH ys),.box fp fun w=>bn iB w ys k.aH]:=H
  have Ke:∀ i,i<k.aH.length→o8 clock (k.aH.take (i+1))=o8 clock (k.aH.take i)+if (k.aH.getD i vz).st=3∧(k.aH.getD i vz).due≤clock then 1 else 0:=fun i hi=>by
   unfold o8
   rw [kY _ _ hi vz,List.countP_append]
   simp [List.countP_cons]
  refine k7 0 k.aH.length (fun i (n:Int) w'=>n=(o8 clock (k.aH.take i):Int)∧∃ zs,zs.length=k.aH.length∧ak w [] w' [.av p (dH k.id k.ten k.set u) aV,.av p1 [.int .i64 0,.int .i64 0,.int .i64 0,.slice none 0 0] aV,.row cw 4 u (bh bq.cs ((k.aH.take i).map (fP clock) ++ k.aH.drop i) zs),.box fp fun w=>bn iB w zs ((k.aH.take i).map (fP clock) ++ k.aH.drop i)]) rfl (by omega) ⟨rfl,ys,hE.1,H⟩ ?_ ?_
  ·rintro again i _ w6 _ hi ⟨rfl,zs,jS,H⟩ aM
   have hcN:=Ke i hi
   have hle:o8 clock (k.aH.take i)≤1000:=Nat.le_trans (List.countP_le_length) (by rw [List.length_take]; omega)
   have qW:=IT (fP clock) k.aH i hi vz
   have xS:=IU (fP clock) k.aH i hi
   have arB:((k.aH.take i).map (fP clock) ++ k.aH.drop i).length=k.aH.length:=by simp; omega
   have ha:k.aH[i]? = some (k.aH.getD i vz):=by rw [List.getD_eq_getElem?_getD,List.getElem?_eq_getElem hi]; rfl
   rw [ha] at xS
   obtain ⟨q,hq⟩:∃ q,zs[i]? = some q:=⟨_,List.getElem?_eq_getElem (by omega)⟩
   rw [← qW,hcN] at aM
   generalize (k.aH.take i).map (fP clock) ++ k.aH.drop i=MS at *
   generalize k.aH.getD i vz=v at *
   have hc:∀ (j:Nat) (t:Value),(v.cs q)[j]? = some t→w6.cell? (Addr.add (Addr.add (base u.a) (Int.toNat (i:Int) * 4)) j)=some t:=fun j t ht=>by
    rw [Int.toNat_natCast]
    exact (H.fJ 2 rfl).vw bq.cz xS hq ht
   refine ite_true (decide_eq_true (by omega)) ⟨⟨(H.fJ 2 rfl).pre (by omega),by omega,by omega⟩,uO hc (H.nw fun p2 w7 H _=>H.fz 4 rfl rfl fun w8 H=>H.an 4 rfl (au p2 1) rfl (H.an 4 rfl (au p2 2) rfl ?_))⟩
   by_cases hs:v.st=3∧v.due≤clock
   ·have es:fP clock v=⟨v.n,4,0,[]⟩:=by unfold fP; rw [if_pos hs]
    rw [es,if_pos hs] at aM
    refine ite_true (by rw [decide_eq_true hs.1,decide_eq_true hs.2]; rfl) (H.ax 0 rfl (au p 3) rfl (H.an 4 rfl (au p2 0) rfl ⟨⟨(H.fJ 2 rfl).pre (by omega),by omega,by omega⟩,?_⟩))
    rw [Int.toNat_natCast]
    refine H.al8 2 rfl (by omega) (by omega) ⟨v.n,4,0,[]⟩ ⟨none,0,0⟩ fun w9 H=>⟨⟨by omega,by omega⟩,⟨by omega,by omega⟩,aM _ w9 ⟨by omega,zs.set i ⟨none,0,0⟩,by rw [List.length_set]; exact jS,?_⟩⟩
    exact (H.RA 3 rfl fun w h=>bn.put h (i:=i) (x:=⟨none,0,0⟩) (a:=⟨v.n,4,0,[]⟩) (Own.nil w 0 aX 1)).take 4
   ·have es:fP clock v=v:=by unfold fP; rw [if_neg hs]
    rw [es,if_neg hs,DG xS] at aM
    refine ite_false ?_ ⟨⟨by omega,by omega⟩,aM _ w8 ⟨by omega,zs,jS,H.take 4⟩⟩
    show (decide (v.st=3) && decide (v.due≤clock))=false
    rw [Bool.and_eq_false_iff,decide_eq_false_iff_not,decide_eq_false_iff_not]
    by_cases h:v.st=3
    ·exact .inr fun h2=>hs ⟨h,h2⟩
    ·exact .inl h
  ·rintro again _ w6 ⟨rfl,zs,jS,H⟩
   rw [List.take_of_length_le (Nat.le_refl _),List.drop_of_length_le (Nat.le_refl _),List.append_nil] at H
   rw [List.take_of_length_le (Nat.le_refl _)]
   refine ite_false (decide_eq_false (by omega)) (H.bA 0 rfl (H.cF 1 rfl rfl fun w7 H=>H.bA 1 rfl ⟨u,rfl,?_⟩))
   refine H.boxed fun w' h=>⟨zs,h 2 _ rfl,?_⟩
   have h3:(aD.box fp fun w=>bn iB w zs (k.aH.map (fP clock))).ok w':=h 3 _ rfl
   exact h3.2 w' fun _ _=>rfl
end Go.Proofs.YtgjoehgomjgckaaGreatDoor
end
section
set_option linter.unusedVariables false
set_option linter.unusedSimpArgs false
namespace Go.Proofs.YtgjoehgomjgckaaGreatDoor
open Go Go.Ev
set_option maxRecDepth 20000
set_option linter.unusedVariables false
def RB (g:Value) (us:Int→Bool):Prop:=∀ (s:Int) (w:World),lX Pr g [.int .i64 s] w fun v w'=>v=.bool (us s)∧w'=w
def nq (s:Int):Bool:=!decide (s=4)
def j3 (s:Int):Bool:=decide (s=1)
theorem ahJ:jx Pr DB=true:=by kernel_rfl
theorem aj9:jx Pr GU=true:=by kernel_rfl
theorem XH:RB (.func (.func DB) ⟨[]⟩ ⟨[]⟩) j3:=fun s w=>by
 refine zu ahJ (adF ?_)
 unfold MK
 exact ⟨rfl,rfl⟩
theorem aii:RB (.func (.func GU) ⟨[]⟩ ⟨[]⟩) nq:=fun s w=>by
 refine zu aj9 (ado ?_)
 unfold Mn
 exact ⟨rfl,rfl⟩
def ju (k:aP) (bu:Int) (us:Int→Bool):Int:=if cL k=true then (match iS k bu with | none=>9 | some v=>if us v.st=true then mP k.set v.aq.length else 11) else 2
def sU (k:aP) (bu:Int) (us:Int→Bool):List B8:=if ju k bu us=0 then jt k.set ((iS k bu).getD vz).aq else []
def wB (k:aP) (bu:Int) (us:Int→Bool):List B8:=if ju k bu us=0 then uD k.set ((iS k bu).getD vz).aq else []
theorem al9 {set:Int} {l:List B8} (h:mP set l.length≠0):jt set l=[]:=by unfold jt; rw [if_neg h]
theorem ama {set:Int} {l:List B8} (h:mP set l.length≠0):uD set l=[]:=by unfold uD; rw [if_neg h]
theorem OA (k:aP) (x:ah) (bu:Int) (g:Value) (us:Int→Bool) (hg:RB g us) (hl:k.aH.length≤1000000) (w:World) (hx:gh w x k.aH):Ok Pr DS [.agg ⟨k.cs x⟩,.int .i64 bu,g] w fun r w'=>∃ (y z:ah) (er:Value),r=.tuple ⟨[.slice y.a y.n y.c,.slice z.a z.n z.c,er]⟩∧
  ak w [] w' [.row aX 1 y (bp (sU k bu us)),.row aX 1 z (bp (wB k bu us)),aD.err er (ju k bu us)]:=by
 refine afB ?_
 unfold Py
 rw [xy]
 have bU:=hx.len
 have hC:ju k bu us=if cL k=true then (match iS k bu with | none=>9 | some v=>if us v.st=true then mP k.set v.aq.length else 11) else 2:=rfl
 have hA:sU k bu us=if ju k bu us=0 then jt k.set ((iS k bu).getD vz).aq else []:=rfl
 have hB:wB k bu us=if ju k bu us=0 then uD k.set ((iS k bu).getD vz).aq else []:=rfl
 generalize ju k bu us=C at *
 generalize sU k bu us=A at *
 generalize wB k bu us=B at *
 refine (ak.start w).nw fun p w1 H _=>?_
 have H:ak w [] w1 [.av p (dH k.id k.ten k.set x) aV]:=H
 refine H.bA 0 rfl (aB (wV k x hl _ (hx.aG H.mod)) ?_)
 rintro _ w2 ⟨rfl,m2⟩
 have H:=H.frame m2
 have no:∀ {L:List aD} {w3:World} (c:Int),ak w [] w3 L→c≠0→C=c→ay Pr kZ [.int .i64 c] w3 fun v w4=>∃ (y z:ah) (er:Value),Value.tuple ⟨[.slice none 0 0,.slice none 0 0,v]⟩=.tuple ⟨[.slice y.a y.n y.c,.slice z.a z.n z.c,er]⟩∧
   ak w [] w4 [.row aX 1 y (bp A),.row aX 1 z (bp B),aD.err er C]:=by
  intro L w3 c H hc iq
  rw [iq] at hA hB
  rw [if_neg hc] at hA hB
  subst hA hB
  refine aB (A5 c hc w3) ?_
  rintro e w4 ⟨h,m4⟩
  rw [iq]
  exact ⟨⟨none,0,0⟩,⟨none,0,0⟩,e,rfl,((((ak.start w).iZ aX 1).iZ aX 1).frame H.mod).gH m4 h⟩
 refine bz ?_
 cases hm:cL k with
 | false=>
  rw [hm,if_neg (by decide)] at hC
  exact ite_true rfl (no 2 H (by decide) hC)
 | true=>
  rw [hm,if_pos rfl] at hC
  refine ite_false rfl (H.bA 0 rfl (aB (DP k x bu hl _ (hx.aG H.mod)) ?_))
  rintro _ w4 ⟨y,rfl,hy⟩
  obtain ⟨f,H⟩:=H.iy hy
  refine ⟨_,rfl,wK ⟨_,rfl,rfl,H.nw fun p1 w5 H _=>H.fz 2 rfl rfl fun w6 H=>?_⟩⟩
  cases hf:iS k bu with
  | none=>
   rw [hf] at hC
   exact ite_true rfl (no 9 H (by decide) hC)
  | some v=>
   rw [hf] at hC hA hB H
   change C=(if us v.st=true then mP k.set v.aq.length else 11) at hC
   change A=(if C=0 then jt k.set v.aq else []) at hA
   change B=(if C=0 then uD k.set v.aq else []) at hB
   refine ite_false rfl (H.an 2 rfl (au p1 1) rfl (D6 (hg _ _) ?_))
   rintro _ w7 ⟨rfl,hw⟩
   subst hw
   refine bz ?_
   show aA (!us v.st) _ _
   cases hu:us v.st with
   | false=>
    rw [hu,if_neg (by decide)] at hC
    exact ite_true rfl (no 11 H (by decide) hC)
   | true=>
    rw [hu,if_pos rfl] at hC
    have hs:jM w7 y v:=H.box 1 rfl
    refine ite_false rfl (H.an 0 rfl (au p 2) rfl (H.ax 2 rfl (au p1 3) rfl (aB (ahE k.set y v.aq _ hs) ?_)))
    rintro _ w8 ⟨a,b,er,rfl,D⟩
    refine ⟨_,rfl,a,rfl,b,rfl,rfl,a,b,er,rfl,?_⟩
    have H:=(H.join D).drop 3
    have eA:A=jt k.set v.aq:=by
     rw [hA]
     by_cases h:C=0
     ·rw [if_pos h]
     ·rw [if_neg h,al9 (by rw [← hC]; exact h)]
    have eB:B=uD k.set v.aq:=by
     rw [hB]
     by_cases h:C=0
     ·rw [if_pos h]
     ·rw [if_neg h,ama (by rw [← hC]; exact h)]
    rw [eA,eB,hC]
    exact H
theorem U7 (k:aP) (x:ah) (bu:Int) (hl:k.aH.length≤1000000) (w:World) (hx:gh w x k.aH):Ok Pr G5 [.agg ⟨k.cs x⟩,.int .i64 bu] w fun r w'=>∃ (y:ah) (er:Value),r=.tuple ⟨[.slice y.a y.n y.c,er]⟩∧
  ak w [] w' [.row aX 1 y (bp (sU k bu nq)),aD.err er (ju k bu nq)]:=by
 refine aea ?_
 unfold Nw
 refine (ak.start w).nw fun p w1 H _=>?_
 have H:ak w [] w1 [.av p (dH k.id k.ten k.set x) aV]:=H
 refine H.bA 0 rfl (aB (OA k x bu _ nq aii hl _ (hx.aG H.mod)) ?_)
 rintro _ w2 ⟨y,z,er,rfl,D⟩
 exact ⟨_,rfl,y,rfl,z,rfl,rfl,y,er,rfl,(H.join D).two 1 3 rfl rfl (by omega)⟩
theorem Wq {vs:List bq} {v:bq}:∀ n,xJ vs n=some v→∃ i,i<n∧v=vs.getD i vz∧v.st=1
 | 0,h=>by cases h
 | n+1,h=>by
  change (if (vs.getD n vz).st=1 then some (vs.getD n vz) else xJ vs n)=some v at h
  split at h
  ·rename_i hs
   cases h
   exact ⟨n,by omega,rfl,hs⟩
  ·obtain ⟨i,h1,h2⟩:=Wq n h
   exact ⟨i,by omega,h2⟩
theorem ai8 {k:aP} {v:bq} (h:kD k=some v):cL k=true∧v.st=1∧iS k v.n=some v∧v.aq.length=64∧mP k.set v.aq.length=0∧ju k v.n j3=0∧sU k v.n j3=jt k.set v.aq:=by
 unfold kD at h
 split at h
 ·rename_i hm
  obtain ⟨i,h1,h2,h3⟩:=Wq _ h
  obtain ⟨_,_,_,h4,h5⟩:=vm hm
  have h6:=h5 i h1
  rw [← h2] at h6
  obtain ⟨q1,q2,q3,q4,q5,q6,q7⟩:=IV h6
  have hf:iS k v.n=some v:=by
   unfold iS aS
   rw [if_pos (by rw [hm]; simp; omega),show (v.n - 1).toNat=i by omega,← h2]
  have g8:=q5 (by omega)
  have hk:mP k.set v.aq.length=0:=by unfold mP; rw [aj8 hm,if_pos rfl,if_pos g8]
  have hp:ju k v.n j3=0:=by
   unfold ju
   rw [if_pos hm,hf]
   show (if j3 v.st=true then mP k.set v.aq.length else 11)=0
   rw [if_pos (by unfold j3; rw [h3]; rfl),hk]
  refine ⟨hm,h3,hf,g8,hk,hp,?_⟩
  unfold sU
  rw [if_pos hp,hf]; rfl
 ·cases h
def kX (k:aP) (m:List B8):Int:=if cL k=true then (match kD k with | none=>11 | some v=>o7 k.set (jt k.set v.aq) m) else 2
def wC (k:aP) (m:List B8):Int:=if kX k m=0 then ((kD k).getD vz).n else 0
def jQ (k:aP) (m:List B8):List B8:=if kX k m=0 then AK k.set (jt k.set ((kD k).getD vz).aq) m else []
def sV (k:aP) (m:List B8):List B8:=if kX k m=0 then yw k.set (jt k.set ((kD k).getD vz).aq) m else []
theorem ag7 (k:aP) (x xm:ah) (m:List B8) (hl:k.aH.length≤1000000) (w:World) (hx:gh w x k.aH) (Kf:Bytes w xm m):Ok Pr OO [.agg ⟨k.cs x⟩,.slice xm.a xm.n xm.c] w fun r w'=>∃ (y z:ah) (er:Value),r=.tuple ⟨[.int .i64 (wC k m),.slice y.a y.n y.c,.slice z.a z.n z.c,er]⟩∧
  ak w [] w' [.row aX 1 y (bp (jQ k m)),.cut z (sV k m),aD.err er (kX k m)]:=by
 refine afA ?_
 unfold Px
 rw [xy]
 have hC:kX k m=if cL k=true then (match kD k with | none=>11 | some v=>o7 k.set (jt k.set v.aq) m) else 2:=rfl
 have hN:wC k m=if kX k m=0 then ((kD k).getD vz).n else 0:=rfl
 have hL:jQ k m=if kX k m=0 then AK k.set (jt k.set ((kD k).getD vz).aq) m else []:=rfl
 have hS:sV k m=if kX k m=0 then yw k.set (jt k.set ((kD k).getD vz).aq) m else []:=rfl
 generalize kX k m=C at *
 generalize wC k m=N at *
 generalize jQ k m=V at *
 generalize sV k m=S at *
 refine (ak.start w).nw fun p w1 H _=>?_
 have H:ak w [] w1 [.av p (dH k.id k.ten k.set x) aV]:=H
 refine H.bA 0 rfl (aB (wV k x hl _ (hx.aG H.mod)) ?_)
 rintro _ w2 ⟨rfl,m2⟩
 have H:=H.frame m2
 have no:∀ {w3:World} (e:Value) (c:Int),c≠0→C=c→cP w w3 e c→Mod [] w w3→∃ (y z:ah) (er:Value),Value.tuple ⟨[.int .i64 0,.slice none 0 0,.slice none 0 0,e]⟩=.tuple ⟨[.int .i64 N,.slice y.a y.n y.c,.slice z.a z.n z.c,er]⟩∧
   ak w [] w3 [.row aX 1 y (bp V),.cut z S,aD.err er C]:=by
  intro w3 e c hc iq h m
  rw [iq] at hN hL hS
  rw [if_neg hc] at hN hL hS
  subst hN hL hS
  rw [iq]
  have H1:=((ak.start w).iZ aX 1).push (r:=.cut ⟨none,0,0⟩ []) (Mod.refl [] w) (.inl ⟨rfl,rfl⟩) (fun b hb=>by simp [aD.cut,ah.row] at hb)
  exact ⟨⟨none,0,0⟩,⟨none,0,0⟩,e,rfl,H1.gH m h⟩
 refine bz ?_
 cases hm:cL k with
 | false=>
  rw [hm,if_neg (by decide)] at hC
  refine ite_true rfl (aB (A5 2 (by decide) _) ?_)
  rintro e w3 ⟨h,m3⟩
  exact no e 2 (by decide) hC (BM h H.mod) (H.mod.trans m3)
 | true=>
  rw [hm,if_pos rfl] at hC
  refine ite_false rfl (H.bA 0 rfl (aB (aeR k x hl _ (hx.aG H.mod)) ?_))
  rintro _ w4 ⟨y,rfl,hy⟩
  obtain ⟨f,H⟩:=H.iy hy
  refine ⟨_,rfl,wK ⟨_,rfl,rfl,H.nw fun p1 w5 H _=>H.fz 2 rfl rfl fun w6 H=>?_⟩⟩
  cases hf:kD k with
  | none=>
   rw [hf] at hC
   refine ite_true rfl (aB (A5 11 (by decide) _) ?_)
   rintro e w3 ⟨h,m3⟩
   exact no e 11 (by decide) hC (BM h H.mod) (H.mod.trans m3)
  | some v=>
   rw [hf] at hC hN hL hS H
   change C=o7 k.set (jt k.set v.aq) m at hC
   change N=(if C=0 then v.n else 0) at hN
   change V=(if C=0 then AK k.set (jt k.set v.aq) m else []) at hL
   change S=(if C=0 then yw k.set (jt k.set v.aq) m else []) at hS
   obtain ⟨c1,c2,c3,c4,c5,c6,c7⟩:=ai8 hf
   refine ite_false rfl (H.bA 0 rfl (H.an 2 rfl (au p1 0) rfl (aB (OA k x v.n _ j3 XH hl _ (hx.aG H.mod)) ?_)))
   rw [c6,c7]
   rintro _ w8 ⟨a,b,er,rfl,D⟩
   have H:=H.join D
   have he:fW w8 er 0:=H.err 5 rfl
   refine ⟨_,rfl,a,rfl,b,rfl,rfl,he.isNil (ite_false rfl (H.an 0 rfl (au p 2) rfl (aB (ahF k.set a xm _ m _ (H.bytes 3 rfl) (Kf.aG H.mod)) ?_)))⟩
   rintro _ w9 ⟨c,d,e2,rfl,D2⟩
   have H:=H.join D2
   have yz:fW w9 e2 (o7 k.set (jt k.set v.aq) m):=H.err 8 rfl
   refine ⟨_,rfl,c,rfl,d,rfl,rfl,yz.isNil ?_⟩
   by_cases h0:o7 k.set (jt k.set v.aq) m=0
   ·rw [h0] at hC
    rw [hC,if_pos rfl] at hN hL hS
    refine ite_false (by rw [decide_eq_true h0]; rfl) (H.an 2 rfl (au p1 0) rfl ⟨c,d,.nilIface,?_,?_⟩)
    ·rw [hN]; rfl
    ·rw [hL,hS,hC]
     exact ((H.two 6 7 rfl rfl (by omega))).gH (Mod.refl _ _) (qN _ _)
   ·refine ite_true (by rw [decide_eq_false h0]; rfl) (no e2 _ h0 hC ⟨yz,fun b hb=>?_⟩ H.mod)
    exact (H.own 8 (aD.err e2 (o7 k.set (jt k.set v.aq) m)) rfl b hb).resolve_left (by simp)
def oC (k:aP) (bu:Int) (c:List B8):Int:=if ju k bu j3=0 then yx k.set (wB k bu j3) c else ju k bu j3
def oL (k:aP) (bu:Int) (c:List B8):List B8:=if oC k bu c=0 then uG k.set (wB k bu j3) c else []
theorem amb {set:Int} {l c:List B8} (h:yx set l c≠0):uG set l c=[]:=by unfold uG; rw [if_neg h]
theorem ag8 (k:aP) (x xc:ah) (bu:Int) (c:List B8) (hl:k.aH.length≤1000000) (w:World) (hx:gh w x k.aH) (hc:Bytes w xc c):Ok Pr ON [.agg ⟨k.cs x⟩,.int .i64 bu,.slice xc.a xc.n xc.c] w fun r w'=>∃ (y:ah) (er:Value),r=.tuple ⟨[.slice y.a y.n y.c,er]⟩∧
  ak w [] w' [.cut y (oL k bu c),aD.err er (oC k bu c)]:=by
 refine afz ?_
 unfold Pw
 have hC:oC k bu c=if ju k bu j3=0 then yx k.set (wB k bu j3) c else ju k bu j3:=rfl
 have hL:oL k bu c=if oC k bu c=0 then uG k.set (wB k bu j3) c else []:=rfl
 generalize oC k bu c=C at *
 generalize oL k bu c=V at *
 refine (ak.start w).nw fun p w1 H _=>?_
 have H:ak w [] w1 [.av p (dH k.id k.ten k.set x) aV]:=H
 refine H.bA 0 rfl (aB (OA k x bu _ j3 XH hl _ (hx.aG H.mod)) ?_)
 rintro _ w2 ⟨y,z,er,rfl,D⟩
 have H:=H.join D
 have he:fW w2 er (ju k bu j3):=H.err 3 rfl
 refine ⟨_,rfl,y,rfl,z,rfl,rfl,he.isNil ?_⟩
 by_cases h0:ju k bu j3=0
 ·rw [if_pos h0] at hC
  refine ite_false (by rw [decide_eq_true h0]; rfl) (H.an 0 rfl (au p 2) rfl (aB (ahG k.set z xc _ c _ (H.bytes 2 rfl) (hc.aG H.mod)) ?_))
  rintro _ w3 ⟨u,e2,rfl,D2⟩
  refine ⟨_,rfl,u,rfl,rfl,u,e2,rfl,?_⟩
  have eV:V=uG k.set (wB k bu j3) c:=by
   rw [hL]
   by_cases h:C=0
   ·rw [if_pos h]
   ·rw [if_neg h,amb (by rw [← hC]; exact h)]
  rw [eV,hC]
  exact (H.join D2).drop 4
 ·rw [if_neg h0] at hC
  rw [hC,if_neg h0] at hL
  refine ite_true (by rw [decide_eq_false h0]; rfl) ⟨⟨none,0,0⟩,er,rfl,?_⟩
  have H1:=(ak.start w).push (r:=.cut ⟨none,0,0⟩ []) (Mod.refl [] w) (.inl ⟨rfl,rfl⟩) (fun b hb=>by simp [aD.cut,ah.row] at hb)
  rw [hL,hC]
  exact H1.gH H.mod ⟨he,fun b hb=>(H.own 3 (aD.err er (ju k bu j3)) rfl b hb).resolve_left (by simp)⟩
end Go.Proofs.YtgjoehgomjgckaaGreatDoor
end
section
set_option linter.unusedVariables false
set_option linter.unusedSimpArgs false
namespace Go.Proofs.YtgjoehgomjgckaaGreatDoor
open Go Go.Ev
set_option maxRecDepth 20000
set_option linter.unusedVariables false
def bt (u:aI) (k:Nat):aI:=(u >>> k) &&& 1
def fU (high:Int) (u:aI):Bool:=if high<0∨1099511627776<high then false else if high=0 then decide (u=0) else decide (high<64→u >>> high.toNat=0) && decide (u &&& 1=1)
def nu (high:Int) (u:aI) (n:Int):Bool:=if fU high u=true∧1≤n∧n≤1099511627776∧high - n<64 then decide (high<n) || decide (bt u (high - n).toNat=0) else false
def mG (high:Int) (u:aI) (n:Int):Int:=if fU high u=true then (if nu high u n=true then 0 else 8) else 2
def uk (high:Int) (u:aI) (n:Int):Int:=if mG high u n=0 then (if high<n then n else high) else 0
def xU (high:Int) (u:aI) (n:Int):aI:=if mG high u n=0 then (if high<n then (u <<< (min (n - high) 64).toNat) ||| 1 else u ||| ((1:aI) <<< (high - n).toNat)) else 0
theorem Ro {high:Int} {u:aI} (h:fU high u=true):0≤high∧high≤1099511627776:=by
 unfold fU at h
 split at h
 ·cases h
 ·omega
theorem BN {x y:aI}:((x.toNat:Int)=(y.toNat:Int))↔x=y:=by
 rw [Int.ofNat_inj]
 exact ⟨BitVec.eq_of_toNat_eq,fun h=>by rw [h]⟩
theorem SD:(1:Int)=((1:aI).toNat:Int):=rfl
theorem amc:(0:Int)=((0:aI).toNat:Int):=rfl
theorem JE (u:aI):iC .u64 (u.toNat:Int) 1=((u &&& 1).toNat:Int):=by
 have:=Sr u 1
 rw [← SD] at this
 exact this
theorem Ny (high:Int) (u:aI) (w:World):Ok Pr DK [.int .i64 high,.int .u64 (u.toNat:Int)] w fun r w'=>r=.bool (fU high u)∧w'=w:=by
 refine aeO ?_
 unfold Ox
 refine jJ fun go bY=>?_
 by_cases h:high<0∨1099511627776<high
 ·exact ite_true (by simpa using h) ⟨by unfold fU; rw [if_pos h],rfl⟩
 refine ite_false (by simpa using h) ?_
 by_cases h0:high=0
 ·refine ite_true (decide_eq_true h0) ⟨?_,rfl⟩
  unfold fU
  rw [if_neg h,if_pos h0]
  congr 1
  exact decide_eq_decide.2 (BN (y:=0))
 refine ite_false (decide_eq_false h0) ?_
 have last:fU high u=decide (u &&& 1=1)→go w:=fun e=>by
  refine bY _ ⟨?_,rfl⟩
  rw [e,JE]
  congr 1
  exact decide_eq_decide.2 (BN (y:=1))
 by_cases g8:high<64
 ·refine ite_true (decide_eq_true g8) (kM (by omega) ?_)
  obtain ⟨k,rfl⟩:∃ k:Nat,high=(k:Int):=⟨high.toNat,by omega⟩
  rw [zL]
  have hM:fU (k:Int) u=(decide (u >>> k=0) && decide (u &&& 1=1)):=by
   unfold fU
   rw [if_neg h,if_neg h0,Int.toNat_natCast]
   congr 1
   exact decide_eq_decide.2 ⟨fun f=>f g8,fun f _=>f⟩
  by_cases hz:u >>> k=0
  ·exact ite_false (by rw [decide_eq_true (show ((u >>> k).toNat:Int)=0 by rw [hz]; rfl)]; rfl) (last (by rw [hM,decide_eq_true hz]; rfl))
  ·exact ite_true (by rw [decide_eq_false (show ¬ ((u >>> k).toNat:Int)=0 from fun f=>hz (BN.1 (f.trans amc)))]; rfl) ⟨by rw [hM,decide_eq_false hz]; rfl,rfl⟩
 ·refine ite_false (decide_eq_false g8) (last ?_)
  unfold fU
  rw [if_neg h,if_neg h0,decide_eq_true (fun f=>absurd f g8),Bool.true_and]
theorem anJ {a b:Int} (ha:0≤a∧a≤1099511627776) (hb:1≤b∧b≤1099511627776):IntKind.wrap .i64 (a - b)=a - b:=wrap_i64 (by omega) (by omega)
theorem aeS (high:Int) (u:aI) (n:Int) (w:World):Ok Pr Mt [.int .i64 high,.int .u64 (u.toNat:Int),.int .i64 n] w fun r w'=>r=.bool (nu high u n)∧w'=w:=by
 refine adD ?_
 unfold MI
 refine aB (Ny high u w) ?_
 rintro _ w1 ⟨rfl,hw⟩
 subst hw
 refine bz ?_
 by_cases h:fU high u=true∧1≤n∧n≤1099511627776
 case neg=>
  have e:nu high u n=false:=by unfold nu; rw [if_neg fun f=>h ⟨f.1,f.2.1,f.2.2.1⟩]
  refine ite_true ?_ ⟨by rw [e],rfl⟩
  cases hm:fU high u with
  | false=>rfl
  | true=>
   rw [hm] at h
   by_cases h1:n<1
   ·rw [decide_eq_true h1]; rfl
   ·rw [decide_eq_true (show 1099511627776<n from Decidable.byContradiction fun f=>h ⟨rfl,by omega,by omega⟩)]; simp
 obtain ⟨hm,h1,h2⟩:=h
 rw [anJ (Ro hm) ⟨h1,h2⟩]
 by_cases g8:high - n<64
 case neg=>
  have e:nu high u n=false:=by unfold nu; rw [if_neg fun f=>g8 f.2.2.2]
  exact ite_true (by rw [decide_eq_true (show (64:Int)≤high - n by omega)]; simp) ⟨by rw [e],rfl⟩
 have e:nu high u n=(decide (high<n) || decide (bt u (high - n).toNat=0)):=by unfold nu; rw [if_pos ⟨hm,h1,h2,g8⟩]
 refine ite_false (by rw [hm,decide_eq_false (show ¬ n<1 by omega),decide_eq_false (show ¬ 1099511627776<n by omega),decide_eq_false (show ¬ (64:Int)≤high - n by omega)]; rfl) ?_
 by_cases hh:high<n
 ·exact ite_true (decide_eq_true hh) ⟨by rw [e,decide_eq_true hh]; rfl,rfl⟩
 ·refine ite_false (decide_eq_false hh) (kM (by omega) ⟨?_,rfl⟩)
  rw [e,decide_eq_false hh,Bool.false_or]
  obtain ⟨k,hk⟩:∃ k:Nat,high - n=(k:Int):=⟨(high - n).toNat,by omega⟩
  rw [hk,Int.toNat_natCast,zL,JE]
  congr 1
  exact decide_eq_decide.2 (BN (y:=0))
theorem agB (high:Int) (u:aI) (n:Int) (w:World):Ok Pr NN [.int .i64 high,.int .u64 (u.toNat:Int),.int .i64 n] w fun r w'=>∃ er:Value,r=.tuple ⟨[.int .i64 (uk high u n),.int .u64 ((xU high u n).toNat:Int),er]⟩∧cP w w' er (mG high u n)∧Mod [] w w':=by
 refine aeN ?_
 unfold Ow
 have hC:mG high u n=if fU high u=true then (if nu high u n=true then 0 else 8) else 2:=rfl
 have hH:uk high u n=if mG high u n=0 then (if high<n then n else high) else 0:=rfl
 have hU:xU high u n=if mG high u n=0 then (if high<n then (u <<< (min (n - high) 64).toNat) ||| 1 else u ||| ((1:aI) <<< (high - n).toNat)) else 0:=rfl
 generalize mG high u n=C at *
 generalize uk high u n=A at *
 generalize xU high u n=B at *
 have no:∀ c:Int,c≠0→C=c→nw pI [.int .i64 c,.string Q8] w fun p w2=>∃ er:Value,Value.tuple ⟨[.int .i64 0,.int .u64 0,.iface jw (.pointer (some p))]⟩=.tuple ⟨[.int .i64 A,.int .u64 (B.toNat:Int),er]⟩∧cP w w2 er C∧Mod [] w w2:=by
  intro c hc iq
  rw [iq,if_neg hc] at hH hU
  subst hH hU
  rw [iq]
  exact qM fun b w' hb h1 h2 _=>⟨_,rfl,cP.mk h1 (by omega) hc,h2⟩
 refine aB (Ny high u w) ?_
 rintro _ w1 ⟨rfl,hw⟩
 subst hw
 refine bz ?_
 cases hm:fU high u with
 | false=>
  rw [hm,if_neg (by decide)] at hC
  exact ite_true rfl (no 2 (by decide) hC)
 | true=>
  rw [hm,if_pos rfl] at hC
  refine ite_false rfl (aB (aeS high u n w1) ?_)
  rintro _ w2 ⟨rfl,hw⟩
  subst hw
  refine bz ?_
  cases hf:nu high u n with
  | false=>
   rw [hf,if_neg (by decide)] at hC
   exact ite_true rfl (no 8 (by decide) hC)
  | true=>
   rw [hf,if_pos rfl] at hC
   rw [hC,if_pos rfl] at hH hU
   subst hH hU
   rw [hC]
   have hr:=Ro hm
   have hn:1≤n∧n≤1099511627776:=by
    unfold nu at hf
    split at hf
    ·rename_i hc; exact ⟨hc.2.1,hc.2.2.1⟩
    ·cases hf
   refine ite_false rfl ?_
   by_cases hh:high<n
   ·rw [if_pos hh,if_pos hh]
    obtain ⟨k,hk⟩:∃ k:Nat,min (n - high) 64=(k:Int):=⟨(min (n - high) 64).toNat,by omega⟩
    rw [hk,Int.toNat_natCast]
    refine ite_true (decide_eq_true hh) ⟨⟨by omega,by omega⟩,kM (by omega) ⟨.nilIface,?_,cP.zero _ _,Mod.drew _ _⟩⟩
    rw [Jl,SD,SQ]
   ·rw [if_neg hh,if_neg hh]
    obtain ⟨k,hk⟩:∃ k:Nat,high - n=(k:Int):=⟨(high - n).toNat,by omega⟩
    rw [hk,Int.toNat_natCast]
    refine ite_false (decide_eq_false hh) ⟨⟨by omega,by omega⟩,kM (by omega) ⟨.nilIface,?_,cP.zero _ _,Mod.drew _ _⟩⟩
    rw [SD,Jl,SQ]
end Go.Proofs.YtgjoehgomjgckaaGreatDoor
end
section
set_option linter.unusedVariables false
set_option linter.unusedSimpArgs false
namespace Go.Proofs.YtgjoehgomjgckaaGreatDoor
open Go Go.Ev
set_option maxRecDepth 20000
set_option linter.unusedVariables false
structure cv where
 id:Int
 par:Int
 name:ByteArray
def tz:cv:=⟨0,0,ByteArray.empty⟩
def cv.cs (t:cv) (_:ah):List Value:=ku t.id t.par t.name
theorem cv.cz (t:cv) (x:ah):(t.cs x).length=3:=rfl
def NoE (_:World) (_:ah) (_:cv):Prop:=True
def fX (w:World) (s:ah) (ts:List cv):Prop:=Dv cv.cs 3 NoE w s ts
theorem fX.aG {w w':World} {s:ah} {ts:List cv} (h:fX w s ts) (m:Mod [] w w'):fX w' s ts:=Dv.aG (E:=NoE) (fun _ _=>trivial) h m
theorem fX.len {w:World} {s:ah} {ts:List cv} (h:fX w s ts):ts.length=s.n:=Dv.len cv.cz (by omega) h
theorem fX.at {w:World} {s:ah} {ts:List cv} (h:fX w s ts) {i:Nat} (hi:i<ts.length) :
  (s.a.isSome=true∧(0:Int)≤(i:Int)∧(i:Int)<(s.n:Int))∧∀ (j:Nat) (v:Value),(ku (ts.getD i tz).id (ts.getD i tz).par (ts.getD i tz).name)[j]? = some v→w.cell? (Addr.add (Addr.add (base s.a) (Int.toNat (i:Int) * 3)) j)=some v:=by
 have ha:ts[i]? = some (ts.getD i tz):=by rw [List.getD_eq_getElem?_getD,List.getElem?_eq_getElem hi]; rfl
 obtain ⟨h1,x,_,h2⟩:=Dv.at cv.cz (by omega) h ha
 exact ⟨h1,h2⟩
theorem aec (c:Int) (hc:c≠0) (w:World):Ok Pr wM [.int .i64 c] w fun v w'=>cP w w' v c∧Mod [] w w':=by
 refine adm ?_
 unfold Ml
 exact qM fun b w' hb h1 h2 _=>⟨cP.mk h1 (by omega) hc,h2⟩
def qO (s:ByteArray):Bool:=aS 1 300 (s.size:Int)
theorem UK (s:ByteArray) (w:World):Ok Pr GO [.string s] w fun v w'=>v=.bool (qO s)∧w'=w:=by
 refine adj ?_
 unfold Mh
 exact ⟨rfl,rfl⟩
theorem UL (x:ah) (ts:List cv) (id:Int) (w:World) (hx:fX w x ts):Ok Pr GR [.slice x.a x.n x.c,.int .i64 id] w fun v w'=>v=.bool (aS 1 (ts.length:Int) id)∧w'=w:=by
 refine adn ?_
 unfold Mm
 have:=hx.len
 refine ⟨?_,rfl⟩
 rw [this]; rfl
def ZC (w:World) (g:Value) (p:cv→Bool):Prop:=∀ (t:cv) (w':World),Mod [] w w'→lX Pr g [.agg ⟨ku t.id t.par t.name⟩] w' fun v fA=>v=.bool (p t)∧Mod [] w' fA
theorem acm (g:Value) (p:cv→Bool) (x:ah) (ts:List cv) (hl:ts.length≤1000000000) (w:World) (hx:fX w x ts) (hg:ZC w g p) :
  Ok Pr Kv [.slice x.a x.n x.c,g] w fun v w'=>∃ z:Int,v=.int .i64 z∧decide (0≤z)=ts.any p∧Mod [] w w':=by
 refine abV ?_
 unfold Kw
 have bU:=hx.len
 refine dm 0 ts.length (fun i w'=>(ts.take i).any p=false∧Mod [] w w') rfl (by omega) ⟨rfl,Mod.refl _ _⟩ ?_ ?_
 ·rintro again i w1 _ hi ⟨hn,m⟩ aM
  obtain ⟨dw,hc⟩:=(hx.aG m).at hi
  refine ite_true (decide_eq_true (by omega)) ⟨dw,Dx hc (D6 (hg _ w1 m) ?_)⟩
  rintro _ w2 ⟨rfl,m2⟩
  refine bz (bV (fun hc=>?_) (fun hc=>?_))
  ·exact ⟨_,rfl,by rw [A0 p ts i hi tz hc]; exact decide_eq_true (by omega),m.trans m2⟩
  ·exact ⟨⟨by omega,by omega⟩,aM w2 ⟨by rw [AZ p ts i hi tz,hn,hc]; rfl,m.trans m2⟩⟩
 ·rintro again w1 ⟨hn,m⟩
  rw [List.take_of_length_le (Nat.le_refl _)] at hn
  exact ite_false (decide_eq_false (by omega)) ⟨_,rfl,by rw [hn]; rfl,m⟩
theorem acd (g:Value) (p:cv→Bool) (x:ah) (ts:List cv) (hl:ts.length≤1000000000) (w:World) (hx:fX w x ts) (hg:ZC w g p) :
  Ok Pr Kq [.slice x.a x.n x.c,g] w fun v w'=>v=.bool (ts.any p)∧Mod [] w w':=by
 refine abT ?_
 unfold Ks
 refine aB (acm g p x ts hl w hx hg) ?_
 rintro _ w1 ⟨z,rfl,hz,m⟩
 exact eE ⟨by rw [hz],m⟩
def lz (par:Int) (name:ByteArray) (t:cv):Bool:=decide (t.par=par) && decide (t.name=name)
theorem aij:jx Pr Lv=true:=by kernel_rfl
theorem UM (x:ah) (ts:List cv) (hl:ts.length≤1000000000) (par:Int) (name:ByteArray) (w:World) (hx:fX w x ts):Ok Pr GQ [.slice x.a x.n x.c,.int .i64 par,.string name] w fun v w'=>v=.bool (ts.any (lz par name))∧Mod [] w w':=by
 refine adk ?_
 unfold Mj
 refine (ak.start w).nw fun p w1 H _=>H.nw fun p1 w2 H _=>?_
 refine aB (acd _ (lz par name) x ts hl w2 (hx.aG H.mod) fun t w3 m=>?_) ?_
 ·refine zu aij (acF ?_)
  unfold LB
  have b1:bX w3 p [.int .i64 par] bH:=(H.frame m).av 0 rfl
  have b2:bX w3 p1 [.string name] zn:=(H.frame m).av 1 rfl
  have K:=((ak.start w3).frame (Mod.refl [] w3))
  refine K.nw fun q w4 K _=>?_
  have c1:=b1.aG K.mod
  have c2:=b2.aG K.mod
  exact K.an 0 rfl (au q 1) rfl (c1.an rfl rfl (K.gp 0 rfl (au q 2) rfl ⟨_,by rw [c2.cell]; rfl,rfl,K.mod⟩))
 ·rintro _ w3 ⟨rfl,m⟩
  exact bz ⟨rfl,H.mod.trans m⟩
end Go.Proofs.YtgjoehgomjgckaaGreatDoor
end
section
set_option linter.unusedVariables false
set_option linter.unusedSimpArgs false
namespace Go.Proofs.YtgjoehgomjgckaaGreatDoor
open Go Go.Ev
set_option maxRecDepth 20000
set_option linter.unusedVariables false
theorem YI:zc Pr dh=[.int .i64 0,.int .i64 0,.string ByteArray.empty]:=by kernel_rfl
def nO (ts:List cv) (i:Nat):Bool:=
 decide ((ts.getD i tz).id=(i:Int)+1) && (decide (min (i:Int) 1≤(ts.getD i tz).par) && (decide ((ts.getD i tz).par≤(i:Int)) && (qO (ts.getD i tz).name && !(ts.take i).any (lz (ts.getD i tz).par (ts.getD i tz).name))))
def mQ (ts:List cv):Nat→Bool
 | 0=>true
 | i+1=>mQ ts i && nO ts i
def gL (ts:List cv):Bool:=decide (ts.length≤8) && mQ ts ts.length
theorem R1 {ts:List cv} {i:Nat} (h:nO ts i=false):∀ n,i<n→mQ ts n=false
 | 0,hn=>by omega
 | n+1,hn=>by
  show (mQ ts n && _)=false
  rcases Nat.lt_or_ge i n with h2 | h2
  ·rw [R1 h n h2,Bool.false_and]
  ·rw [show n=i by omega,h,Bool.and_false]
theorem fX.S8 {w:World} {s:ah} {ts:List cv} (h:fX w s ts) (k:Nat) (hk:k≤ts.length):fX w ⟨s.a,k,s.c⟩ (ts.take k):=by
 have hn:=h.len
 obtain ⟨xs,h1,h2⟩:=h
 have bU:=h2.1
 refine ⟨xs.take k,?_,by simp [bU],fun i x t _ _=>trivial⟩
 have e:bh cv.cs (ts.take k) (xs.take k)=(bh cv.cs ts xs).take (k * 3):=by
  have:=Bx (C:=cv.cs) (ts.take k) (xs.take k) (by simp [bU]) (ts.drop k) (xs.drop k)
  rw [List.take_append_drop,List.take_append_drop] at this
  have hd:(bh cv.cs (ts.take k) (xs.take k)).length=k * 3:=by
   rw [iQ cv.cz _ _ (by simp [bU]),List.length_take,Nat.min_eq_left hk]
  rw [this,List.take_append_of_le_length (by omega)]
  exact (List.take_of_length_le (by omega)).symm
 rw [e]
 have hc:=h1.cap
 have hl:=h1.len
 rw [iQ cv.cz _ _ bU] at hl
 refine ⟨by rw [List.length_take,iQ cv.cz _ _ bU]; show min (k * 3) _=k * 3; omega,by show k≤s.c; omega,fun h0=>h1.pre (by have:0<k:=h0; omega),fun i v hv=>?_⟩
 rw [List.getElem?_take] at hv
 split at hv
 ·exact h1.cell i v hv
 ·cases hv
theorem MM (x:ah) (ts:List cv) (hl:ts.length≤1000000) (w:World) (hx:fX w x ts):Ok Pr DE [.slice x.a x.n x.c] w fun v w'=>v=.bool (gL ts)∧Mod [] w w':=by
 refine ad6 ?_
 unfold Ns
 rw [YI]
 have bU:=hx.len
 have uu:x.n≤x.c:=by obtain ⟨xs,h1,_⟩:=hx; exact h1.cap
 by_cases h8:ts.length≤8
 case neg=>exact ite_true (decide_eq_true (by omega)) ⟨by unfold gL; rw [decide_eq_false h8]; rfl,Mod.refl _ _⟩
 have eM:gL ts=mQ ts ts.length:=by unfold gL; rw [decide_eq_true h8]; rfl
 refine ite_false (decide_eq_false (by omega)) ?_
 refine dm 0 ts.length (fun i w'=>mQ ts i=true∧Mod [] w w') rfl (by omega) ⟨rfl,Mod.refl _ _⟩ ?_ ?_
 ·rintro again i w1 _ hi ⟨dV,m⟩ aM
  obtain ⟨dw,hc⟩:=(hx.aG m).at hi
  have hs:mQ ts (i+1)=(mQ ts i && nO ts i):=rfl
  have hF:nO ts i=(decide ((ts.getD i tz).id=(i:Int)+1) && (decide (min (i:Int) 1≤(ts.getD i tz).par) && (decide ((ts.getD i tz).par≤(i:Int)) && (qO (ts.getD i tz).name && !(ts.take i).any (lz (ts.getD i tz).par (ts.getD i tz).name))))):=rfl
  have no:∀ {w2:World},Mod [] w w2→nO ts i=false→(fun v w'=>v=Value.bool (gL ts)∧Mod [] w w') (.bool false) w2:=fun m h=>⟨by rw [eM,R1 h _ hi],m⟩
  generalize ts.getD i tz=t at *
  refine ite_true (decide_eq_true (by omega)) ⟨dw,Dx hc ((ak.start w1).nw fun p w2 D _=>D.AY 0 rfl rfl fun w3 D=>?_)⟩
  have D:=D.drew
  refine D.an 0 rfl (au p 0) rfl ⟨⟨by omega,by omega⟩,D.an 0 rfl (au p 1) rfl (D.an 0 rfl (au p 1) rfl (D.gp 0 rfl (au p 2) rfl ?_))⟩
  by_cases hg:t.id=(i:Int)+1∧min (i:Int) 1≤t.par∧t.par≤(i:Int)
  case neg=>
   refine ite_true ?_ (no (m.trans D.mod) ?_)
   ·simp only [Bool.or_eq_true,Bool.not_eq_true',decide_eq_true_eq,decide_eq_false_iff_not]
    omega
   ·rw [hF]
    simp only [Bool.and_eq_false_iff,decide_eq_false_iff_not]
    by_cases q1:t.id=(i:Int)+1
    ·by_cases q2:min (i:Int) 1≤t.par
     ·exact .inr (.inr (.inl fun q3=>hg ⟨q1,q2,q3⟩))
     ·exact .inr (.inl q2)
    ·exact .inl q1
  obtain ⟨g1,g2,g3⟩:=hg
  rw [decide_eq_true g1,decide_eq_true g2,decide_eq_true g3,Bool.true_and,Bool.true_and,Bool.true_and] at hF
  refine ite_false ?_ (aB (UK _ _) ?_)
  ·rw [decide_eq_true g1,decide_eq_false (show ¬ t.par<min (i:Int) 1 by omega),decide_eq_false (show ¬ (i:Int)<t.par by omega)]; rfl
  rintro _ w4 ⟨rfl,hw⟩
  subst hw
  refine bz ?_
  cases hn:qO t.name with
  | false=>exact ite_true rfl (no (m.trans D.mod) (by rw [hF,hn]; rfl))
  | true=>
   rw [hn,Bool.true_and] at hF
   refine ite_false rfl ⟨⟨by omega,by omega⟩,D.an 0 rfl (au p 1) rfl (D.gp 0 rfl (au p 2) rfl ?_)⟩
   rw [Int.toNat_natCast]
   refine aB (UM ⟨x.a,i,x.c⟩ (ts.take i) (by rw [List.length_take]; omega) t.par t.name _ ((hx.aG (m.trans D.mod)).S8 i (by omega))) ?_
   rintro _ w5 ⟨rfl,m5⟩
   refine bz ?_
   cases ht:(ts.take i).any (lz t.par t.name) with
   | true=>exact ite_true rfl (no (m.trans (D.mod.trans m5)) (by rw [hF,ht]; rfl))
   | false=>exact ite_false rfl ⟨⟨by omega,by omega⟩,aM _ ⟨by rw [hs,dV,hF,ht]; rfl,m.trans (D.mod.trans m5)⟩⟩
 ·rintro again w1 ⟨dV,m⟩
  exact ite_false (decide_eq_false (by omega)) ⟨by rw [eM,dV],m⟩
end Go.Proofs.YtgjoehgomjgckaaGreatDoor
end
section
set_option linter.unusedVariables false
set_option linter.unusedSimpArgs false
namespace Go.Proofs.YtgjoehgomjgckaaGreatDoor
open Go Go.Ev
set_option maxRecDepth 20000
set_option linter.unusedVariables false
theorem RC:fk Pr s9 dh 3 32:=fk.of (by kernel_rfl)
theorem cv.l7 (t:cv) (x:ah):∀ u∈t.cs x,ey u=true:=by
 intro u hu
 simp only [cv.cs,ku,List.mem_cons,List.not_mem_nil,or_false] at hu
 rcases hu with rfl | rfl | rfl <;> rfl
def fQ (ts:List cv):List Value:=bh cv.cs ts (List.replicate ts.length ⟨none,0,0⟩)
theorem YJ {ts:List cv} {xs:List ah} (h:xs.length=ts.length):bh cv.cs ts xs=fQ ts:=by
 unfold fQ
 induction ts generalizing xs with
 | nil=>simp [bh]
 | cons t r ih=>
  cases xs with
  | nil=>simp at h
  | cons x xs=>
   rw [List.length_cons,List.replicate_succ,rI,rI,ih (by simpa using h)]
   rfl
theorem fX.sl {w:World} {s:ah} {ts:List cv} (h:fX w s ts):Sl w s 3 (fQ ts):=by
 obtain ⟨xs,h1,h2⟩:=h
 rw [YJ h2.1] at h1
 exact h1
theorem fX.of {w:World} {s:ah} {ts:List cv} (h:Sl w s 3 (fQ ts)):fX w s ts:=⟨_,h,by simp,fun _ _ _ _ _=>trivial⟩
theorem aka (ts:List cv) (t:cv):fQ (ts ++ [t])=fQ ts ++ ku t.id t.par t.name:=by
 have:=Bx (C:=cv.cs) ts (List.replicate ts.length ⟨none,0,0⟩) (by simp) [t] [⟨none,0,0⟩]
 rw [YJ (by simp)] at this
 rw [this,zB]; rfl
theorem UB (x:ah) (ts:List cv) (hl:ts.length≤1000000) (w:World) (hx:fX w x ts):Ok Pr GB [.slice x.a x.n x.c] w fun v w'=>∃ y:ah,v=.slice y.a y.n y.c∧Own w' w.heap.size dh 3 y (fQ ts)∧y.n=x.n∧Mod [] w w':=by
 refine abX ?_
 unfold Kz
 have bU:=hx.len
 have hs:=hx.sl
 refine bV (fun h=>?_) (fun h=>?_)
 ·have h0:x.n=0:=by
   rcases Nat.eq_zero_or_pos x.n with e | e
   ·exact e
   ·have:=Sl.pre hs e
    cases ha:x.a with
    | none=>rw [ha] at this; cases this
    | some a=>rw [ha] at h; cases h
  obtain rfl:ts=[]:=List.eq_nil_of_length_eq_zero (by omega)
  exact ⟨⟨none,0,0⟩,rfl,Own.nil _ _ _ _,h0.symm,Mod.refl _ _⟩
 ·refine (ak.start w).nw fun p w1 H _=>?_
  have H:=H.rM 0 3 0 0 rfl rfl (Nat.le_refl _) (by simp only [maxLen]; omega)
  refine H.app (s:=⟨some ⟨p,0,none⟩,0,0⟩) (vs:=[]) 0 RC rfl (hs.aG H.mod) (vh cv.l7 _ _) (by show (0+x.n) * 32≤_; omega) (by show 0+x.n≤_; omega) fun y w2 H hy=>?_
  exact ⟨y,rfl,H.fS 0 rfl,by rw [hy]; exact Nat.zero_add _,H.mod⟩
def oR (ts:List cv) (par:Int) (name:ByteArray):Int:=if gL ts=true then (if aS 1 (ts.length:Int) par=true then (if qO name=true then (if ts.any (lz par name)=true then 13 else if ts.length=8 then 12 else 0) else 2) else 9) else 2
def sr (ts:List cv) (par:Int) (name:ByteArray):List cv:=if oR ts par name=0 then ts ++ [⟨(ts.length:Int)+1,par,name⟩] else []
def FA (ts:List cv) (par:Int) (name:ByteArray):Int:=if oR ts par name=0 then (ts.length:Int)+1 else 0
theorem afE (x:ah) (ts:List cv) (hl:ts.length≤1000000) (par:Int) (name:ByteArray) (w:World) (hx:fX w x ts):Ok Pr MU [.slice x.a x.n x.c,.int .i64 par,.string name] w fun v w'=>∃ (y:ah) (er:Value),v=.tuple ⟨[.slice y.a y.n y.c,.int .i64 (FA ts par name),er]⟩∧ak w [] w' [.row dh 3 y (fQ (sr ts par name)),aD.err er (oR ts par name)]:=by
 refine ad9 ?_
 unfold Nv
 have bU:=hx.len
 have hC:oR ts par name=if gL ts=true then (if aS 1 (ts.length:Int) par=true then (if qO name=true then (if ts.any (lz par name)=true then 13 else if ts.length=8 then 12 else 0) else 2) else 9) else 2:=rfl
 have hT:sr ts par name=if oR ts par name=0 then ts ++ [⟨(ts.length:Int)+1,par,name⟩] else []:=rfl
 have hI:FA ts par name=if oR ts par name=0 then (ts.length:Int)+1 else 0:=rfl
 generalize oR ts par name=C at *
 generalize sr ts par name=T at *
 generalize FA ts par name=I at *
 have no:∀ {w3:World} (c:Int),Mod [] w w3→c≠0→C=c→ay Pr wM [.int .i64 c] w3 fun v w4=>∃ (y:ah) (er:Value),Value.tuple ⟨[.slice none 0 0,.int .i64 0,v]⟩=.tuple ⟨[.slice y.a y.n y.c,.int .i64 I,er]⟩∧ak w [] w4 [.row dh 3 y (fQ T),aD.err er C]:=by
  intro w3 c m hc iq
  rw [iq,if_neg hc] at hT hI
  subst hT hI
  rw [iq]
  refine aB (aec c hc w3) ?_
  rintro e w4 ⟨h,m4⟩
  exact ⟨⟨none,0,0⟩,e,rfl,(((ak.start w).iZ dh 3).frame m).gH m4 h⟩
 refine aB (MM x ts hl w hx) ?_
 rintro _ w1 ⟨rfl,m1⟩
 refine bz ?_
 cases h1:gL ts with
 | false=>
  rw [h1,if_neg (by decide)] at hC
  exact ite_true rfl (no 2 m1 (by decide) hC)
 | true=>
  rw [h1,if_pos rfl] at hC
  refine ite_false rfl (aB (UL x ts par _ (hx.aG m1)) ?_)
  rintro _ w2 ⟨rfl,hw⟩
  subst hw
  refine bz ?_
  cases h2:aS 1 (ts.length:Int) par with
  | false=>
   rw [h2,if_neg (by decide)] at hC
   exact ite_true rfl (no 9 m1 (by decide) hC)
  | true=>
   rw [h2,if_pos rfl] at hC
   refine ite_false rfl (aB (UK name _) ?_)
   rintro _ w3 ⟨rfl,hw⟩
   subst hw
   refine bz ?_
   cases h3:qO name with
   | false=>
    rw [h3,if_neg (by decide)] at hC
    exact ite_true rfl (no 2 m1 (by decide) hC)
   | true=>
    rw [h3,if_pos rfl] at hC
    refine ite_false rfl (aB (UM x ts (by omega) par name _ (hx.aG m1)) ?_)
    rintro _ w4 ⟨rfl,m4⟩
    have m4:=m1.trans m4
    refine bz ?_
    cases h4:ts.any (lz par name) with
    | true=>
     rw [h4,if_pos rfl] at hC
     exact ite_true rfl (no 13 m4 (by decide) hC)
    | false=>
     rw [h4,if_neg (by decide)] at hC
     refine ite_false rfl ?_
     by_cases h8:ts.length=8
     ·rw [if_pos h8] at hC
      exact ite_true (decide_eq_true (by omega)) (no 12 m4 (by decide) hC)
     rw [if_neg h8] at hC
     rw [hC,if_pos rfl] at hT hI
     subst hT hI
     rw [hC]
     refine ite_false (decide_eq_false (by omega)) ⟨⟨by omega,by omega⟩,rN (aB (UB x ts hl _ (hx.aG m4)) ?_)⟩
     rintro _ w5 ⟨y,rfl,hy,ym,m5⟩
     have H:=((ak.start w).frame m4).cG m5 hy
     rw [show ((x.n:Nat):Int)+1=(ts.length:Int)+1 by omega]
     refine bW (H.Cv 0 RC rfl rfl (by intro u hu; exact cv.l7 ⟨(ts.length:Int)+1,par,name⟩ ⟨none,0,0⟩ u hu) (by omega) (by omega) fun y' w6 H _=>⟨y',.nilIface,rfl,?_⟩)
     rw [aka]
     exact H.gH (Mod.refl _ _) (cP.zero _ _)
end Go.Proofs.YtgjoehgomjgckaaGreatDoor
end
section
set_option linter.unusedVariables false
set_option linter.unusedSimpArgs false
namespace Go.Proofs.YtgjoehgomjgckaaGreatDoor
open Go Go.Ev
set_option maxRecDepth 20000
set_option linter.unusedVariables false
theorem ZD {ts:List cv}:∀ n,mQ ts n=true→∀ i,i<n→nO ts i=true
 | 0,_,i,hi=>by omega
 | n+1,h,i,hi=>by
  change (mQ ts n && nO ts n)=true at h
  rw [Bool.and_eq_true] at h
  rcases Nat.lt_or_ge i n with h2 | h2
  ·exact ZD n h.1 i h2
  ·rw [show i=n by omega]; exact h.2
theorem alg {ts:List cv} (h:gL ts=true):ts.length≤8∧∀ i,i<ts.length→(ts.getD i tz).id=(i:Int)+1∧0≤(ts.getD i tz).par∧(ts.getD i tz).par≤(i:Int):=by
 unfold gL at h
 rw [Bool.and_eq_true,decide_eq_true_eq] at h
 refine ⟨h.1,fun i hi=>?_⟩
 have:=ZD _ h.2 i hi
 unfold nO at this
 simp only [Bool.and_eq_true,decide_eq_true_eq] at this
 obtain ⟨a,b,c,_⟩:=this
 exact ⟨a,by omega,c⟩
def pT (ts:List cv):Nat→Int→List Int
 | 0,_=>[]
 | f+1,a=>if aS 1 (ts.length:Int) a=true then a :: pT ts f (ts.getD (a - 1).toNat tz).par else []
def xK (ts:List cv) (a:Int):List Int:=if gL ts=true then pT ts (ts.length+1) a else []
theorem QX (ts:List cv):∀ (f:Nat) (a:Int),(pT ts f a).length≤f
 | 0,_=>by simp [pT]
 | f+1,a=>by
  unfold pT
  split
  ·have:=QX ts f (ts.getD (a - 1).toNat tz).par
   rw [List.length_cons]; omega
  ·simp
theorem aeT (x:ah) (ts:List cv) (hl:ts.length≤1000000) (a:Int) (w:World) (hx:fX w x ts):Ok Pr Mu [.slice x.a x.n x.c,.int .i64 a] w fun v w'=>qR w w' v (xK ts a):=by
 refine adE ?_
 unfold MJ
 have bU:=hx.len
 refine aB (MM x ts hl w hx) ?_
 rintro _ w1 ⟨rfl,m1⟩
 refine bz ?_
 cases hm:gL ts with
 | false=>exact ite_true rfl ⟨⟨none,0,0⟩,rfl,by unfold xK; rw [hm]; exact Own.nil _ _ _ _,m1⟩
 | true=>
  obtain ⟨h8,JA⟩:=alg hm
  have hP:xK ts a=pT ts (ts.length+1) a:=by unfold xK; rw [if_pos hm]
  have hPl:=QX ts (ts.length+1) a
  rw [hP]
  generalize anK:pT ts (ts.length+1) a=full at *
  refine ite_false rfl ?_
  refine xq (fun (b:Int) (out:ah) w'=>∃ (f:Nat) (pre:List Int),pre ++ pT ts f b=full∧(aS 1 (ts.length:Int) b=true→b.toNat<f)∧ak w [] w' [.row bH 1 out (cu pre)]) (fun b _ _=>b.toNat)
   ⟨ts.length+1,[],anK,fun h=>by unfold aS at h; simp only [Bool.and_eq_true,decide_eq_true_eq] at h; omega,by simpa [cu] using ((ak.start w).frame m1).iZ bH 1⟩ ?_
  rintro again b out w2 ⟨f,pre,so,hf,H⟩ aM
  refine aB (UL x ts b _ (hx.aG H.mod)) ?_
  rintro _ w3 ⟨rfl,hw⟩
  subst hw
  refine bz ?_
  cases eH:aS 1 (ts.length:Int) b with
  | false=>
   have e:pT ts f b=[]:=by
    cases f with
    | zero=>rfl
    | succ f=>unfold pT; rw [eH]; rfl
   rw [e,List.append_nil] at so
   subst so
   exact ite_false rfl ⟨out,rfl,H.fS 0 rfl,H.mod⟩
  | true=>
   have bZ:=hf eH
   obtain ⟨g,rfl⟩:∃ g,f=g+1:=⟨f - 1,by omega⟩
   have e:pT ts (g+1) b=b :: pT ts g (ts.getD (b - 1).toNat tz).par:=by
    show (if aS 1 (ts.length:Int) b=true then b :: pT ts g (ts.getD (b - 1).toNat tz).par else [])=_
    rw [if_pos eH]
   rw [e] at so
   unfold aS at eH
   simp only [Bool.and_eq_true,decide_eq_true_eq] at eH
   obtain ⟨j,hj⟩:∃ j:Nat,b - 1=(j:Int):=⟨(b - 1).toNat,by omega⟩
   rw [hj,Int.toNat_natCast] at so
   obtain ⟨q1,q2,q3⟩:=JA j (by omega)
   have nT:=(H.dJ 0 rfl).len
   have arC:pre.length≤full.length:=by rw [← so]; simp
   refine ite_true rfl (H.Sv 0 BG rfl (by omega) fun lC w4 H _=>⟨⟨by omega,by omega⟩,?_⟩)
   rw [hj]
   obtain ⟨dw,hc⟩:=(hx.aG H.mod).at (i:=j) (by omega)
   refine ⟨dw,_,hc 1 _ rfl,aM _ lC w4 ⟨g,pre ++ [b],by rw [List.append_assoc]; exact so,fun h=>?_,H⟩ ?_⟩
   ·omega
   ·show ((ts.getD j tz).par).toNat<b.toNat
    omega
end Go.Proofs.YtgjoehgomjgckaaGreatDoor
end
section
set_option linter.unusedVariables false
set_option linter.unusedSimpArgs false
namespace Go.Proofs.YtgjoehgomjgckaaGreatDoor
open Go Go.Ev
set_option maxRecDepth 20000
set_option linter.unusedVariables false
theorem acR (x:ah) (l:List Int) (hl:l.length≤1000000) (v:Int) (w:World) (hx:dS w x l):Ok Pr KQ [.slice x.a x.n x.c,.int .i64 v] w fun r w'=>∃ z:Int,r=.int .i64 z∧decide (0≤z)=l.any (fun y=>decide (v=y))∧w'=w:=by
 refine acf ?_
 unfold KR
 have bU:=hx.len
 refine dm 0 l.length (fun i w'=>(l.take i).any (fun y=>decide (v=y))=false∧w'=w) rfl (by omega) ⟨rfl,rfl⟩ ?_ ?_
 ·rintro again i w1 _ hi ⟨hn,rfl⟩ aM
  refine ite_true (decide_eq_true (by omega)) (hx.ld (i:=i) hi rfl (bV (fun hc=>?_) (fun hc=>?_)))
  ·exact ⟨_,rfl,by rw [A0 (fun y=>decide (v=y)) l i hi 0 hc]; exact decide_eq_true (by omega),rfl⟩
  ·exact ⟨⟨by omega,by omega⟩,aM w1 ⟨by rw [AZ (fun y=>decide (v=y)) l i hi 0,hn,hc]; rfl,rfl⟩⟩
 ·rintro again w1 ⟨hn,rfl⟩
  rw [List.take_of_length_le (Nat.le_refl _)] at hn
  exact ite_false (decide_eq_false (by omega)) ⟨_,rfl,by rw [hn]; rfl,rfl⟩
def BY (ts:List cv) (a b:Int):Bool:=(xK ts b).any fun y=>decide (a=y)
theorem ai9 (ts:List cv) (a:Int) (h:ts.length≤1000):(xK ts a).length≤1001:=by
 unfold xK
 split
 ·have:=QX ts (ts.length+1) a; omega
 ·simp
theorem aed (x:ah) (ts:List cv) (hl:ts.length≤1000) (a b:Int) (w:World) (hx:fX w x ts):Ok Pr LU [.slice x.a x.n x.c,.int .i64 a,.int .i64 b] w fun v w'=>v=.bool (BY ts a b)∧Mod [] w w':=by
 refine adi ?_
 unfold L9
 refine aB (aeT x ts (by omega) b w hx) ?_
 rintro _ w1 ⟨y,rfl,hy,m1⟩
 have Au:=ai9 ts b hl
 refine bW (aB (R:=fun v w'=>v=.bool (BY ts a b)∧w'=w1) (ab3 ?_) ?_)
 ·unfold KH
  refine aB (acR y (xK ts b) (by omega) a w1 hy.dJ) ?_
  rintro _ w2 ⟨z,rfl,hz,hw⟩
  subst hw
  exact eE ⟨by rw [hz]; rfl,rfl⟩
 ·rintro _ w2 ⟨rfl,hw⟩
  subst hw
  exact bz ⟨rfl,m1⟩
end Go.Proofs.YtgjoehgomjgckaaGreatDoor
end
section
set_option linter.unusedVariables false
set_option linter.unusedSimpArgs false
namespace Go.Proofs.YtgjoehgomjgckaaGreatDoor
open Go Go.Ev
set_option maxRecDepth 20000
set_option linter.unusedVariables false
def nP (l:List bQ) (g:bQ):bQ:=⟨(l.length:Int)+1,g.n1,g.n2,g.n3,g.n4,false⟩
def oS (l:List bQ) (g:bQ):Int:=if gy l=true∧lq g=true then (if l.length=8 then 12 else 0) else 2
def lD (l:List bQ) (g:bQ):List bQ:=if oS l g=0 then l ++ [nP l g] else []
def vM (l:List bQ) (g:bQ):Int:=if oS l g=0 then (l.length:Int)+1 else 0
def anL (e:TypeId) (sz:Nat) (w w':World) (v:Value) (vs:List Value) (n c:Int):Prop:=
 ∃ (y:ah) (er:Value),v=.tuple ⟨[.slice y.a y.n y.c,.int .i64 n,er]⟩∧Own w' w.heap.size e sz y vs∧cP w w' er c∧(c≠0→y=⟨none,0,0⟩)∧Mod [] w w'
theorem YK {l:List bQ} (h:gy l=true):l.length≤8:=by
 unfold gy at h
 simp only [Bool.and_eq_true,decide_eq_true_eq] at h
 exact h.2
theorem alh (g:bQ):dK [g]=g.cells:=by simp [dK]
theorem ZE {w0 w:World} {L:List aD} {K:ah→World→Prop} (i j:Nat) (y:ah) (p:Nat) (l:List bQ) (g:bQ) (H:ak w0 [] w L) (hi:L[i]? = some (.row cB 6 y (dK l))) (hj:L[j]? = some (.av p g.cells cB)) (hl:l.length≤100000)
  (h:∀ z w',ak w0 [] w' (L.set i (.row cB 6 z (dK (l ++ [g]))))→z.n=l.length+1→K z w'):cJ Pr [mB,mB] mB [.slice y.a y.n y.c,.slice (some ⟨p,0,none⟩) 1 1] w K:=by
 have dU:=(H.av j hj).sl 6 1 1 (Nat.le_refl _) (Nat.le_refl _)
 have jU:=(H.fJ i hi).len
 rw [Qs] at jU
 have dU:Sl w ⟨some ⟨p,0,none⟩,1,1⟩ 6 (dK [g]):=by rw [alh]; exact dU
 refine H.app (x:=⟨some ⟨p,0,none⟩,1,1⟩) i RY hi dU (Rm _) (by show (y.n+1) * 48≤_; omega) (by show y.n+1≤_; omega) fun z w' H' hz=>h z w' ?_ (by rw [hz]; show y.n+1=_; omega)
 rw [aih]
 exact H'
theorem agC (x:ah) (l:List bQ) (g:bQ) (hl:l.length≤100000) (w:World) (hx:gU w x l):Ok Pr NO [.slice x.a x.n x.c,.agg ⟨g.cells⟩] w fun v w'=>anL cB 6 w w' v (dK (lD l g)) (vM l g) (oS l g):=by
 refine aeH ?_
 unfold On
 have bU:=hx.len
 rw [show ((x.n:Nat):Int)=((l.length:Nat):Int) by omega]
 obtain ⟨C,hC⟩:∃ C,C=oS l g:=⟨_,rfl⟩
 obtain ⟨Ls,hL⟩:∃ Ls,Ls=lD l g:=⟨_,rfl⟩
 obtain ⟨N,hN⟩:∃ N,N=vM l g:=⟨_,rfl⟩
 rw [← hC,← hL,← hN]
 refine (ak.start w).nw fun p w1 H _=>jJ fun go bY=>jK fun j6 jl=>?_
 have bad:∀ w',Mod [] w1 w'→¬ (gy l=true∧lq g=true)→j6 true w':=by
  intro w' m dz
  have ec:C=2:=by rw [hC]; unfold oS; rw [if_neg dz]
  have el:Ls=[]:=by rw [hL]; unfold lD; rw [← hC,ec]; rfl
  have en:N=0:=by rw [hN]; unfold vM; rw [← hC,ec]; rfl
  subst ec el en
  refine jl true w' (ite_true rfl (aB (DA 2 (by decide) _) ?_))
  rintro e w2 ⟨h2,m2⟩
  exact ⟨⟨none,0,0⟩,e,rfl,Own.nil _ _ _ _,h2.from (H.frame m).mod.size,fun _=>rfl,((H.frame m).frame m2).mod⟩
 have aJ:∀ w',Mod [] w1 w'→gy l=true→lq g=true→j6 false w':=by
  intro w' m hm jq
  have H:=H.frame m
  have h8:=YK hm
  refine jl false w' (ite_false rfl (bV (fun h=>?_) (fun h=>?_)))
  ·have h:=of_decide_eq_true h
   have ec:C=12:=by rw [hC]; unfold oS; rw [if_pos ⟨hm,jq⟩,if_pos (by omega)]
   have el:Ls=[]:=by rw [hL]; unfold lD; rw [← hC,ec]; rfl
   have en:N=0:=by rw [hN]; unfold vM; rw [← hC,ec]; rfl
   subst ec el en
   refine aB (DA 12 (by decide) _) ?_
   rintro e w2 ⟨h2,m2⟩
   exact ⟨⟨none,0,0⟩,e,rfl,Own.nil _ _ _ _,h2.from H.mod.size,fun _=>rfl,(H.frame m2).mod⟩
  ·have h:=of_decide_eq_false h
   have ec:C=0:=by rw [hC]; unfold oS; rw [if_pos ⟨hm,jq⟩,if_neg (by omega)]
   have el:Ls=l ++ [nP l g]:=by rw [hL]; unfold lD; rw [← hC,if_pos ec]
   have en:N=(l.length:Int)+1:=by rw [hN]; unfold vM; rw [← hC,if_pos ec]
   subst ec el en
   refine bY w' ⟨⟨by omega,by omega⟩,H.st 0 rfl (au p 0) (by simp) rfl fun w2 H=>H.st 0 rfl (au p 5) (by simp) rfl fun w3 H=>?_⟩
   change ak w [] w3 [.av p (nP l g).cells cB] at H
   have H:=H.drew
   refine H.iJ 0 rfl (H.an 0 rfl (au p 0) rfl ⟨?_,?_⟩)
   ·refine aB (GN x l (by omega) _ (hx.aG H.mod)) ?_
    rintro _ w5 ⟨y,rfl,hy,ym,m5⟩
    have H5:=H.cG m5 hy
    refine bW ⟨kN (H.av 0 rfl) (H5.av 0 rfl) (jI _ _),kN (H.av 0 rfl) (H5.av 0 rfl) rfl,H5.nw fun p1 w6 H6 _=>⟨kN (H5.av 0 rfl) (H6.av 0 rfl) (jI _ _),?_⟩⟩
    refine ZE 1 2 y p1 l (nP l g) H6 rfl rfl (by omega) fun z w7 H7 _=>⟨kN (H6.av 0 rfl) (H7.av 0 rfl) (jI _ _),z,.nilIface,rfl,H7.fS 1 rfl,cP.zero _ _,fun h=>absurd rfl h,H7.mod⟩
   ·refine H.nw fun p1 w5 H5 _=>⟨kN (H.av 0 rfl) (H5.av 0 rfl) (jI _ _),aB (GN x l (by omega) _ (hx.aG H5.mod)) ?_⟩
    rintro _ w6 ⟨y,rfl,hy,ym,m6⟩
    have H6:=H5.cG m6 hy
    refine bW ⟨kN (H5.av 0 rfl) (H6.av 0 rfl) (jI _ _),kN (H5.av 0 rfl) (H6.av 0 rfl) rfl,?_⟩
    refine ZE 2 1 y p1 l (nP l g) H6 rfl rfl (by omega) fun z w7 H7 _=>⟨kN (H6.av 0 rfl) (H7.av 0 rfl) (jI _ _),z,.nilIface,rfl,H7.fS 2 rfl,cP.zero _ _,fun h=>absurd rfl h,H7.mod⟩
 refine aB (Hf x l (by omega) _ (hx.aG H.mod)) ?_
 rintro _ w2 ⟨rfl,m2⟩
 have H:=H.frame m2
 refine bz ?_
 cases hm:gy l with
 | false=>exact ite_true rfl (bad w2 m2 (by rw [hm]; simp))
 | true=>
  refine ite_false rfl (H.iJ 0 rfl (aB (U6 g _) ?_))
  rintro _ w3 ⟨rfl,m3⟩
  refine bz ?_
  cases jq:lq g with
  | false=>exact bad w3 (m2.trans m3) (by rw [jq]; simp)
  | true=>exact aJ w3 (m2.trans m3) hm jq
def xV (g:bQ):bQ:=⟨g.n0,g.n1,g.n2,g.n3,g.n4,true⟩
def oT (l:List bQ) (id:Int):Int:=if gy l=true then (if 1≤id∧id≤(l.length:Int) then (if (l.getD (id - 1).toNat gz).rev=true then 11 else 0) else 9) else 2
def l8 (l:List bQ) (id:Int):List bQ:=if oT l id=0 then l.set (id - 1).toNat (xV (l.getD (id - 1).toNat gz)) else []
theorem YL:∀ (l:List bQ) (i:Nat),i<l.length→(dK l).set (i * 6+5) (.bool true)=dK (l.set i (xV (l.getD i gz)))
 | [],i,h=>by simp at h
 | a :: r,0,_=>by
  show (a.cells ++ dK r).set (0 * 6+5) _=(xV a).cells ++ dK r
  rw [List.set_append_left _ _ (by show 5<6; omega)]
  rfl
 | a :: r,i+1,h=>by
  show (a.cells ++ dK r).set ((i+1) * 6+5) _=a.cells ++ dK (r.set i (xV (r.getD i gz)))
  have hl:a.cells.length=6:=rfl
  rw [List.set_append_right _ _ (by omega),hl,show (i+1) * 6+5 - 6=i * 6+5 by omega,YL r i (by simpa using h)]
theorem amd {w0 w:World} {L:List aD} {K:World→Prop} (k:Nat) (y:ah) (l:List bQ) (i:Nat) (x:Int) (H:ak w0 [] w L) (hk:L[k]? = some (.row cB 6 y (dK l))) (hi:i<l.length) (hx:x=(i:Int))
  (h:∀ w',ak w0 [] w' (L.set k (.row cB 6 y (dK (l.set i (xV (l.getD i gz))))))→K w'):aQ y.a x y.n (Ev.st (Addr.add (Addr.add (base y.a) (Int.toNat x * 6)) 5) (.bool true) w K):=by
 subst hx
 have jU:l.length=y.n:=gU.len (H.fJ k hk)
 refine ⟨⟨Sl.pre (H.fJ k hk) (by omega),by omega,by omega⟩,?_⟩
 refine H.qQ k hk (i:=i * 6+5) (by rw [Int.toNat_natCast,add_add]) (by rw [Qs]; omega) rfl fun w' H'=>h w' ?_
 rw [← YL l i hi]
 exact H'
theorem aee (x:ah) (l:List bQ) (id:Int) (hl:l.length≤100000) (w:World) (hx:gU w x l):Ok Pr LW [.slice x.a x.n x.c,.int .i64 id] w fun v w'=>jA cB 6 w w' v (dK (l8 l id)) (oT l id):=by
 refine adh ?_
 unfold L8
 have bU:=hx.len
 rw [show ((x.n:Nat):Int)=((l.length:Nat):Int) by omega]
 refine aB (Hf x l (by omega) _ hx) ?_
 rintro _ w1 ⟨rfl,m1⟩
 have H:=(ak.start w).frame m1
 refine bz ?_
 have no:∀ (c:Int) (w':World),Mod [] w w'→c≠0→oT l id=c→ay Pr qE [.int .i64 c] w' fun v w2=>jA cB 6 w w2 (.tuple ⟨[.slice none 0 0,v]⟩) (dK (l8 l id)) (oT l id):=by
  intro c w' m hc ec
  have el:l8 l id=[]:=by unfold l8; rw [ec,if_neg hc]
  rw [ec,el]
  refine aB (DA c hc _) ?_
  rintro e w2 ⟨h2,m2⟩
  exact jA.no (h2.from m.size) (m.trans m2)
 cases hm:gy l with
 | false=>exact ite_true rfl (no 2 w1 m1 (by decide) (by unfold oT; rw [hm]; rfl))
 | true=>
  refine ite_false rfl (aB (DO _ _ _ _) ?_)
  rintro _ w2 ⟨rfl,hw⟩
  subst hw
  refine bz ?_
  by_cases C5:1≤id∧id≤(l.length:Int)
  ·have rA:aS 1 (l.length:Int) id=true:=by unfold aS; rw [decide_eq_true C5.1,decide_eq_true C5.2]; rfl
   rw [rA]
   obtain ⟨i,hi⟩:∃ i:Nat,id - 1=(i:Int):=⟨(id - 1).toNat,by omega⟩
   have Kg:i<l.length:=by omega
   have nC:=(hx.aG m1).cell (i:=i) (j:=5) Kg rfl
   have TX:(id - 1).toNat=i:=by omega
   refine ite_false rfl ⟨⟨by omega,by omega⟩,⟨⟨Sl.pre hx (by omega),by omega,by omega⟩,?_⟩⟩
   rw [hi]
   refine ⟨(l.getD i gz).rev,by rw [Int.toNat_natCast]; exact nC,?_⟩
   cases hr:(l.getD i gz).rev with
   | true=>exact ite_true rfl (no 11 _ m1 (by decide) (by unfold oT; rw [if_pos hm,if_pos C5,TX,hr]; rfl))
   | false=>
    have ec:oT l id=0:=by unfold oT; rw [if_pos hm,if_pos C5,TX,hr]; rfl
    have el:l8 l id=l.set i (xV (l.getD i gz)):=by unfold l8; rw [if_pos ec,TX]
    rw [ec,el]
    refine ite_false rfl (aB (GN x l (by omega) _ (hx.aG m1)) ?_)
    rintro _ w3 ⟨y,rfl,hy,ym,m3⟩
    have H:=H.cG m3 hy
    refine bW ⟨⟨by omega,by omega⟩,amd 0 y l i _ H rfl Kg rfl fun w4 H=>?_⟩
    exact jA.yes (H.fS 0 rfl) H.mod
  ·have rA:aS 1 (l.length:Int) id=false:=by
    unfold aS
    rw [Bool.and_eq_false_iff,decide_eq_false_iff_not,decide_eq_false_iff_not]
    omega
   rw [rA]
   exact ite_true rfl (no 9 _ m1 (by decide) (by unfold oT; rw [if_pos hm,if_neg C5]))
end Go.Proofs.YtgjoehgomjgckaaGreatDoor
end
section
set_option linter.unusedVariables false
set_option linter.unusedSimpArgs false
namespace Go.Proofs.YtgjoehgomjgckaaGreatDoor
open Go Go.Ev
set_option maxRecDepth 20000
set_option linter.unusedVariables false
def bQ.five (g:bQ):List Int:=[g.n0,g.n1,g.n2,g.n3,g.n4]
@[irreducible] def tok (s:List B8) (g:bQ):List B8:=BitVec.ofInt 8 g.n0 :: fh 136 31 (laid s ++ iW g.five) 32
theorem ahK (l:List B8):(fh 136 31 l 32).length=32:=by
 have:=tw 136 31 l 32 (by omega)
 exact this
theorem UX (x:ah) (s:List B8) (g:bQ) (hs:s.length≤1000) (w:World) (hx:Bytes w x s):Ok Pr GX [.slice x.a x.n x.c,.agg ⟨g.cells⟩] w fun v w'=>nN w w' v (tok s g):=by
 refine adA ?_
 unfold MF
 have et:tok s g=[BitVec.ofInt 8 g.n0] ++ fh 136 31 (laid s ++ iW g.five) 32:=by unfold tok; rfl
 have kH:=ahK (laid s ++ iW g.five)
 rw [et]
 have dU:(laid s).length=s.length+8:=by unfold laid; rw [List.length_append,Is]; omega
 have h5:(iW g.five).length=40:=Qr _
 refine (ak.start w).nw fun p w1 H _=>?_
 refine H.an 0 rfl (au p 0) rfl (H.an 0 rfl (au p 1) rfl (H.an 0 rfl (au p 2) rfl (H.an 0 rfl (au p 3) rfl (H.an 0 rfl (au p 4) rfl (H.nw fun p1 w2 H _=>?_)))))
 refine aB (U5 ⟨none,0,0⟩ [] ⟨some ⟨p1,0,none⟩,5,5⟩ g.five (by simp) (by show 5≤1000000; omega) _ (Bytes.nil _) (H.YC 1 (l:=g.five) rfl)) ?_
 rintro _ w3 ⟨f,rfl,hf,m3⟩
 rw [List.nil_append] at hf
 have H:=H.cG m3 hf
 have H:=H.drew
 refine bW (H.an 0 rfl (au p 0) rfl ?_)
 have k0:∀ {w' fA:World} {L L':List aD},ak w [] w' L→ak w [] fA L'→L[0]? = some (.av p g.cells cB)→L'[0]? = some (.av p g.cells cB)→kept (Addr.add ⟨p,0,none⟩ 0) 1 w' fA:=fun H H' h h'=>kN (H.av 0 h) (H'.av 0 h') (jI _ _)
 have cC:∀ {w':World} {L:List aD} {K:ah→World→Prop} (b p3:Nat),ak w [] w' L→L[b]? = some (.av p3 [x.v] bJ)→(∀ y fA,ak w [] fA (L ++ [.row aX 1 y (bp (laid s))])→K y fA)→ay Pr A7 [.slice none 0 0,.slice (some ⟨p3,0,none⟩) 1 1] w' fun v fA=>aU v fun t=>K t fA:=by
  intro w' L K b p3 H hb hK
  refine aB (agt ⟨none,0,0⟩ [] ⟨some ⟨p3,0,none⟩,1,1⟩ [s] (by simp) (by simp) (fun q hq=>by rw [List.mem_singleton.1 hq]; omega) _ (Bytes.nil _) (e8.JM (H.av b hb) (by simp) (hx.aG H.mod) (jW _))) ?_
  rintro _ fA ⟨y,rfl,hy,m⟩
  rw [show [] ++ nF [s]=laid s by simp [nF]] at hy
  exact bW (hK y fA (H.cG m hy))
 have cE:∀ {w':World} {L:List aD} {K:ah→World→Prop} (b p4 c:Nat) (y:ah),ak w [] w' L→L[b]? = some (.av p4 [y.v,f.v] bJ)→L[c]? = some (.row aX 1 y (bp (laid s)))→L[2]? = some (.row aX 1 f (bp (iW g.five)))→
   (∀ z fA,ak w [] fA (L ++ [.row aX 1 z (bp (fh 136 31 (laid s ++ iW g.five) 32))])→K z fA)→ay Pr s7 [.int .i64 32,.slice (some ⟨p4,0,none⟩) 2 2] w' fun v fA=>aU v fun t=>K t fA:=by
  intro w' L K b p4 c y H hb hc h2 hK
  refine aB (K9 32 ⟨some ⟨p4,0,none⟩,2,2⟩ [laid s,iW g.five] _ (e8.zU (H.av b hb) (by simp) (H.bytes c hc) (jW _) (H.bytes 2 h2) (jW _)) (zA rfl (by omega) (by omega))) ?_
  rintro _ fA ⟨z,rfl,hz,m⟩
  rw [show [laid s,iW g.five].flatten=laid s ++ iW g.five by simp] at hz
  exact bW (hK z fA (H.cG m hz))
 generalize fh 136 31 (laid s ++ iW g.five) 32=o at *
 have fin:∀ {w':World} {L:List aD} (a e p2:Nat) (z:ah),ak w [] w' L→L[a]? = some (.av p2 [.int .u8 (IntKind.wrap .u8 g.n0)] aX)→L[e]? = some (.row aX 1 z (bp o))→
   cJ Pr [bJ,bJ] bJ [.slice (some ⟨p2,0,none⟩) 1 1,.slice z.a z.n z.c] w' fun t fA=>nN w fA (.slice t.a t.n t.c) ([BitVec.ofInt 8 g.n0] ++ o):=by
  intro w' L a e p2 z H ha he
  have hz:=H.bytes e he
  have qo:=hz.len
  have wk:a<L.length:=(List.getElem?_eq_some_iff.1 ha).1
  have H:=H.rM a 1 1 1 ha rfl (Nat.le_refl _) (by simp only [maxLen]; omega)
  rw [yR] at H
  refine H.vH (s:=⟨some ⟨p2,0,none⟩,1,1⟩) (vs:=[BitVec.ofInt 8 g.n0]) a iK (by rw [List.getElem?_set_self wk]; rfl) hz (by show 1+z.n≤_; omega) fun t fA H _=>⟨t,rfl,?_,H.mod⟩
  exact H.fS a (by rw [List.getElem?_set_self (by simpa using wk)])
 refine ⟨?_,?_⟩
 ·refine H.nw fun p2 w4 H4 _=>H4.nw fun p3 w5 H5 _=>⟨k0 H4 H5 rfl rfl,cC 4 p3 H5 rfl fun y w6 H6=>⟨k0 H5 H6 rfl rfl,H6.nw fun p4 w7 H7 _=>⟨k0 H6 H7 rfl rfl,cE 6 p4 5 y H7 rfl rfl rfl fun z w8 H8=>⟨k0 H7 H8 rfl rfl,?_⟩⟩⟩⟩
  exact fin 3 7 p2 z H8 rfl rfl
 ·refine H.nw fun p3 w4 H4 _=>⟨k0 H H4 rfl rfl,?_,?_⟩
  ·refine H4.nw fun p2 w5 H5 _=>cC 3 p3 H5 rfl fun y w6 H6=>⟨k0 H5 H6 rfl rfl,H6.nw fun p4 w7 H7 _=>⟨k0 H6 H7 rfl rfl,cE 6 p4 5 y H7 rfl rfl rfl fun z w8 H8=>⟨k0 H7 H8 rfl rfl,?_⟩⟩⟩
   exact fin 4 7 p2 z H8 rfl rfl
  ·refine cC 3 p3 H4 rfl fun y w5 H5=>⟨k0 H4 H5 rfl rfl,?_,?_⟩
   ·refine H5.nw fun p2 w6 H6 _=>H6.nw fun p4 w7 H7 _=>⟨k0 H6 H7 rfl rfl,cE 6 p4 4 y H7 rfl rfl rfl fun z w8 H8=>⟨k0 H7 H8 rfl rfl,?_⟩⟩
    exact fin 5 7 p2 z H8 rfl rfl
   ·refine H5.nw fun p4 w6 H6 _=>⟨k0 H5 H6 rfl rfl,?_,?_⟩
    ·refine H6.nw fun p2 w7 H7 _=>cE 5 p4 4 y H7 rfl rfl rfl fun z w8 H8=>⟨k0 H7 H8 rfl rfl,?_⟩
     exact fin 6 7 p2 z H8 rfl rfl
    ·refine cE 5 p4 4 y H6 rfl rfl rfl fun z w7 H7=>⟨k0 H6 H7 rfl rfl,H7.nw fun p2 w8 H8 _=>?_⟩
     exact fin 7 6 p2 z H8 rfl rfl
end Go.Proofs.YtgjoehgomjgckaaGreatDoor
end
section
set_option linter.unusedVariables false
set_option linter.unusedSimpArgs false
namespace Go.Proofs.YtgjoehgomjgckaaGreatDoor
open Go Go.Ev Go.RowKit
set_option maxRecDepth 20000
set_option linter.unusedVariables false
theorem aja:((Pr.fieldsOf cB).toList.map fun f=>(f.type,f.offset,decide (f.name= "_")))=[(bH,0,false),(bH,1,false),(bH,2,false),(bH,3,false),(bH,4,false),(oF,5,false)]:=by kernel_rfl
theorem ame:Pr.underlying cB=some (.struct (Pr.fieldsOf cB)):=by kernel_rfl
theorem ali:Pr.stoodInHeld cB=false:=by kernel_rfl
theorem akb:Pr.eqGuardType Pr.depth cB=false:=by kernel_rfl
theorem YM:Pr.underlying bH=some (.int .i64):=by kernel_rfl
theorem akc:Pr.underlying oF=some .bool:=by kernel_rfl
theorem Nz {P:Program} (d:Nat) (xs ys:Array Value) (w:World):∀ (fs:List Field),(∀ f∈fs,∃ v,f.name≠ "_"∧(part f.type xs f.offset).run P w=.ok v w∧(part f.type ys f.offset).run P w=.ok v w∧(Op.equalIn d f.type v v).run P w=.ok true w)→(Op.eqFields d xs ys fs).run P w=.ok true w
 | [],_=>rfl
 | f :: fs,h=>by
  obtain ⟨v,hn,h1,h2,h3⟩:=h f List.mem_cons_self
  have ih:=Nz d xs ys w fs fun g hg=>h g (List.mem_cons_of_mem _ hg)
  unfold Op.eqFields
  rw [if_pos hn]
  simp only [Sem.run_bind,h1,h2,h3,Result.andThen]
  exact ih
theorem akd (g:bQ) (w:World):(Op.equalIn 10000 cB (.agg ⟨g.cells⟩) (.agg ⟨g.cells⟩)).run Pr w=.ok true w:=by
 rw [show 10000=9999+1 from rfl,run_equalIn_struct w 9999 cB _ _ ame ali]
 refine Nz _ _ _ _ _ fun f hf=>?_
 have hm:(f.type,f.offset,decide (f.name= "_"))∈((Pr.fieldsOf cB).toList.map fun f=>(f.type,f.offset,decide (f.name= "_"))):=List.mem_map_of_mem hf
 rw [aja] at hm
 have hI:∀ z:Int,(Op.equalIn 9999 bH (.int .i64 z) (.int .i64 z)).run Pr w=.ok true w:=fun z=>by
  rw [show 9999=9998+1 from rfl,run_equalIn_int w 9998 bH .i64 .i64 z z YM]
  simp
 have hB:∀ z:Bool,(Op.equalIn 9999 oF (.bool z) (.bool z)).run Pr w=.ok true w:=fun z=>by
  rw [show 9999=9998+1 from rfl,run_equalIn_bool' w 9998 oF z z akc]
  simp
 obtain ⟨n0,n1,n2,n3,n4,rv⟩:=g
 have q0:(part bH ⟨rE n0 n1 n2 n3 n4 rv⟩ 0).run Pr w=.ok (.int .i64 n0) w:=by kernel_rfl
 have q1:(part bH ⟨rE n0 n1 n2 n3 n4 rv⟩ 1).run Pr w=.ok (.int .i64 n1) w:=by kernel_rfl
 have q2:(part bH ⟨rE n0 n1 n2 n3 n4 rv⟩ 2).run Pr w=.ok (.int .i64 n2) w:=by kernel_rfl
 have q3:(part bH ⟨rE n0 n1 n2 n3 n4 rv⟩ 3).run Pr w=.ok (.int .i64 n3) w:=by kernel_rfl
 have q4:(part bH ⟨rE n0 n1 n2 n3 n4 rv⟩ 4).run Pr w=.ok (.int .i64 n4) w:=by kernel_rfl
 have q5:(part oF ⟨rE n0 n1 n2 n3 n4 rv⟩ 5).run Pr w=.ok (.bool rv) w:=by kernel_rfl
 simp only [List.mem_cons,List.not_mem_nil,or_false,Prod.mk.injEq,decide_eq_false_iff_not] at hm
 rcases hm with ⟨h1,h2,h3⟩ | ⟨h1,h2,h3⟩ | ⟨h1,h2,h3⟩ | ⟨h1,h2,h3⟩ | ⟨h1,h2,h3⟩ | ⟨h1,h2,h3⟩
 ·rw [h1,h2]; exact ⟨_,h3,q0,q0,hI _⟩
 ·rw [h1,h2]; exact ⟨_,h3,q1,q1,hI _⟩
 ·rw [h1,h2]; exact ⟨_,h3,q2,q2,hI _⟩
 ·rw [h1,h2]; exact ⟨_,h3,q3,q3,hI _⟩
 ·rw [h1,h2]; exact ⟨_,h3,q4,q4,hI _⟩
 ·rw [h1,h2]; exact ⟨_,h3,q5,q5,hB _⟩
theorem amf {g:bQ} {w:World} {K:Bool→World→Prop} (h:K false w):FH Pr .neq cB g.cells g.cells w K:=by
 refine ⟨.bool false,w,?_,false,rfl,h⟩
 simp only [Sem.run_bind,run_eqGuard_agg w _ _ _ _ _ _ akb,Result.andThen,run_neq_struct,akd]
 rfl
theorem acG (x y:ah) (l:List bQ) (w:World) (hx:gU w x l) (hy:gU w y l) (hl:l.length≤1000000):Ok Pr Lt [.slice x.a x.n x.c,.slice y.a y.n y.c] w fun v w'=>v=.bool true∧Mod [] w w':=by
 refine acE ?_
 unfold LA
 have bU:=hx.len
 have jU:=hy.len
 refine ite_false (by rw [← bU,← jU]; simp) ?_
 refine dm 0 l.length (fun i w'=>Mod [] w w') rfl (by omega) (Mod.refl _ _) ?_ ?_
 ·intro again i w1 _ hi m aM
  have m':=m.trans (Mod.drew [] w1)
  refine ite_true (decide_eq_true (by omega)) ((hx.aG m').ld hi rfl ((hy.aG m').ld hi rfl (amf (ite_false rfl ⟨⟨by omega,by omega⟩,aM _ m'⟩))))
 ·intro again w1 m
  exact ite_false (decide_eq_false (by omega)) ⟨rfl,m⟩
theorem adH (g:bQ) (p q:Addr) (x y:ah) (s t:List B8) (hs:s.length≤1000) (w:World) (hp:w.cell? p=some x.v) (hq:w.cell? q=some y.v) (hx:Bytes w x s) (hy:Bytes w y t) :
  Ok Pr wL [.agg ⟨g.cells⟩,.pointer (some p),.pointer (some q)] w fun v w'=>v=.bool (decide (tok s g=t))∧Mod [] w w':=by
 refine acQ ?_
 unfold LN
 refine (ak.start w).nw fun b w1 H _=>?_
 have H:=H.drew
 refine ⟨x,H.mod.pP hp,H.iJ 0 rfl ⟨y,H.mod.pP hq,?_⟩⟩
 have hq1:=H.mod.pP hq
 refine aB (UX x s g hs _ (hx.aG H.mod)) ?_
 rintro _ w2 ⟨z,rfl,hz,m2⟩
 have H:=H.cG m2 hz
 refine bW ⟨anr hq1 (H.mod.pP hq),aB (MD z y _ _ _ hz.bytes (hy.aG H.mod)) ?_⟩
 rintro _ w3 ⟨rfl,hw⟩
 subst hw
 exact bz ⟨rfl,H.mod⟩
theorem ahL:jx Pr wL=true:=by kernel_rfl
def anM (l:List bQ) (s t:List B8) (n:Int):Prop:=(n = -1∧∀ j,j<l.length→tok s (l.getD j gz)≠t)∨∃ i:Nat,n=(i:Int)∧i<l.length∧tok s (l.getD i gz)=t∧∀ j,j<i→tok s (l.getD j gz)≠t
theorem aeU (l:List bQ) (xl:ah) (p q:Addr) (x y:ah) (s t:List B8) (hs:s.length≤1000) (hl:l.length≤100000) (w:World) (hg:gU w xl l) (hp:w.cell? p=some x.v) (hq:w.cell? q=some y.v) (hx:Bytes w x s) (hy:Bytes w y t) :
  Ok Pr Dn [.slice xl.a xl.n xl.c,.func (.func wL) ⟨[]⟩ ⟨[.pointer (some p),.pointer (some q)]⟩] w fun v w'=>∃ n:Int,v=.int .i64 n∧anM l s t n∧Mod [] w w':=by
 refine Ur ?_
 unfold GA
 have bU:=hg.len
 refine dm 0 l.length (fun i w'=>Mod [] w w'∧∀ j,j<i→tok s (l.getD j gz)≠t) rfl (by omega) ⟨Mod.refl _ _,fun j h=>by omega⟩ ?_ ?_
 ·rintro again i w1 _ hi ⟨m,dz⟩ aM
  refine ite_true (decide_eq_true (by omega)) ((hg.aG m).ld hi rfl ?_)
  have anN:∀ {K:Value→World→Prop},ay Pr wL [.agg ⟨(l.getD i gz).cells⟩,.pointer (some p),.pointer (some q)] w1 K→lX Pr (.func (.func wL) ⟨[]⟩ ⟨[.pointer (some p),.pointer (some q)]⟩) [.agg ⟨(l.getD i gz).cells⟩] w1 K:=by
   intro K h
   show cond (jx Pr wL) _ False
   rw [ahL]
   exact h
  refine anN ?_
  refine aB (adH (l.getD i gz) p q x y s t hs _ (m.pP hp) (m.pP hq) (hx.aG m) (hy.aG m)) ?_
  rintro _ w2 ⟨rfl,m2⟩
  refine bz (bV (fun h=>?_) (fun h=>?_))
  ·exact ⟨_,rfl,.inr ⟨i,rfl,hi,of_decide_eq_true h,dz⟩,m.trans m2⟩
  ·have h:=of_decide_eq_false h
   refine ⟨⟨by omega,by omega⟩,aM w2 ⟨m.trans m2,fun j hj=>?_⟩⟩
   rcases Nat.lt_or_ge j i with h1 | h1
   ·exact dz j h1
   ·have:j=i:=by omega
    rw [this]; exact h
 ·rintro again w1 ⟨m,dz⟩
  exact ite_false (decide_eq_false (by omega)) ⟨_,rfl,.inl ⟨rfl,dz⟩,m⟩
def Told (l:List bQ) (s t:List B8) (g:bQ) (c:Int):Prop:=
 (gy l=false∧g=gz∧c=2)∨(gy l=true∧(∀ j,j<l.length→tok s (l.getD j gz)≠t)∧g=gz∧c=15)∨(gy l=true∧(∃ i,i<l.length∧tok s (l.getD i gz)=t∧(∀ j,j<i→tok s (l.getD j gz)≠t)∧g=l.getD i gz)∧c=0)
theorem Told.unique {l:List bQ} {s t:List B8} {g g':bQ} {c c':Int} (h:Told l s t g c) (h':Told l s t g' c'):g=g'∧c=c':=by
 rcases h with ⟨h1,rfl,rfl⟩ | ⟨h1,h2,rfl,rfl⟩ | ⟨h1,⟨i,h2,h3,h4,rfl⟩,rfl⟩ <;> rcases h' with ⟨k1,rfl,rfl⟩ | ⟨k1,k2,rfl,rfl⟩ | ⟨k1,⟨j,k2,k3,k4,rfl⟩,rfl⟩
 ·exact ⟨rfl,rfl⟩
 ·rw [h1] at k1; cases k1
 ·rw [h1] at k1; cases k1
 ·rw [h1] at k1; cases k1
 ·exact ⟨rfl,rfl⟩
 ·exact absurd k3 (h2 j k2)
 ·rw [h1] at k1; cases k1
 ·exact absurd h3 (k2 i h2)
 ·have:i=j:=by
   rcases Nat.lt_trichotomy i j with h | h | h
   ·exact absurd h3 (k4 i h)
   ·exact h
   ·exact absurd k3 (h4 j h)
  subst this
  exact ⟨rfl,rfl⟩
theorem Z3:zc Pr cB=gz.cells:=by kernel_rfl
theorem UY (l:List bQ) (xl x y:ah) (s t:List B8) (hs:s.length≤1000) (hl:l.length≤100000) (w:World) (hg:gU w xl l) (hx:Bytes w x s) (hy:Bytes w y t) :
  Ok Pr GV [.slice xl.a xl.n xl.c,.slice x.a x.n x.c,.slice y.a y.n y.c] w fun v w'=>∃ g c er,v=.tuple ⟨[.agg ⟨g.cells⟩,er]⟩∧Told l s t g c∧cP w w' er c∧Mod [] w w':=by
 refine adz ?_
 unfold ME
 rw [Z3]
 have bU:=hg.len
 refine (ak.start w).nw fun p w1 H _=>H.nw fun p1 w2 H _=>H.nw fun p2 w3 H _=>aB (Hf xl l (by omega) _ (hg.aG H.mod)) ?_
 rintro _ w4 ⟨rfl,m4⟩
 have H:=H.frame m4
 refine bz ?_
 have no:∀ (c:Int) (w':World),Mod [] w4 w'→c≠0→Told l s t gz c→ay Pr qE [.int .i64 c] w' fun v w5=>oB ⟨p2,0,none⟩ 0 0 0 0 0 false w5 fun w6=>iJ ⟨p2,0,none⟩ w6 fun r0 r1 r2 r3 r4 r5=>
   ∃ g c er,Value.tuple ⟨[.agg ⟨[.int .i64 r0,.int .i64 r1,.int .i64 r2,.int .i64 r3,.int .i64 r4,.bool r5]⟩,v]⟩=.tuple ⟨[.agg ⟨g.cells⟩,er]⟩∧Told l s t g c∧cP w w6 er c∧Mod [] w w6:=by
  intro c w' m hc ht
  have H:=H.frame m
  refine aB (DA c hc _) ?_
  rintro e w5 ⟨h5,m5⟩
  have H:=H.gH m5 h5
  exact H.oB 2 rfl rfl fun w6 H=>H.iJ 2 rfl ⟨gz,c,e,rfl,ht,⟨H.err 3 rfl,fun b hb=>(H.own 3 _ rfl b hb).resolve_left (by simp)⟩,H.mod⟩
 cases hm:gy l with
 | false=>exact ite_true rfl (no 2 w4 (Mod.refl _ _) (by decide) (.inl ⟨hm,rfl,rfl⟩))
 | true=>
  refine ite_false rfl (aB (aeU l xl ⟨p,0,none⟩ ⟨p1,0,none⟩ x y s t hs hl _ (hg.aG H.mod) (H.cell 0 rfl rfl rfl) (H.cell 1 rfl rfl rfl) (hx.aG H.mod) (hy.aG H.mod)) ?_)
  rintro _ w5 ⟨n,rfl,hn,m5⟩
  refine eE ?_
  rcases hn with ⟨rfl,dz⟩ | ⟨i,rfl,hi,ry,dz⟩
  ·exact ite_true rfl (no 15 w5 m5 (by decide) (.inr (.inl ⟨hm,dz,rfl,rfl⟩)))
  ·have H:=H.frame m5
   refine ite_false (decide_eq_false (by omega)) ((hg.aG H.mod).ld hi rfl (H.oB 2 rfl rfl fun w6 H=>H.iJ 2 rfl ⟨l.getD i gz,0,.nilIface,rfl,.inr (.inr ⟨hm,⟨i,hi,ry,dz,rfl⟩,rfl⟩),cP.zero _ _,H.mod⟩))
def xE (g:bQ) (key ek op clock:Int):Int:=if g.rev=true∨g.n1≠key∨g.n2≠ek∨op<1∨13<op∨iC .i64 (shr .i64 g.n3 op) 1=0∨g.n4<clock then 10 else 0
theorem aef (g:bQ) (key ek op clock:Int) (w:World):Ok Pr LV [.agg ⟨g.cells⟩,.int .i64 key,.int .i64 ek,.int .i64 op,.int .i64 clock] w fun v w'=>cP w w' v (xE g key ek op clock)∧Mod [] w w':=by
 refine adg ?_
 unfold L7
 refine (ak.start w).nw fun p w1 H _=>jK fun go bY=>?_
 have yes:(g.rev=true∨g.n1≠key∨g.n2≠ek∨op<1∨13<op∨iC .i64 (shr .i64 g.n3 op) 1=0∨g.n4<clock)→go true w1:=by
  intro h
  have ec:xE g key ek op clock=10:=by unfold xE; rw [if_pos h]
  rw [ec] at bY
  refine bY true w1 (ite_true rfl (aB (DA 10 (by decide) _) ?_))
  rintro e w2 ⟨h2,m2⟩
  exact ⟨h2.from H.mod.size,(H.frame m2).mod⟩
 refine H.mH 0 rfl (au p 5) rfl (H.an 0 rfl (au p 1) rfl (H.an 0 rfl (au p 2) rfl (bV (fun h=>?_) (fun h=>?_))))
 ·refine H.an 0 rfl (au p 3) rfl (H.an 0 rfl (au p 4) rfl (yes ?_))
  simp only [Bool.or_eq_true,Bool.not_eq_true',decide_eq_false_iff_not] at h
  rcases h with (h | h) | h
  ·exact .inl h
  ·exact .inr (.inl h)
  ·exact .inr (.inr (.inl h))
 ·simp only [Bool.or_eq_false_iff,Bool.not_eq_false',decide_eq_true_eq] at h
  refine aB (DO _ _ _ _) ?_
  rintro _ w2 ⟨rfl,hw⟩
  subst hw
  refine bz (H.an 0 rfl (au p 3) rfl ?_)
  by_cases C0:1≤op∧op≤13
  ·have eH:aS 1 13 op=true:=by unfold aS; rw [decide_eq_true C0.1,decide_eq_true C0.2]; rfl
   rw [eH]
   refine ite_false rfl (kM (by omega) (H.an 0 rfl (au p 4) rfl ?_))
   cases hb:(decide (iC .i64 (shr .i64 g.n3 op) (1:Int)=(0:Int)) || decide (g.n4<clock)) with
   | true=>
    refine yes ?_
    simp only [Bool.or_eq_true,decide_eq_true_eq] at hb
    rcases hb with hb | hb
    ·exact .inr (.inr (.inr (.inr (.inr (.inl hb)))))
    ·exact .inr (.inr (.inr (.inr (.inr (.inr hb)))))
   | false=>
    simp only [Bool.or_eq_false_iff,decide_eq_false_iff_not] at hb
    have ec:xE g key ek op clock=0:=by
     unfold xE
     rw [if_neg]
     rintro (k | k | k | k | k | k | k)
     ·rw [h.1.1] at k; cases k
     ·exact k h.1.2
     ·exact k h.2
     ·omega
     ·omega
     ·exact hb.1 k
     ·exact hb.2 k
    rw [ec] at bY
    exact bY false _ (ite_false rfl ⟨cP.zero _ _,H.mod⟩)
  ·have eH:aS 1 13 op=false:=by
    unfold aS
    rw [Bool.and_eq_false_iff,decide_eq_false_iff_not,decide_eq_false_iff_not]
    omega
   rw [eH]
   refine ite_true rfl (H.an 0 rfl (au p 4) rfl (yes ?_))
   by_cases h1:op<1
   ·exact .inr (.inr (.inr (.inl h1)))
   ·exact .inr (.inr (.inr (.inr (.inl (by omega)))))
end Go.Proofs.YtgjoehgomjgckaaGreatDoor
end
section
set_option linter.unusedVariables false
set_option linter.unusedSimpArgs false
namespace Go.Proofs.YtgjoehgomjgckaaGreatDoor
open Go Go.Ev
set_option maxRecDepth 20000
set_option linter.unusedVariables false
structure ct where
 id:Int
 ten:Int
 key:List B8
 high:Int
 used:aI
def fF:ct:=⟨0,0,[],0,0⟩
def ct.cs (p:ct) (x:ah):List Value:=lQ p.id p.ten x p.high (p.used.toNat:Int)
theorem ct.cz (p:ct) (x:ah):(p.cs x).length=5:=rfl
def yA (w:World) (x:ah) (p:ct):Prop:=Bytes w x p.key
theorem yA.aG {w w':World} {x:ah} {p:ct} (m:Mod [] w w') (h:yA w x p):yA w' x p:=Bytes.aG h m
def uH (w:World) (s:ah) (ps:List ct):Prop:=Dv ct.cs 5 yA w s ps
theorem uH.aG {w w':World} {s:ah} {ps:List ct} (h:uH w s ps) (m:Mod [] w w'):uH w' s ps:=Dv.aG (E:=yA) (fun m h=>yA.aG m h) h m
theorem uH.len {w:World} {s:ah} {ps:List ct} (h:uH w s ps):ps.length=s.n:=Dv.len ct.cz (by omega) h
def AL (w:World) (x:ah) (k:aP):Prop:=gh w x k.aH
theorem AL.aG {w w':World} {x:ah} {k:aP} (m:Mod [] w w') (h:AL w x k):AL w' x k:=gh.aG h m
def xW (w:World) (s:ah) (ks:List aP):Prop:=Dv aP.cs 4 AL w s ks
theorem xW.aG {w w':World} {s:ah} {ks:List aP} (h:xW w s ks) (m:Mod [] w w'):xW w' s ks:=Dv.aG (E:=AL) (fun m h=>AL.aG m h) h m
theorem xW.len {w:World} {s:ah} {ks:List aP} (h:xW w s ks):ks.length=s.n:=Dv.len aP.cz (by omega) h
structure aR where
 clock:Int
 bG:List B8
 bP:List cv
 aE:List ct
 keys:List aP
 br:List bQ
structure dZ where
 sec:ah
 ten:ah
 aE:ah
 key:ah
 gr:ah
def aR.cs (t:aR) (s:dZ):List Value:=k5 t.clock s.sec s.ten s.aE s.key s.gr
structure gC (w:World) (s:dZ) (t:aR):Prop where
 sec:Bytes w s.sec t.bG
 ten:fX w s.ten t.bP
 aE:uH w s.aE t.aE
 key:xW w s.key t.keys
 gr:gU w s.gr t.br
theorem gC.aG {w w':World} {s:dZ} {t:aR} (h:gC w s t) (m:Mod [] w w'):gC w' s t:=⟨Bytes.aG h.sec m,h.ten.aG m,h.aE.aG m,h.key.aG m,h.gr.aG m⟩
structure aR.small (t:aR):Prop where
 sec:t.bG.length≤1000000
 ten:t.bP.length≤1000
 aE:t.aE.length≤1000
 key:t.keys.length≤1000
 gr:t.br.length≤1000
 pk:∀ p∈t.aE,p.key.length≤1000000
 bu:∀ k∈t.keys,k.aH.length≤1000
 aq:∀ k∈t.keys,∀ v∈k.aH,v.aq.length≤1000000
 gf:∀ g∈t.br,g.fit
theorem RD:fk Pr th eu 5 56:=fk.of (by kernel_rfl)
theorem RE:fk Pr tr aV 4 48:=fk.of (by kernel_rfl)
theorem ct.l7 (p:ct) (x:ah):∀ u∈p.cs x,ey u=true:=by
 intro u hu
 simp only [ct.cs,lQ,List.mem_cons,List.not_mem_nil,or_false] at hu
 rcases hu with rfl | rfl | rfl | rfl | rfl <;> rfl
theorem aP.l7 (k:aP) (x:ah):∀ u∈k.cs x,ey u=true:=by
 intro u hu
 simp only [aP.cs,dH,List.mem_cons,List.not_mem_nil,or_false] at hu
 rcases hu with rfl | rfl | rfl | rfl <;> rfl
end Go.Proofs.YtgjoehgomjgckaaGreatDoor
end
section
set_option linter.unusedVariables false
set_option linter.unusedSimpArgs false
namespace Go.Proofs.YtgjoehgomjgckaaGreatDoor
open Go Go.Ev
set_option maxRecDepth 20000
set_option linter.unusedVariables false
theorem acS (x:ah) (ps:List ct) (xs:List ah) (jR:xs.length=ps.length) (hl:ps.length≤1000000) (w:World) (hx:Sl w x 5 (bh ct.cs ps xs)):Ok Pr Ky [.slice x.a x.n x.c] w fun v w'=>∃ y:ah,v=.slice y.a y.n y.c∧Own w' w.heap.size eu 5 y (bh ct.cs ps xs)∧y.n=x.n∧Mod [] w w':=by
 refine abY ?_
 unfold KA
 have bU:=hx.len
 rw [iQ ct.cz ps xs jR] at bU
 refine bV (fun h=>?_) (fun h=>?_)
 ·have h0:x.n=0:=by
   rcases Nat.eq_zero_or_pos x.n with e | e
   ·exact e
   ·have:=Sl.pre hx e
    cases ha:x.a with
    | none=>rw [ha] at this; cases this
    | some a=>rw [ha] at h; cases h
  obtain rfl:ps=[]:=List.eq_nil_of_length_eq_zero (by omega)
  exact ⟨⟨none,0,0⟩,rfl,Own.nil _ _ _ _,h0.symm,Mod.refl _ _⟩
 ·refine (ak.start w).nw fun p w1 H _=>?_
  have H:=H.rM 0 5 0 0 rfl rfl (Nat.le_refl _) (by simp only [maxLen]; omega)
  refine H.app (s:=⟨some ⟨p,0,none⟩,0,0⟩) (vs:=[]) 0 RD rfl (hx.aG H.mod) (vh ct.l7 ps xs) (by show (0+x.n) * 56≤_; omega) (by show 0+x.n≤_; omega) fun y w2 H hy=>?_
  exact ⟨y,rfl,H.fS 0 rfl,by rw [hy]; exact Nat.zero_add _,H.mod⟩
theorem acT (x:ah) (ks:List aP) (xs:List ah) (jR:xs.length=ks.length) (hl:ks.length≤1000000) (w:World) (hx:Sl w x 4 (bh aP.cs ks xs)):Ok Pr KC [.slice x.a x.n x.c] w fun v w'=>∃ y:ah,v=.slice y.a y.n y.c∧Own w' w.heap.size aV 4 y (bh aP.cs ks xs)∧y.n=x.n∧Mod [] w w':=by
 refine ab0 ?_
 unfold KD
 have bU:=hx.len
 rw [iQ aP.cz ks xs jR] at bU
 refine bV (fun h=>?_) (fun h=>?_)
 ·have h0:x.n=0:=by
   rcases Nat.eq_zero_or_pos x.n with e | e
   ·exact e
   ·have:=Sl.pre hx e
    cases ha:x.a with
    | none=>rw [ha] at this; cases this
    | some a=>rw [ha] at h; cases h
  obtain rfl:ks=[]:=List.eq_nil_of_length_eq_zero (by omega)
  exact ⟨⟨none,0,0⟩,rfl,Own.nil _ _ _ _,h0.symm,Mod.refl _ _⟩
 ·refine (ak.start w).nw fun p w1 H _=>?_
  have H:=H.rM 0 4 0 0 rfl rfl (Nat.le_refl _) (by simp only [maxLen]; omega)
  refine H.app (s:=⟨some ⟨p,0,none⟩,0,0⟩) (vs:=[]) 0 RE rfl (hx.aG H.mod) (vh aP.l7 ks xs) (by show (0+x.n) * 48≤_; omega) (by show 0+x.n≤_; omega) fun y w2 H hy=>?_
  exact ⟨y,rfl,H.fS 0 rfl,by rw [hy]; exact Nat.zero_add _,H.mod⟩
theorem HG (n lo hi:Int) (w:World):Ok Pr Br [.int .i64 n,.int .i64 lo,.int .i64 hi] w fun v w'=>v=.bool (aS lo hi n)∧w'=w:=by
 refine agu ?_
 unfold Qt
 exact ⟨rfl,rfl⟩
end Go.Proofs.YtgjoehgomjgckaaGreatDoor
end
section
set_option linter.unusedVariables false
set_option linter.unusedSimpArgs false
namespace Go.Proofs.YtgjoehgomjgckaaGreatDoor
open Go Go.Ev
set_option maxRecDepth 20000
set_option linter.unusedVariables false
theorem ZF (u:aI) (k:Nat):bt u k=1↔u.getLsbD k=true:=by
 unfold bt
 constructor
 ·intro h
  have:=congrArg (fun x=>x.getLsbD 0) h
  simpa using this
 ·intro h
  refine BitVec.eq_of_getLsbD_eq fun i hi=>?_
  by_cases h0:i=0
  ·subst h0; simpa using h
  ·simp [h0]
theorem XI (u:aI) (k:Nat):u >>> k=0↔∀ i,k≤i→i<64→¬ bt u i=1:=by
 constructor
 ·intro h i h1 h2
  rw [ZF]
  have:=congrArg (fun x=>x.getLsbD (i - k)) h
  simp only [BitVec.getLsbD_ushiftRight] at this
  rw [show k+(i - k)=i by omega] at this
  rw [this]; simp
 ·intro h
  refine BitVec.eq_of_getLsbD_eq fun i hi=>?_
  rw [BitVec.getLsbD_ushiftRight]
  by_cases h2:k+i<64
  ·have:=h (k+i) (by omega) h2
   rw [ZF] at this
   simpa using this
  ·rw [BitVec.getLsbD_of_ge _ _ (by omega)]; simp
theorem ag9 (high:Int) (u:aI) (w:World):Ok Pr OK [.int .i64 high,.int .u64 (u.toNat:Int)] w fun r w'=>r=.bool (fU high u)∧w'=w:=by
 refine afw ?_
 unfold Pt
 by_cases h:high<0∨1099511627776<high
 ·exact ite_true (by simpa using h) ⟨by unfold fU; rw [if_pos h],rfl⟩
 refine ite_false (by simpa using h) ?_
 obtain ⟨k,rfl⟩:∃ k:Nat,high=(k:Int):=⟨high.toNat,by omega⟩
 refine dm 0 64 (fun i w'=>(∀ j,k≤j→j<i→¬ bt u j=1)∧w'=w) rfl (by omega) ⟨fun j h1 h2=>by omega,rfl⟩ ?_ ?_
 ·rintro again i w1 _ hi ⟨l6,rfl⟩ aM
  refine ite_true (decide_eq_true (by omega)) ?_
  by_cases hk:k≤i
  ·refine ite_true (decide_eq_true (by omega)) (kM (by omega) ?_)
   rw [zL,JE]
   by_cases hb:bt u i=1
   ·refine ite_true (decide_eq_true (show ((u >>> i &&& 1).toNat:Int)=1 by
     have:u >>> i &&& 1=1:=hb
     rw [this]; rfl)) ⟨?_,rfl⟩
    have hz:¬ u >>> k=0:=fun f=>(XI u k).1 f i hk (by omega) hb
    have e:fU (k:Int) u=false:=by
     unfold fU
     rw [if_neg h]
     by_cases h0:(k:Int)=0
     ·rw [if_pos h0,decide_eq_false]
      intro f; exact hz (by rw [f]; simp)
     ·rw [if_neg h0,Int.toNat_natCast,decide_eq_false (fun f=>hz (f (by omega)))]; rfl
    rw [e]
   ·refine ite_false (decide_eq_false (show ¬ ((u >>> i &&& 1).toNat:Int)=1 from fun f=>hb (BN (y:=1) |>.1 f))) ⟨⟨by omega,by omega⟩,aM w1 ⟨fun j h1 h2=>?_,rfl⟩⟩
    rcases Nat.lt_or_ge j i with h3 | h3
    ·exact l6 j h1 h3
    ·rw [show j=i by omega]; exact hb
  ·refine ite_false (decide_eq_false (by omega)) ⟨⟨by omega,by omega⟩,aM w1 ⟨fun j h1 h2=>?_,rfl⟩⟩
   omega
 ·rintro again w1 ⟨l6,rfl⟩
  have hz:k<64→u >>> k=0:=fun hk=>(XI u k).2 fun i h1 h2=>l6 i h1 h2
  refine ite_false (decide_eq_false (by omega)) ⟨?_,rfl⟩
  rw [JE]
  congr 1
  unfold fU
  rw [if_neg h]
  by_cases h0:(k:Int)=0
  ·have:k=0:=by omega
   subst this
   have:=hz (by omega)
   rw [if_pos h0,decide_eq_true h0,decide_eq_true (show u=0 by simpa using this)]; rfl
  ·rw [if_neg h0,decide_eq_false h0,Int.toNat_natCast,decide_eq_true (fun f=>hz (by omega)),Bool.true_and,Bool.false_or]
   exact (decide_eq_decide.2 (BN (y:=1)))
end Go.Proofs.YtgjoehgomjgckaaGreatDoor
end
section
set_option linter.unusedVariables false
set_option linter.unusedSimpArgs false
namespace Go.Proofs.YtgjoehgomjgckaaGreatDoor
open Go Go.Ev
set_option maxRecDepth 20000
set_option linter.unusedVariables false
theorem U8 (x:ah) (ts:List cv) (id:Int) (w:World) (hx:fX w x ts):Ok Pr G0 [.slice x.a x.n x.c,.int .i64 id] w fun v w'=>v=.bool (aS 1 (ts.length:Int) id)∧w'=w:=by
 refine ad8 ?_
 unfold Nu
 have:=hx.len
 refine ⟨?_,rfl⟩
 rw [this]; rfl
theorem aha (x:ah) (ts:List cv) (hl:ts.length≤1000000) (w:World) (hx:fX w x ts):Ok Pr OI [.slice x.a x.n x.c] w fun v w'=>v=.bool (gL ts)∧Mod [] w w':=by
 refine afv ?_
 unfold Pp
 rw [YI]
 have bU:=hx.len
 by_cases h8:ts.length≤8
 case neg=>
  have eM:gL ts=false:=by unfold gL; rw [decide_eq_false h8]; rfl
  refine zo (fun i w'=>w'=w) (fun _ _=>0) rfl ?_
  rintro again i _ rfl aM
  exact ite_false (by rw [decide_eq_false (show ¬ ((x.n:Nat):Int)≤8 by omega),Bool.and_false]) ⟨by rw [eM,decide_eq_false (show ¬ ((x.n:Nat):Int)≤8 by omega)],Mod.refl _ _⟩
 have eM:gL ts=mQ ts ts.length:=by unfold gL; rw [decide_eq_true h8]; rfl
 refine dm 0 ts.length (fun i w'=>mQ ts i=true∧Mod [] w w') rfl (by omega) ⟨rfl,Mod.refl _ _⟩ ?_ ?_
 ·rintro again i w1 _ hi ⟨dV,m⟩ aM
  obtain ⟨dw,hc⟩:=(hx.aG m).at hi
  have hs:mQ ts (i+1)=(mQ ts i && nO ts i):=rfl
  have hF:nO ts i=(decide ((ts.getD i tz).id=(i:Int)+1) && (decide (min (i:Int) 1≤(ts.getD i tz).par) && (decide ((ts.getD i tz).par≤(i:Int)) && (qO (ts.getD i tz).name && !(ts.take i).any (lz (ts.getD i tz).par (ts.getD i tz).name))))):=rfl
  have no:∀ {w2:World},Mod [] w w2→nO ts i=false→(fun v w'=>v=Value.bool (gL ts)∧Mod [] w w') (.bool false) w2:=fun m h=>⟨by rw [eM,R1 h _ hi],m⟩
  generalize ts.getD i tz=t at *
  refine ite_true (by rw [decide_eq_true (show (i:Int)<((x.n:Nat):Int) by omega),decide_eq_true (show ((x.n:Nat):Int)≤8 by omega)]; rfl) ⟨dw,Dx hc ((ak.start w1).nw fun p w2 D _=>D.AY 0 rfl rfl fun w3 D=>?_)⟩
  refine D.an 0 rfl (au p 0) rfl ⟨⟨by omega,by omega⟩,D.gp 0 rfl (au p 2) rfl (D.gp 0 rfl (au p 2) rfl (D.an 0 rfl (au p 1) rfl (D.an 0 rfl (au p 1) rfl (D.an 0 rfl (au p 1) rfl ?_))))⟩
  have eN:qO t.name=true↔1≤t.name.size∧t.name.size≤300:=by
   unfold qO aS
   simp only [Bool.and_eq_true,decide_eq_true_eq]
   omega
  have eq:((decide (t.par=0)) == (decide ((i:Int)=0)))=decide (t.par=0↔(i:Int)=0):=by
   by_cases a:t.par=0 <;> by_cases b:(i:Int)=0 <;> simp [a,b]
  rw [eq]
  by_cases hg:t.id=(i:Int)+1∧min (i:Int) 1≤t.par∧t.par≤(i:Int)∧qO t.name=true
  case neg=>
   refine ite_true ?_ (no (m.trans D.mod) ?_)
   ·simp only [Bool.or_eq_true,Bool.not_eq_true',decide_eq_true_eq,decide_eq_false_iff_not]
    rw [eN] at hg
    omega
   ·rw [hF]
    cases hn:qO t.name with
    | false=>simp
    | true=>
     rw [hn] at hg
     simp only [Bool.and_eq_false_iff,decide_eq_false_iff_not]
     by_cases q1:t.id=(i:Int)+1
     ·by_cases q2:min (i:Int) 1≤t.par
      ·exact .inr (.inr (.inl fun q3=>hg ⟨q1,q2,q3,rfl⟩))
      ·exact .inr (.inl q2)
     ·exact .inl q1
  obtain ⟨g1,g2,g3,g4⟩:=hg
  rw [decide_eq_true g1,decide_eq_true g2,decide_eq_true g3,g4,Bool.true_and,Bool.true_and,Bool.true_and,Bool.true_and] at hF
  refine ite_false ?_ ?_
  ·simp only [Bool.or_eq_false_iff,Bool.not_eq_false',decide_eq_true_eq,decide_eq_false_iff_not]
   have:=eN.1 g4
   omega
  refine dm 0 i (fun kv w'=>(ts.take kv).any (lz t.par t.name)=false∧ak w1 [] w' [.av p (ku t.id t.par t.name) dh]) rfl (by omega) ⟨rfl,D⟩ ?_ ?_
  ·rintro k9 kv w4 _ hkv ⟨hn,D⟩ iU
   have D:=D.drew
   obtain ⟨aaA,hck⟩:=(hx.aG (m.trans D.mod)).at (i:=kv) (by omega)
   have tX:=AZ (lz t.par t.name) ts kv (by omega) tz
   have anO:lz t.par t.name (ts.getD kv tz)=true→(ts.take i).any (lz t.par t.name)=true:=fun h=>by
    have h1:=A0 (lz t.par t.name) (ts.take i) kv (by rw [List.length_take]; omega) tz (by
     rw [List.getD_eq_getElem?_getD,List.getElem?_take,if_pos hkv,← List.getD_eq_getElem?_getD]; exact h)
    exact h1
   generalize ts.getD kv tz=q at *
   refine ite_true (decide_eq_true (by omega)) ⟨aaA,_,hck 1 _ rfl,D.an 0 rfl (au p 1) rfl ?_⟩
   by_cases hp:q.par=t.par
   ·refine ite_true (decide_eq_true hp) ⟨aaA,_,hck 2 _ rfl,D.gp 0 rfl (au p 2) rfl ?_⟩
    by_cases hq:q.name=t.name
    ·have hsm:lz t.par t.name q=true:=by unfold lz; rw [decide_eq_true hp,decide_eq_true hq]; rfl
     exact ite_true (decide_eq_true hq) (no (m.trans D.mod) (by rw [hF,anO hsm]; rfl))
    ·exact ite_false (decide_eq_false hq) ⟨⟨by omega,by omega⟩,iU _ ⟨by rw [tX,hn]; unfold lz; rw [decide_eq_false hq,Bool.and_false]; rfl,D⟩⟩
   ·exact ite_false (decide_eq_false hp) ⟨⟨by omega,by omega⟩,iU _ ⟨by rw [tX,hn]; unfold lz; rw [decide_eq_false hp]; rfl,D⟩⟩
  ·rintro k9 w4 ⟨hn,D⟩
   exact ite_false (decide_eq_false (by omega)) ⟨⟨by omega,by omega⟩,aM _ ⟨by rw [hs,dV,hF,hn]; rfl,m.trans D.mod⟩⟩
 ·rintro again w1 ⟨dV,m⟩
  exact ite_false (by rw [decide_eq_false (show ¬ ((ts.length:Nat):Int)<((x.n:Nat):Int) by omega)]; rfl) ⟨by rw [eM,dV,decide_eq_true (show ((x.n:Nat):Int)≤8 by omega)],m⟩
end Go.Proofs.YtgjoehgomjgckaaGreatDoor
end
section
set_option linter.unusedVariables false
set_option linter.unusedSimpArgs false
namespace Go.Proofs.YtgjoehgomjgckaaGreatDoor
open Go Go.Ev
set_option maxRecDepth 20000
set_option linter.unusedVariables false
theorem aeg (v:bq) (x:ah) (n:Int) (w:World) (hx:jM w x v):Ok Pr LX [.agg ⟨v.cs x⟩,.int .i64 n] w fun r w'=>r=.bool (gl v n)∧Mod [] w w':=by
 refine adl ?_
 unfold Mk
 have bU:=Bytes.len hx
 refine (ak.start w).nw fun p w1 H _=>?_
 have H:ak w [] w1 [.av p (uQ v.n v.st v.due x) cw]:=H
 refine H.an 0 rfl (au p 0) rfl (H.an 0 rfl (au p 1) rfl (H.an 0 rfl (au p 1) rfl ?_))
 have hM:gl v n=(decide (v.n=n) && (if v.st=3 then aS 1 1099511627776 v.due && decide (v.aq.length=64) else if v.st=4 then decide (v.due=0) && decide (v.aq.length=0) else if v.st=1∨v.st=2 then decide (v.due=0) && decide (v.aq.length=64) else false)):=rfl
 by_cases h1:v.n=n
 case neg=>
  rw [decide_eq_false h1,Bool.false_and] at hM
  exact ite_true (by rw [decide_eq_false h1]; rfl) ⟨by rw [hM],H.mod⟩
 rw [decide_eq_true h1,Bool.true_and] at hM
 by_cases hs:1≤v.st∧v.st≤4
 case neg=>
  rw [if_neg (by omega),if_neg (by omega),if_neg (by omega)] at hM
  refine ite_true ?_ ⟨by rw [hM],H.mod⟩
  by_cases h:v.st<1
  ·rw [decide_eq_true h,Bool.or_true,Bool.true_or]
  ·rw [decide_eq_true (show 4<v.st by omega),Bool.or_true]
 refine ite_false (by rw [decide_eq_true h1,decide_eq_false (show ¬ v.st<1 by omega),decide_eq_false (show ¬ 4<v.st by omega)]; rfl) (H.an 0 rfl (au p 1) rfl (H.ax 0 rfl (au p 3) rfl (H.an 0 rfl (au p 1) rfl (H.ax 0 rfl (au p 3) rfl ?_))))
 have TW:decide (((x.n:Nat):Int)=64)=decide (v.aq.length=64):=decide_eq_decide.2 (by omega)
 have e0:decide (((x.n:Nat):Int)=0)=decide (v.aq.length=0):=decide_eq_decide.2 (by omega)
 rw [TW,e0]
 by_cases h4:v.st=4
 ·rw [if_neg (by omega),if_pos h4] at hM
  by_cases h:v.aq.length=0
  ·rw [decide_eq_true h,Bool.and_true] at hM
   exact ite_false (by rw [decide_eq_true h4,decide_eq_true h]; rfl) (H.an 0 rfl (au p 1) rfl (ite_false (decide_eq_false (by omega)) (H.an 0 rfl (au p 2) rfl ⟨by rw [hM],H.mod⟩)))
  ·rw [decide_eq_false h,Bool.and_false] at hM
   exact ite_true (by rw [decide_eq_true h4,decide_eq_false h]; rfl) ⟨by rw [hM],H.mod⟩
 ·by_cases h:v.aq.length=64
  ·rw [decide_eq_true h,Bool.and_true,Bool.and_true] at hM
   refine ite_false (by rw [decide_eq_false h4,decide_eq_true h]; rfl) (H.an 0 rfl (au p 1) rfl ?_)
   by_cases h3:v.st=3
   ·rw [if_pos h3] at hM
    exact ite_true (decide_eq_true h3) (H.an 0 rfl (au p 2) rfl (H.an 0 rfl (au p 2) rfl ⟨by rw [hM]; rfl,H.mod⟩))
   ·rw [if_neg h3,if_neg h4,if_pos (by omega)] at hM
    exact ite_false (decide_eq_false h3) (H.an 0 rfl (au p 2) rfl ⟨by rw [hM],H.mod⟩)
  ·rw [decide_eq_false h,Bool.and_false,Bool.and_false,if_neg h4] at hM
   refine ite_true (by rw [decide_eq_false h4,decide_eq_false h]; rfl) ⟨?_,H.mod⟩
   rw [hM]
   split
   ·rfl
   ·split <;> rfl
theorem ahb (k:aP) (x:ah) (hl:k.aH.length≤1000000) (w:World) (hx:gh w x k.aH):Ok Pr OL [.agg ⟨k.cs x⟩] w fun r w'=>r=.bool (cL k)∧Mod [] w w':=by
 refine afx ?_
 unfold Pu
 have bU:=hx.len
 refine (ak.start w).nw fun p w1 H _=>?_
 have H:ak w [] w1 [.av p (dH k.id k.ten k.set x) aV]:=H
 refine H.an 0 rfl (au p 0) rfl (H.an 0 rfl (au p 0) rfl (H.an 0 rfl (au p 1) rfl (H.an 0 rfl (au p 1) rfl (H.an 0 rfl (au p 2) rfl (H.an 0 rfl (au p 2) rfl (H.ax 0 rfl (au p 3) rfl (H.ax 0 rfl (au p 3) rfl ?_)))))))
 by_cases h:(1≤k.id∧k.id≤6)∧(1≤k.ten∧k.ten≤8)∧(1≤k.set∧k.set≤3)∧(1≤k.aH.length∧k.aH.length≤5)
 case neg=>
  refine ite_true ?_ ⟨?_,H.mod⟩
  ·simp only [Bool.or_eq_true,decide_eq_true_eq]; omega
  ·have:cL k=false:=Bool.eq_false_iff.2 fun hm=>by
    obtain ⟨a,b,c,d,_⟩:=vm hm
    exact h ⟨a,b,c,d⟩
   rw [this]
 obtain ⟨h1,h2,h3,h4⟩:=h
 refine ite_false ?_ ?_
 ·simp only [Bool.or_eq_false_iff,decide_eq_false_iff_not]; omega
 have eK:cL k=mz k.aH k.aH.length:=by
  unfold cL aS
  rw [decide_eq_true h1.1,decide_eq_true h1.2,decide_eq_true h2.1,decide_eq_true h2.2,decide_eq_true h3.1,decide_eq_true h3.2,decide_eq_true (show (1:Int)≤(k.aH.length:Int) by omega),decide_eq_true (show (k.aH.length:Int)≤5 by omega)]
  simp
 refine dm 0 k.aH.length (fun i w'=>mz k.aH i=true∧ak w [] w' [.av p (dH k.id k.ten k.set x) aV]) rfl (by omega) ⟨rfl,H⟩ ?_ ?_
 ·rintro again i w3 _ hi ⟨dV,H⟩ aM
  have ha:k.aH[i]? = some (k.aH.getD i vz):=by rw [List.getD_eq_getElem?_getD,List.getElem?_eq_getElem hi]; rfl
  obtain ⟨dw,y,hy,hc⟩:=Dv.at bq.cz (by omega) (hx.aG H.mod) ha
  have hs:mz k.aH (i+1)=(mz k.aH i && gl (k.aH.getD i vz) ((i:Int)+1)):=rfl
  have dz:=RZ (vs:=k.aH) (i:=i)
  generalize k.aH.getD i vz=v at *
  refine H.ax 0 rfl (au p 3) rfl (ite_true (decide_eq_true (by omega)) (H.ax 0 rfl (au p 3) rfl ⟨dw,uO hc ⟨⟨by omega,by omega⟩,aB (aeg v y _ _ hy) ?_⟩⟩))
  rintro _ w6 ⟨rfl,m6⟩
  refine bz ?_
  cases hv:gl v ((i:Int)+1) with
  | false=>exact ite_true rfl ⟨by rw [eK,dz hv _ hi],H.mod.trans m6⟩
  | true=>exact ite_false rfl ⟨⟨by omega,by omega⟩,aM _ ⟨by rw [hs,dV,hv]; rfl,H.frame m6⟩⟩
 ·rintro again w3 ⟨dV,H⟩
  exact H.ax 0 rfl (au p 3) rfl (ite_false (decide_eq_false (by omega)) ⟨by rw [eK,dV],H.mod⟩)
theorem agD (k:aP) (x:ah) (hl:k.aH.length≤1000) (hs:∀ v∈k.aH,v.aq.length≤1000000) (w:World) (hx:gh w x k.aH):Ok Pr NL [.agg ⟨k.cs x⟩] w fun r w'=>∃ y:ah,r=.agg ⟨k.cs y⟩∧JD w w' y k.aH:=by
 refine aeL ?_
 unfold Ou
 rw [pM]
 have bU:=hx.len
 obtain ⟨xs,dU,cD⟩:=hx
 refine (ak.start w).nw fun p w1 H _=>H.nw fun p1 w2 H _=>?_
 have H:ak w [] w2 [.av p (dH k.id k.ten k.set x) aV,.av p1 [.int .i64 0,.int .i64 0,.int .i64 0,.slice none 0 0] aV]:=H
 refine H.ax 0 rfl (au p 3) rfl (H.clone Rz (dU.aG H.mod) (vh bq.l7 k.aH xs) (by omega) (by omega) fun y w3 H ym=>?_)
 refine H.st 0 rfl (au p 3) (by show 3<4; omega) rfl fun w4 H=>?_
 have H:ak w [] w4 ([.av p (dH k.id k.ten k.set y) aV,.av p1 [.int .i64 0,.int .i64 0,.int .i64 0,.slice none 0 0] aV] ++ [.row cw 4 y (bh bq.cs k.aH xs)]):=H
 refine dm 0 k.aH.length (fun i w'=>gq bq.cs 4 iB cw w [] [.av p (dH k.id k.ten k.set y) aV,.av p1 [.int .i64 0,.int .i64 0,.int .i64 0,.slice none 0 0] aV] w' y k.aH xs i) rfl (by omega) (gq.start H) ?_ ?_
 ·intro again i w5 _ hi R aM
  refine R.front.ax 0 rfl (au p 3) rfl (ite_true (decide_eq_true (by omega)) ?_)
  have R:=R.frame (Mod.drew [] w5)
  have ha:k.aH[i]? = some k.aH[i]:=List.getElem?_eq_getElem hi
  have dA:xs[i]? = some (xs[i]'(by rw [cD.1]; exact hi)):=List.getElem?_eq_getElem _
  have gY:=hs _ (List.getElem_mem hi)
  have sS:=cD.2 i _ _ dA ha
  obtain ⟨dw,hc⟩:=R.at bq.cz (by omega) cD.1 ha dA
  generalize k.aH[i]=v at *
  generalize xs[i]'(by rw [cD.1]; exact hi)=z at *
  have F:=R.front
  have hb:jM w5.drew z v:=Bytes.aG sS F.mod
  have qo:=Bytes.len hb
  refine F.ax 0 rfl (au p 3) rfl (F.ax 0 rfl (au p 3) rfl ⟨dw,z,hc 3 z.v rfl,(ak.start w5.drew).RQ iK hb (by omega) fun u w6 U hu=>?_⟩)
  have Gr:fK w5.drew w6 fun w=>iB w u v:=U.boxed fun w' h=>h 0 _ rfl
  exact ⟨F.jY 0 rfl Gr.mod 3,dw,R.step bq.cz cD.1 ha dA Gr (by omega:3<4) (Rn v z u) fun w7 R=>⟨⟨by omega,by omega⟩,aM w7 R⟩⟩
 ·intro again w5 R
  refine R.front.ax 0 rfl (au p 3) rfl (ite_false (decide_eq_false (by omega)) ?_)
  obtain ⟨ys,fp,H⟩:=R.done rfl cD.1
  exact H.bA 0 rfl (H.cF 1 rfl rfl fun w8 H=>H.bA 1 rfl ⟨y,rfl,ys,fp,H.drop 2⟩)
end Go.Proofs.YtgjoehgomjgckaaGreatDoor
end
section
set_option linter.unusedVariables false
set_option linter.unusedSimpArgs false
namespace Go.Proofs.YtgjoehgomjgckaaGreatDoor
open Go Go.Ev
set_option maxRecDepth 20000
set_option linter.unusedVariables false
theorem YN:zc Pr eu=lQ 0 0 ⟨none,0,0⟩ 0 0:=by kernel_rfl
theorem tH:zc Pr aN=k5 0 ⟨none,0,0⟩ ⟨none,0,0⟩ ⟨none,0,0⟩ ⟨none,0,0⟩ ⟨none,0,0⟩:=by kernel_rfl
def p8 (t:aR) (i:Nat) (p:ct):Bool:=decide (p.id=(i:Int)+1) && (aS 1 (t.bP.length:Int) p.ten && (decide (p.key.length=jD 1) && fU p.high p.used))
def l9 (t:aR):Nat→Bool
 | 0=>true
 | i+1=>l9 t i && p8 t i (t.aE.getD i fF)
def kB (t:aR) (i:Nat) (k:aP):Bool:=decide (k.id=(i:Int)+1) && (aS 1 (t.bP.length:Int) k.ten && cL k)
def mh (t:aR):Nat→Bool
 | 0=>true
 | i+1=>mh t i && kB t i (t.keys.getD i kz)
def p9 (t:aR) (g:bQ):Bool:=decide ((t.keys.length:Int)<g.n1) || decide ((t.aE.length:Int)<g.n2)
def Am (t:aR):Bool:=aS 0 1099511627776 t.clock && (decide (t.bG.length=32) && (decide (1≤t.bP.length) && (gL t.bP && (aS 1 6 (t.aE.length:Int) && (decide (t.keys.length≤6) && gy t.br)))))
def fE (t:aR):Bool:=Am t && (l9 t t.aE.length && (mh t t.keys.length && !t.br.any (p9 t)))
theorem RF {t:aR} {i:Nat} (h:p8 t i (t.aE.getD i fF)=false):∀ n,i<n→l9 t n=false
 | 0,hn=>by omega
 | n+1,hn=>by
  show (l9 t n && _)=false
  rcases Nat.lt_or_ge i n with h2 | h2
  ·rw [RF h n h2,Bool.false_and]
  ·rw [show n=i by omega,h,Bool.and_false]
theorem RG {t:aR} {i:Nat} (h:kB t i (t.keys.getD i kz)=false):∀ n,i<n→mh t n=false
 | 0,hn=>by omega
 | n+1,hn=>by
  show (mh t n && _)=false
  rcases Nat.lt_or_ge i n with h2 | h2
  ·rw [RG h n h2,Bool.false_and]
  ·rw [show n=i by omega,h,Bool.and_false]
theorem uH.at {w:World} {s:ah} {ps:List ct} (h:uH w s ps) {i:Nat} (hi:i<ps.length) :
  (s.a.isSome=true∧(0:Int)≤(i:Int)∧(i:Int)<(s.n:Int))∧∃ x:ah,Bytes w x (ps.getD i fF).key∧∀ (j:Nat) (v:Value),((ps.getD i fF).cs x)[j]? = some v→w.cell? (Addr.add (Addr.add (base s.a) (Int.toNat (i:Int) * 5)) j)=some v:=
 Dv.at ct.cz (by omega) h (by rw [List.getD_eq_getElem?_getD,List.getElem?_eq_getElem hi]; rfl)
theorem xW.at {w:World} {s:ah} {ks:List aP} (h:xW w s ks) {i:Nat} (hi:i<ks.length) :
  (s.a.isSome=true∧(0:Int)≤(i:Int)∧(i:Int)<(s.n:Int))∧∃ x:ah,gh w x (ks.getD i kz).aH∧∀ (j:Nat) (v:Value),((ks.getD i kz).cs x)[j]? = some v→w.cell? (Addr.add (Addr.add (base s.a) (Int.toNat (i:Int) * 4)) j)=some v:=
 Dv.at aP.cz (by omega) h (by rw [List.getD_eq_getElem?_getD,List.getElem?_eq_getElem hi]; rfl)
theorem vo {t:aR} (hs:t.small) {i:Nat} (hi:i<t.keys.length):(t.keys.getD i kz).aH.length≤1000:=by
 refine hs.bu _ ?_
 rw [List.getD_eq_getElem?_getD,List.getElem?_eq_getElem hi]
 exact List.getElem_mem hi
def ZG (w:World) (g:Value) (p:bQ→Bool):Prop:=∀ (t:bQ) (w':World),Mod [] w w'→lX Pr g [.agg ⟨t.cells⟩] w' fun v fA=>v=.bool (p t)∧Mod [] w' fA
theorem acn (g:Value) (p:bQ→Bool) (x:ah) (ts:List bQ) (hl:ts.length≤1000000000) (w:World) (hx:gU w x ts) (hg:ZG w g p) :
  Ok Pr Dn [.slice x.a x.n x.c,g] w fun v w'=>∃ z:Int,v=.int .i64 z∧decide (0≤z)=ts.any p∧Mod [] w w':=by
 refine Ur ?_
 unfold GA
 have bU:=hx.len
 refine dm 0 ts.length (fun i w'=>(ts.take i).any p=false∧Mod [] w w') rfl (by omega) ⟨rfl,Mod.refl _ _⟩ ?_ ?_
 ·rintro again i w1 _ hi ⟨hn,m⟩ aM
  refine ite_true (decide_eq_true (by omega)) ((hx.aG m).ld hi rfl (D6 (hg _ w1 m) ?_))
  rintro _ w2 ⟨rfl,m2⟩
  refine bz (bV (fun hc=>?_) (fun hc=>?_))
  ·exact ⟨_,rfl,by rw [A0 p ts i hi gz hc]; exact decide_eq_true (by omega),m.trans m2⟩
  ·exact ⟨⟨by omega,by omega⟩,aM w2 ⟨by rw [AZ p ts i hi gz,hn,hc]; rfl,m.trans m2⟩⟩
 ·rintro again w1 ⟨hn,m⟩
  rw [List.take_of_length_le (Nat.le_refl _)] at hn
  exact ite_false (decide_eq_false (by omega)) ⟨_,rfl,by rw [hn]; rfl,m⟩
theorem ace (g:Value) (p:bQ→Bool) (x:ah) (ts:List bQ) (hl:ts.length≤1000000000) (w:World) (hx:gU w x ts) (hg:ZG w g p) :
  Ok Pr Kt [.slice x.a x.n x.c,g] w fun v w'=>v=.bool (ts.any p)∧Mod [] w w':=by
 refine abU ?_
 unfold Ku
 refine aB (acn g p x ts hl w hx hg) ?_
 rintro _ w1 ⟨z,rfl,hz,m⟩
 exact eE ⟨by rw [hz],m⟩
theorem aik:jx Pr MQ=true:=by kernel_rfl
theorem VG (s:dZ) (t:aR) (hs:t.small) (w:World) (hx:gC w s t):Ok Pr Hr [.agg ⟨t.cs s⟩] w fun v w'=>v=.bool (fE t)∧Mod [] w w':=by
 refine afu ?_
 unfold Po
 rw [YN,pM]
 have TY:=hx.sec.len
 have wD:=hx.ten.len
 have rC:=hx.aE.len
 have uI:=hx.key.len
 have Kh:=hx.gr.len
 have yB:=hs.ten
 have yC:=hs.aE
 have wE:=hs.key
 have AM:=hs.gr
 refine (ak.start w).nw fun p w1 H _=>?_
 have H:ak w [] w1 [.av p (t.cs s) aN]:=H
 have no:∀ {w2:World},Mod [] w w2→fE t=false→(fun v w'=>v=Value.bool (fE t)∧Mod [] w w') (.bool false) w2:=fun m h=>⟨by rw [h],m⟩
 refine jJ fun go bY=>?_
 have Tj:∀ w2,Mod [] w1 w2→Am t=true→go w2:=by
  intro w2 m2 hp
  refine bY w2 (aB (Vs 1 w2) ?_)
  have eM:fE t=(l9 t t.aE.length && (mh t t.keys.length && !t.br.any (p9 t))):=by unfold fE; rw [hp]; rfl
  rintro _ w3 ⟨rfl,m3⟩
  have H:=H.frame (m2.trans m3)
  refine ⟨_,rfl,_,rfl,_,rfl,_,rfl,rfl,H.ax 0 rfl (au p 3) rfl ?_⟩
  refine dm 0 t.aE.length (fun i w'=>l9 t i=true∧ak w [] w' [.av p (t.cs s) aN]) rfl (by omega) ⟨rfl,H⟩ ?_ ?_
  ·rintro again i w4 _ hi ⟨dV,H⟩ aM
   obtain ⟨dw,x,uJ,hc⟩:=(hx.aE.aG H.mod).at hi
   have hS:l9 t (i+1)=(l9 t i && p8 t i (t.aE.getD i fF)):=rfl
   have hN:=RF (t:=t) (i:=i)
   have nn:∀ {w2:World},Mod [] w w2→p8 t i (t.aE.getD i fF)=false→(fun v w'=>v=Value.bool (fE t)∧Mod [] w w') (.bool false) w2:=fun m h=>no m (by rw [eM,hN h _ hi]; rfl)
   have bO:=uJ.len
   have hP:p8 t i (t.aE.getD i fF)=(decide ((t.aE.getD i fF).id=(i:Int)+1) && (aS 1 (t.bP.length:Int) (t.aE.getD i fF).ten && (decide ((t.aE.getD i fF).key.length=jD 1) && fU (t.aE.getD i fF).high (t.aE.getD i fF).used))):=rfl
   generalize t.aE.getD i fF=q at *
   refine ite_true (decide_eq_true (by omega)) ⟨dw,UJ hc (H.nw fun p1 w5 D _=>D.AW 1 rfl rfl fun w6 D=>?_)⟩
   have D:ak w [] w6 [.av p (t.cs s) aN,.av p1 (q.cs x) eu]:=D
   refine D.an 1 rfl (au p1 0) rfl ⟨⟨by omega,by omega⟩,D.an 1 rfl (au p1 1) rfl (D.ax 0 rfl (au p 2) rfl ?_)⟩
   by_cases e1:q.id=(i:Int)+1
   case neg=>
    refine ite_true (by rw [decide_eq_false e1]; rfl) (D.ax 1 rfl (au p1 2) rfl (D.an 1 rfl (au p1 3) rfl (D.an 1 rfl (au p1 4) rfl (nn D.mod ?_))))
    rw [hP,decide_eq_false e1]; rfl
   refine ite_false (by rw [decide_eq_true e1]; rfl) (aB (HG _ _ _ _) ?_)
   rintro _ w7 ⟨rfl,sW⟩
   subst sW
   refine bz (D.ax 1 rfl (au p1 2) rfl (D.an 1 rfl (au p1 3) rfl (D.an 1 rfl (au p1 4) rfl ?_)))
   have e2:aS 1 (s.ten.n:Int) q.ten=aS 1 (t.bP.length:Int) q.ten:=by rw [wD]
   rw [e2]
   have e3:(decide ((x.n:Int)=(jD 1:Int)))=decide (q.key.length=jD 1):=by
    by_cases h:q.key.length=jD 1
    ·rw [decide_eq_true h]; exact decide_eq_true (by omega)
    ·rw [decide_eq_false h]; exact decide_eq_false (by omega)
   rw [e3]
   rw [decide_eq_true e1,Bool.true_and] at hP
   cases c1:aS 1 (t.bP.length:Int) q.ten with
   | false=>exact ite_true rfl (nn D.mod (by rw [hP,c1]; rfl))
   | true=>
    rw [c1,Bool.true_and] at hP
    cases c2:decide (q.key.length=jD 1) with
    | false=>exact ite_true rfl (nn D.mod (by rw [hP,c2]; rfl))
    | true=>
     rw [c2,Bool.true_and] at hP
     refine ite_false rfl (aB (Ny _ _ _) ?_)
     rintro _ w8 ⟨rfl,Gs⟩
     subst Gs
     refine bz ?_
     cases c3:fU q.high q.used with
     | false=>exact ite_true rfl (nn D.mod (by rw [hP,c3]))
     | true=>exact ite_false rfl ⟨⟨by omega,by omega⟩,aM _ ⟨by rw [hS,dV,hP,c3]; rfl,D.front (L:=[_])⟩⟩
  ·rintro again w4 ⟨TZ,H⟩
   rw [TZ,Bool.true_and] at eM
   refine ite_false (decide_eq_false (by omega)) (H.ax 0 rfl (au p 4) rfl ?_)
   refine dm 0 t.keys.length (fun i w'=>mh t i=true∧ak w [] w' [.av p (t.cs s) aN]) rfl (by omega) ⟨rfl,H⟩ ?_ ?_
   ·rintro again i w4 _ hi ⟨dV,H⟩ aM
    obtain ⟨dw,x,uJ,hc⟩:=hx.key.at hi
    have hS:mh t (i+1)=(mh t i && kB t i (t.keys.getD i kz)):=rfl
    have hN:=RG (t:=t) (i:=i)
    have nn:∀ {w2:World},Mod [] w w2→kB t i (t.keys.getD i kz)=false→(fun v w'=>v=Value.bool (fE t)∧Mod [] w w') (.bool false) w2:=fun m h=>no m (by rw [eM,hN h _ hi]; rfl)
    have ux:=vo hs hi
    have hP:kB t i (t.keys.getD i kz)=(decide ((t.keys.getD i kz).id=(i:Int)+1) && (aS 1 (t.bP.length:Int) (t.keys.getD i kz).ten && cL (t.keys.getD i kz))):=rfl
    generalize t.keys.getD i kz=q at *
    refine ite_true (decide_eq_true (by omega)) ⟨dw,qF (fun j v h=>H.mod.pP (hc j v h)) (H.nw fun p1 w5 D _=>D.cF 1 rfl rfl fun w6 D=>?_)⟩
    have D:ak w [] w6 [.av p (t.cs s) aN,.av p1 (dH q.id q.ten q.set x) aV]:=D
    refine D.an 1 rfl (au p1 0) rfl ⟨⟨by omega,by omega⟩,D.an 1 rfl (au p1 1) rfl (D.ax 0 rfl (au p 2) rfl ?_)⟩
    by_cases e1:q.id=(i:Int)+1
    case neg=>
     refine ite_true (by rw [decide_eq_false e1]; rfl) (D.bA 1 rfl (nn D.mod ?_))
     rw [hP,decide_eq_false e1]; rfl
    refine ite_false (by rw [decide_eq_true e1]; rfl) (aB (HG _ _ _ _) ?_)
    rintro _ w7 ⟨rfl,sW⟩
    subst sW
    refine bz (D.bA 1 rfl ?_)
    have e2:aS 1 (s.ten.n:Int) q.ten=aS 1 (t.bP.length:Int) q.ten:=by rw [wD]
    rw [e2]
    rw [decide_eq_true e1,Bool.true_and] at hP
    cases c1:aS 1 (t.bP.length:Int) q.ten with
    | false=>exact ite_true rfl (nn D.mod (by rw [hP,c1]; rfl))
    | true=>
     rw [c1,Bool.true_and] at hP
     refine ite_false rfl (aB (wV q x (by omega) _ (uJ.aG D.mod)) ?_)
     rintro _ w8 ⟨rfl,m8⟩
     refine bz ?_
     cases c3:cL q with
     | false=>exact ite_true rfl (nn (D.mod.trans m8) (by rw [hP,c3]))
     | true=>exact ite_false rfl ⟨⟨by omega,by omega⟩,aM _ ⟨by rw [hS,dV,hP,c3]; rfl,(D.front (L:=[_])).frame m8⟩⟩
   ·rintro again w4 ⟨T3,H⟩
    rw [T3,Bool.true_and] at eM
    refine ite_false (decide_eq_false (by omega)) (H.ax 0 rfl (au p 5) rfl (aB (ace _ (p9 t) s.gr t.br (by omega) w4 (hx.gr.aG H.mod) fun g w5 m=>?_) ?_))
    ·refine zu aik (ad7 ?_)
     unfold Nt
     have b1:bX w5 p (t.cs s) aN:=(H.frame m).av 0 rfl
     refine (ak.start w5).nw fun q w6 K _=>?_
     have c1:=b1.aG K.mod
     refine K.an 0 rfl (au q 1) rfl (c1.ax rfl rfl (K.an 0 rfl (au q 2) rfl (c1.ax rfl rfl ⟨?_,K.mod⟩)))
     unfold p9
     rw [uI,rC]
    ·rintro _ w5 ⟨rfl,m⟩
     exact bz ⟨by rw [eM],H.mod.trans m⟩
 refine H.an 0 rfl (au p 0) rfl (aB (HG _ _ _ _) ?_)
 rintro _ w2 ⟨rfl,rA⟩
 subst rA
 refine bz (H.ax 0 rfl (au p 1) rfl (H.ax 0 rfl (au p 2) rfl (H.ax 0 rfl (au p 2) rfl ?_)))
 have eP:Am t=(aS 0 1099511627776 t.clock && (decide (t.bG.length=32) && (decide (1≤t.bP.length) && (gL t.bP && (aS 1 6 (t.aE.length:Int) && (decide (t.keys.length≤6) && gy t.br)))))):=rfl
 have AN:∀ {w2:World},Mod [] w w2→Am t=false→(fun v w'=>v=Value.bool (fE t)∧Mod [] w w') (.bool false) w2:=fun m h=>no m (by unfold fE; rw [h]; rfl)
 have e1:decide ((s.sec.n:Int)=32)=decide (t.bG.length=32):=by
  by_cases h:t.bG.length=32
  ·rw [decide_eq_true h]; exact decide_eq_true (by omega)
  ·rw [decide_eq_false h]; exact decide_eq_false (by omega)
 have e2:decide ((s.ten.n:Int)=0)=!decide (1≤t.bP.length):=by
  by_cases h:1≤t.bP.length
  ·rw [decide_eq_true h]; exact decide_eq_false (by omega)
  ·rw [decide_eq_false h]; exact decide_eq_true (by omega)
 rw [e1,e2]
 cases c1:aS 0 1099511627776 t.clock with
 | false=>exact ite_true rfl (H.ax 0 rfl (au p 3) rfl (H.ax 0 rfl (au p 4) rfl (H.ax 0 rfl (au p 5) rfl (AN H.mod (by rw [eP,c1]; rfl)))))
 | true=>
 cases c2:decide (t.bG.length=32) with
 | false=>exact ite_true rfl (H.ax 0 rfl (au p 3) rfl (H.ax 0 rfl (au p 4) rfl (H.ax 0 rfl (au p 5) rfl (AN H.mod (by rw [eP,c1,c2]; rfl)))))
 | true=>
 cases c3:decide (1≤t.bP.length) with
 | false=>exact ite_true rfl (H.ax 0 rfl (au p 3) rfl (H.ax 0 rfl (au p 4) rfl (H.ax 0 rfl (au p 5) rfl (AN H.mod (by rw [eP,c1,c2,c3]; rfl)))))
 | true=>
 rw [c1,c2,c3,Bool.true_and,Bool.true_and,Bool.true_and] at eP
 refine ite_false rfl (aB (MM s.ten t.bP (by omega) _ (hx.ten.aG H.mod)) ?_)
 rintro _ w3 ⟨rfl,m3⟩
 have H:=H.frame m3
 refine bz (H.ax 0 rfl (au p 3) rfl ?_)
 cases c4:gL t.bP with
 | false=>exact ite_true rfl (H.ax 0 rfl (au p 4) rfl (H.ax 0 rfl (au p 5) rfl (AN H.mod (by rw [eP,c4]; rfl))))
 | true=>
 rw [c4,Bool.true_and] at eP
 refine ite_false rfl (aB (HG _ _ _ _) ?_)
 rintro _ w4 ⟨rfl,T4⟩
 subst T4
 refine bz (H.ax 0 rfl (au p 4) rfl (H.ax 0 rfl (au p 5) rfl ?_))
 have e3:aS 1 6 (s.aE.n:Int)=aS 1 6 (t.aE.length:Int):=by rw [rC]
 have e4:decide (6<(s.key.n:Int))=!decide (t.keys.length≤6):=by
  by_cases h:t.keys.length≤6
  ·rw [decide_eq_true h]; exact decide_eq_false (by omega)
  ·rw [decide_eq_false h]; exact decide_eq_true (by omega)
 rw [e3,e4]
 cases c5:aS 1 6 (t.aE.length:Int) with
 | false=>exact ite_true rfl (AN H.mod (by rw [eP,c5]; rfl))
 | true=>
 cases c6:decide (t.keys.length≤6) with
 | false=>exact ite_true rfl (AN H.mod (by rw [eP,c5,c6]; rfl))
 | true=>
 rw [c5,c6,Bool.true_and,Bool.true_and] at eP
 refine ite_false rfl (aB (Hf s.gr t.br (by omega) _ (hx.gr.aG H.mod)) ?_)
 rintro _ w5 ⟨rfl,m5⟩
 refine bz ?_
 cases c7:gy t.br with
 | false=>exact ite_true rfl (AN (H.mod.trans m5) (by rw [eP,c7]))
 | true=>exact ite_false rfl (Tj _ (m3.trans m5) (by rw [eP,c7]))
end Go.Proofs.YtgjoehgomjgckaaGreatDoor
end
section
set_option linter.unusedVariables false
set_option linter.unusedSimpArgs false
namespace Go.Proofs.YtgjoehgomjgckaaGreatDoor
open Go Go.Ev
set_option maxRecDepth 20000
set_option linter.unusedVariables false
def T5 (a x:Int):Int:=if a / 2<x % a then x % a - a else x % a
def GG (g:Int):Prop:=g=95232∨g=261888
def aaB (g x:Int):Int:=if x % 8380417 - T5 (2 * g) (x % 8380417)=8380416 then T5 (2 * g) (x % 8380417) - 1 else T5 (2 * g) (x % 8380417)
end Go.Proofs.YtgjoehgomjgckaaGreatDoor
end
section
set_option linter.unusedVariables false
set_option linter.unusedSimpArgs false
namespace Go.Proofs.YtgjoehgomjgckaaGreatDoor
open Go Go.Ev
set_option maxRecDepth 20000
set_option linter.unusedVariables false
def part (G:Nat→Int) (n i:Nat):List Int:=(List.range i).map G ++ List.replicate (n - i) 0
end Go.Proofs.YtgjoehgomjgckaaGreatDoor
end
section
set_option linter.unusedVariables false
set_option linter.unusedSimpArgs false
namespace Go.Proofs.YtgjoehgomjgckaaGreatDoor
open Go Go.Ev
set_option maxRecDepth 20000
set_option linter.unusedVariables false
structure anP (s:pY):Prop where
 k0:0<s.k
 k:s.k≤8
 l0:0<s.l
 l:s.l≤7
 eta:(s.eta:Int)=2∨(s.eta:Int)=4
 c:s.c≤64
theorem anQ {set:Int} (h:isSet set=true):anP (dO set):=by
 unfold isSet at h
 simp only [Bool.or_eq_true,decide_eq_true_eq] at h
 rcases h with rfl | rfl | rfl
 ·exact ⟨by decide,by decide,by decide,by decide,.inl rfl,by decide⟩
 ·exact ⟨by decide,by decide,by decide,by decide,.inr rfl,by decide⟩
 ·exact ⟨by decide,by decide,by decide,by decide,.inl rfl,by decide⟩
end Go.Proofs.YtgjoehgomjgckaaGreatDoor
end
section
set_option linter.unusedVariables false
set_option linter.unusedSimpArgs false
namespace Go.Proofs.YtgjoehgomjgckaaGreatDoor
open Go Go.Ev
set_option maxRecDepth 20000
set_option linter.unusedVariables false
def wid (s:pY):Nat:=if s.eta=2 then 3 else 4
end Go.Proofs.YtgjoehgomjgckaaGreatDoor
end
section
set_option linter.unusedVariables false
set_option linter.unusedSimpArgs false
namespace Go.Proofs.YtgjoehgomjgckaaGreatDoor
open Go Go.Ev
set_option maxRecDepth 20000
set_option linter.unusedVariables false
def Below (b:Int) (fs:List (List Int)):Prop:=∀ f∈fs,f.length=256∧∀ x∈f,0≤x∧x<b
structure anR (s:pY):Prop where
 g2:GG (s.g2:Int)
 g1:s.g1=131072∨s.g1=524288
 omega:s.omega≤80
 beta:s.beta≤196
theorem anS {set:Int} (h:isSet set=true):anR (dO set):=by
 unfold isSet at h
 simp only [Bool.or_eq_true,decide_eq_true_eq] at h
 rcases h with rfl | rfl | rfl
 ·exact ⟨.inl rfl,.inl rfl,by decide,by decide⟩
 ·exact ⟨.inr rfl,.inr rfl,by decide,by decide⟩
 ·exact ⟨.inr rfl,.inr rfl,by decide,by decide⟩
def amg (f:List Int) (n:Nat):List B8:=(List.range n).flatMap fun j=>if f.getD j 0=1 then [BitVec.ofNat 8 j] else []
def plc (fs:List (List Int)) (n:Nat):List B8:=(List.range n).flatMap fun j=>amg (fs.getD j []) 256
def anT (s:pY) (fs:List (List Int)):Int:=if (plc fs fs.length).length≤s.omega then 0 else 5
end Go.Proofs.YtgjoehgomjgckaaGreatDoor
end
section
set_option linter.unusedVariables false
set_option linter.unusedSimpArgs false
namespace Go.Proofs.YtgjoehgomjgckaaGreatDoor
open Go Go.Ev
set_option maxRecDepth 20000
set_option linter.unusedVariables false
def aoB (g:Int) (m:Int) (f:List Int):Int:=f.foldl (fun m v=>max (max m (aaB g v)) (0 - aaB g v)) m
def aoC (g:Int) (X:List (List Int)):Int:=X.foldl (aoB g) 0
def JC (s:pY) (Z X T H:List (List Int)):Bool:=decide (Z0 Z<(s.g1:Int) - s.beta) && (decide (aoC s.g2 X<(s.g2:Int) - s.beta) && (decide (Z0 T<(s.g2:Int)) && decide (anT s H=0)))
end Go.Proofs.YtgjoehgomjgckaaGreatDoor
end
section
set_option linter.unusedVariables false
set_option linter.unusedSimpArgs false
namespace Go.Proofs.YtgjoehgomjgckaaGreatDoor
open Go Go.Ev
set_option maxRecDepth 20000
set_option linter.unusedVariables false
theorem ake {set:Int} (cH:isSet set=true):32+320 * (dO set).k=jD set∧128+32 * (((dO set).k+(dO set).l) * wid (dO set)+13 * (dO set).k)=CU set∧(dO set).c+32 * (dO set).l * tU (dO set)+(dO set).omega+(dO set).k=CV set:=by
 unfold isSet at cH
 simp only [Bool.or_eq_true,decide_eq_true_eq] at cH
 rcases cH with rfl | rfl | rfl <;> decide
theorem afF (set:Int) (cH:isSet set=true) (w:World):Ok Pr MR [.int .i64 set] w fun v w'=>v=.tuple ⟨[.int .i64 (jD set),.int .i64 (CU set),.int .i64 (CV set)]⟩∧Mod [] w w':=by
 refine adP ?_
 unfold M9
 rw [WS]
 obtain ⟨e1,e2,e3⟩:=ake cH
 have hG:=anQ cH
 have hX:=anS cH
 have hg1:=alT cH
 refine aB (ahp set w) ?_
 rintro _ w1 ⟨rfl,m1⟩
 rw [cH]
 generalize dO set=s at *
 have hk8:=hG.k
 have hl7:=hG.l
 have hc:=hG.c
 have hom:=hX.omega
 have hwi:(if s.eta=2 then (3:Int) else 4)=((wid s:Nat):Int):=by unfold wid; split <;> rfl
 have T4:wid s≤4:=by unfold wid; split <;> omega
 have aoD:tU s≤20:=by unfold tU; split <;> omega
 refine ⟨_,rfl,akZ ⟨_,rfl,rfl,((ak.start w).frame m1).nw fun p w2 H _=>H.qG 0 rfl rfl fun w3 H=>ite_false rfl (H.pF 0 rfl (aB (af6 hg1 _) ?_))⟩⟩
 rintro _ w4 ⟨rfl,m4⟩
 have H:=(H.frame m4).drew
 rw [hwi]
 have h1:((s.k:Int)+(s.l:Int)) * ((wid s:Nat):Int)=(((s.k+s.l) * wid s:Nat):Int):=by push_cast; rfl
 have h2:(32:Int) * (s.l:Int) * ((tU s:Nat):Int)=((32 * s.l * tU s:Nat):Int):=by push_cast; rfl
 have b1:(s.k+s.l) * wid s≤15 * 4:=Nat.mul_le_mul (by omega) T4
 have b2:32 * s.l * tU s≤224 * 20:=Nat.mul_le_mul (by omega) aoD
 generalize (s.k+s.l) * wid s=A at *
 generalize 32 * s.l * tU s=B at *
 refine ⟨_,rfl,_,rfl,_,rfl,rfl,H.an 0 rfl (au p 0) rfl ⟨⟨by omega,by omega⟩,⟨by omega,by omega⟩,H.an 0 rfl (au p 0) rfl (H.an 0 rfl (au p 1) rfl ⟨⟨by omega,by omega⟩,⟨by omega,by omega⟩,H.an 0 rfl (au p 0) rfl ⟨⟨by omega,by omega⟩,⟨by omega,by omega⟩,⟨by omega,by omega⟩,⟨by omega,by omega⟩,H.an 0 rfl (au p 8) rfl (H.an 0 rfl (au p 1) rfl ⟨⟨by omega,by omega⟩,⟨by omega,by omega⟩,⟨by omega,by omega⟩,H.an 0 rfl (au p 5) rfl ⟨⟨by omega,by omega⟩,H.an 0 rfl (au p 0) rfl ⟨⟨by omega,by omega⟩,?_,H.mod⟩⟩⟩)⟩⟩)⟩⟩
 rw [h1,h2,← e1,← e2,← e3]
 push_cast
 rfl
end Go.Proofs.YtgjoehgomjgckaaGreatDoor
end
section
set_option linter.unusedVariables false
set_option linter.unusedSimpArgs false
namespace Go.Proofs.YtgjoehgomjgckaaGreatDoor
open Go Go.Ev
set_option maxRecDepth 20000
set_option linter.unusedVariables false
theorem aeV (s:dZ) (t:aR) (hs:t.small) (w:World) (hx:gC w s t):Ok Pr Ms [.agg ⟨t.cs s⟩] w fun v w'=>v=.bool (aS 1 6 (t.aE.length:Int) && l9 t t.aE.length)∧Mod [] w w':=by
 refine adC ?_
 unfold MH
 rw [YN]
 have wD:=hx.ten.len
 have rC:=hx.aE.len
 have yC:=hs.aE
 refine (ak.start w).nw fun p w1 H _=>?_
 have H:ak w [] w1 [.av p (t.cs s) aN]:=H
 refine aB (afF 1 rfl w1) ?_
 rintro _ w3 ⟨rfl,m3⟩
 have H:=H.frame m3
 refine ⟨_,rfl,_,rfl,_,rfl,_,rfl,rfl,?_⟩
 by_cases h6:t.aE.length≤6
 case neg=>
  refine zo (fun x w'=>ak w [] w' [.av p (t.cs s) aN]) (fun _ _=>0) H ?_
  intro again i w4 H aM
  refine H.ax 0 rfl (au p 3) rfl (H.ax 0 rfl (au p 3) rfl (ite_false ?_ (H.ax 0 rfl (au p 3) rfl (H.ax 0 rfl (au p 3) rfl ⟨?_,H.mod⟩))))
  ·rw [show decide ((s.aE.n:Int)≤6)=false from decide_eq_false (by omega),Bool.and_false]
  ·have e:aS 1 6 (t.aE.length:Int)=false:=by unfold aS; rw [show decide ((t.aE.length:Int)≤6)=false from decide_eq_false (by omega),Bool.and_false]
   rw [e,show decide ((s.aE.n:Int)≤6)=false from decide_eq_false (by omega),Bool.and_false]; rfl
 have C6:decide ((s.aE.n:Int)≤6)=true:=decide_eq_true (by omega)
 refine dm 0 t.aE.length (fun i w'=>l9 t i=true∧ak w [] w' [.av p (t.cs s) aN]) rfl (by omega) ⟨rfl,H⟩ ?_ ?_
 ·rintro again i w4 _ hi ⟨dV,H⟩ aM
  obtain ⟨dw,x,uJ,hc⟩:=(hx.aE.aG H.mod).at hi
  have hS:l9 t (i+1)=(l9 t i && p8 t i (t.aE.getD i fF)):=rfl
  have hN:=RF (t:=t) (i:=i)
  have nn:∀ {w2:World},Mod [] w w2→p8 t i (t.aE.getD i fF)=false→(fun v w'=>v=Value.bool (aS 1 6 (t.aE.length:Int) && l9 t t.aE.length)∧Mod [] w w') (.bool false) w2:=fun m h=>⟨by rw [hN h _ hi,Bool.and_false],m⟩
  have bO:=uJ.len
  have hP:p8 t i (t.aE.getD i fF)=(decide ((t.aE.getD i fF).id=(i:Int)+1) && (aS 1 (t.bP.length:Int) (t.aE.getD i fF).ten && (decide ((t.aE.getD i fF).key.length=jD 1) && fU (t.aE.getD i fF).high (t.aE.getD i fF).used))):=rfl
  generalize t.aE.getD i fF=q at *
  refine H.ax 0 rfl (au p 3) rfl (H.ax 0 rfl (au p 3) rfl (ite_true (by rw [C6,Bool.and_true]; exact decide_eq_true (by omega)) (H.ax 0 rfl (au p 3) rfl ⟨dw,UJ hc (H.nw fun p1 w5 D _=>D.AW 1 rfl rfl fun w6 D=>?_)⟩)))
  have D:ak w [] w6 [.av p (t.cs s) aN,.av p1 (q.cs x) eu]:=D
  refine D.an 1 rfl (au p1 0) rfl ⟨⟨by omega,by omega⟩,D.ax 0 rfl (au p 2) rfl (D.an 1 rfl (au p1 1) rfl ?_)⟩
  by_cases e1:q.id=(i:Int)+1
  case neg=>
   refine ite_true (by rw [decide_eq_false e1]; rfl) (D.ax 1 rfl (au p1 2) rfl (D.an 1 rfl (au p1 3) rfl (D.an 1 rfl (au p1 4) rfl (nn D.mod ?_))))
   rw [hP,decide_eq_false e1]; rfl
  refine ite_false (by rw [decide_eq_true e1]; rfl) (aB (U8 s.ten t.bP q.ten w6 (hx.ten.aG D.mod)) ?_)
  rintro _ w7 ⟨rfl,sW⟩
  subst sW
  refine bz (D.ax 1 rfl (au p1 2) rfl (D.an 1 rfl (au p1 3) rfl (D.an 1 rfl (au p1 4) rfl ?_)))
  have e3:(decide ((x.n:Int)=(jD 1:Int)))=decide (q.key.length=jD 1):=by
   by_cases h:q.key.length=jD 1
   ·rw [decide_eq_true h]; exact decide_eq_true (by omega)
   ·rw [decide_eq_false h]; exact decide_eq_false (by omega)
  rw [e3]
  rw [decide_eq_true e1,Bool.true_and] at hP
  cases c1:aS 1 (t.bP.length:Int) q.ten with
  | false=>exact ite_true rfl (nn D.mod (by rw [hP,c1]; rfl))
  | true=>
   rw [c1,Bool.true_and] at hP
   cases c2:decide (q.key.length=jD 1) with
   | false=>exact ite_true rfl (nn D.mod (by rw [hP,c2]; rfl))
   | true=>
    rw [c2,Bool.true_and] at hP
    refine ite_false rfl (aB (ag9 _ _ _) ?_)
    rintro _ w8 ⟨rfl,Gs⟩
    subst Gs
    refine bz ?_
    cases c3:fU q.high q.used with
    | false=>exact ite_true rfl (nn D.mod (by rw [hP,c3]))
    | true=>exact ite_false rfl ⟨⟨by omega,by omega⟩,aM _ ⟨by rw [hS,dV,hP,c3]; rfl,D.front (L:=[_])⟩⟩
 ·rintro again w4 ⟨TZ,H⟩
  refine H.ax 0 rfl (au p 3) rfl (H.ax 0 rfl (au p 3) rfl (ite_false (by rw [C6,Bool.and_true]; exact decide_eq_false (by omega)) (H.ax 0 rfl (au p 3) rfl (H.ax 0 rfl (au p 3) rfl ⟨?_,H.mod⟩))))
  rw [TZ,Bool.and_true,rC]; rfl
theorem agE (s:dZ) (t:aR) (hs:t.small) (w:World) (hx:gC w s t):Ok Pr NM [.agg ⟨t.cs s⟩] w fun v w'=>v=.bool (decide (t.keys.length≤6) && mh t t.keys.length)∧Mod [] w w':=by
 refine aeM ?_
 unfold Ov
 rw [pM]
 have uI:=hx.key.len
 have wE:=hs.key
 refine (ak.start w).nw fun p w1 H _=>?_
 have H:ak w [] w1 [.av p (t.cs s) aN]:=H
 by_cases h6:t.keys.length≤6
 case neg=>
  refine zo (fun x w'=>ak w [] w' [.av p (t.cs s) aN]) (fun _ _=>0) H ?_
  intro again i w4 H aM
  refine H.ax 0 rfl (au p 4) rfl (H.ax 0 rfl (au p 4) rfl (ite_false ?_ (H.ax 0 rfl (au p 4) rfl ⟨?_,H.mod⟩)))
  ·rw [show decide ((s.key.n:Int)≤6)=false from decide_eq_false (by omega),Bool.and_false]
  ·rw [decide_eq_false h6,show decide ((s.key.n:Int)≤6)=false from decide_eq_false (by omega)]; rfl
 have C6:decide ((s.key.n:Int)≤6)=true:=decide_eq_true (by omega)
 refine dm 0 t.keys.length (fun i w'=>mh t i=true∧ak w [] w' [.av p (t.cs s) aN]) rfl (by omega) ⟨rfl,H⟩ ?_ ?_
 ·rintro again i w4 _ hi ⟨dV,H⟩ aM
  obtain ⟨dw,x,uJ,hc⟩:=hx.key.at hi
  have hS:mh t (i+1)=(mh t i && kB t i (t.keys.getD i kz)):=rfl
  have hN:=RG (t:=t) (i:=i)
  have nn:∀ {w2:World},Mod [] w w2→kB t i (t.keys.getD i kz)=false→(fun v w'=>v=Value.bool (decide (t.keys.length≤6) && mh t t.keys.length)∧Mod [] w w') (.bool false) w2:=fun m h=>⟨by rw [hN h _ hi,Bool.and_false],m⟩
  have ux:=vo hs hi
  have hP:kB t i (t.keys.getD i kz)=(decide ((t.keys.getD i kz).id=(i:Int)+1) && (aS 1 (t.bP.length:Int) (t.keys.getD i kz).ten && cL (t.keys.getD i kz))):=rfl
  generalize t.keys.getD i kz=q at *
  refine H.ax 0 rfl (au p 4) rfl (H.ax 0 rfl (au p 4) rfl (ite_true (by rw [C6,Bool.and_true]; exact decide_eq_true (by omega)) (H.ax 0 rfl (au p 4) rfl ⟨dw,qF (fun j v h=>H.mod.pP (hc j v h)) (H.nw fun p1 w5 D _=>D.cF 1 rfl rfl fun w6 D=>?_)⟩)))
  have D:ak w [] w6 [.av p (t.cs s) aN,.av p1 (dH q.id q.ten q.set x) aV]:=D
  refine D.an 1 rfl (au p1 0) rfl ⟨⟨by omega,by omega⟩,D.bA 1 rfl ?_⟩
  by_cases e1:q.id=(i:Int)+1
  case neg=>
   refine ite_true (by rw [decide_eq_false e1]; rfl) (D.ax 0 rfl (au p 2) rfl (D.an 1 rfl (au p1 1) rfl (nn D.mod ?_)))
   rw [hP,decide_eq_false e1]; rfl
  refine ite_false (by rw [decide_eq_true e1]; rfl) (aB (ahb q x (by omega) _ (uJ.aG D.mod)) ?_)
  rintro _ w7 ⟨rfl,m7⟩
  have D:=D.frame m7
  refine bz (D.ax 0 rfl (au p 2) rfl (D.an 1 rfl (au p1 1) rfl ?_))
  rw [decide_eq_true e1,Bool.true_and] at hP
  cases c3:cL q with
  | false=>exact ite_true rfl (nn D.mod (by rw [hP,c3,Bool.and_false]))
  | true=>
   rw [c3,Bool.and_true] at hP
   refine ite_false rfl (aB (U8 s.ten t.bP q.ten _ (hx.ten.aG D.mod)) ?_)
   rintro _ w8 ⟨rfl,Gs⟩
   subst Gs
   refine bz ?_
   cases c1:aS 1 (t.bP.length:Int) q.ten with
   | false=>exact ite_true rfl (nn D.mod (by rw [hP,c1]))
   | true=>exact ite_false rfl ⟨⟨by omega,by omega⟩,aM _ ⟨by rw [hS,dV,hP,c1]; rfl,D.front (L:=[_])⟩⟩
 ·rintro again w4 ⟨T3,H⟩
  refine H.ax 0 rfl (au p 4) rfl (H.ax 0 rfl (au p 4) rfl (ite_false (by rw [C6,Bool.and_true]; exact decide_eq_false (by omega)) (H.ax 0 rfl (au p 4) rfl ⟨?_,H.mod⟩)))
  rw [T3,Bool.and_true,C6,decide_eq_true h6]
theorem ahc (s:dZ) (t:aR) (hs:t.small) (w:World) (hx:gC w s t):Ok Pr OH [.agg ⟨t.cs s⟩] w fun v w'=>v=.bool (fE t)∧Mod [] w w':=by
 refine aft ?_
 unfold Pn
 have TY:=hx.sec.len
 have wD:=hx.ten.len
 have rC:=hx.aE.len
 have uI:=hx.key.len
 have Kh:=hx.gr.len
 have yB:=hs.ten
 have yC:=hs.aE
 have wE:=hs.key
 have AM:=hs.gr
 refine (ak.start w).nw fun p w1 H _=>?_
 have H:ak w [] w1 [.av p (t.cs s) aN]:=H
 have no:∀ {w2:World},Mod [] w w2→fE t=false→(fun v w'=>v=Value.bool (fE t)∧Mod [] w w') (.bool false) w2:=fun m h=>⟨by rw [h],m⟩
 have eT:fE t=(aS 0 1099511627776 t.clock && (decide (t.bG.length=32) && (decide (1≤t.bP.length) && (gL t.bP && (aS 1 6 (t.aE.length:Int) && (decide (t.keys.length≤6) && gy t.br))))) && (l9 t t.aE.length && (mh t t.keys.length && !t.br.any (p9 t)))):=rfl
 refine jJ fun go bY=>?_
 have Tj:∀ w2,Mod [] w1 w2→(fE t=!t.br.any (p9 t))→go w2:=by
  intro w2 m2 hp
  refine bY w2 ?_
  have H:=H.frame m2
  refine dm 0 t.br.length (fun i w'=>(t.br.take i).any (p9 t)=false∧ak w [] w' [.av p (t.cs s) aN]) rfl (by omega) ⟨rfl,H⟩ ?_ ?_
  ·rintro again i w3 _ hi ⟨dV,H⟩ aM
   have hS:=AZ (p9 t) t.br i hi gz
   have hT:p9 t (t.br.getD i gz)=true→fE t=false:=fun h=>by rw [hp,A0 (p9 t) t.br i hi gz h]; rfl
   have D:=H.drew
   have hg:=hx.gr.aG D.mod
   have hb:p9 t (t.br.getD i gz)=(decide ((t.keys.length:Int)<(t.br.getD i gz).n1) || decide ((t.aE.length:Int)<(t.br.getD i gz).n2)):=rfl
   have dw:s.gr.a.isSome=true∧(0:Int)≤(i:Int)∧(i:Int)<(s.gr.n:Int):=⟨hg.pre (by omega),by omega,by omega⟩
   have nC:∀ (j:Nat) (v:Value),(t.br.getD i gz).cells[j]? = some v→w3.drew.cell? (Addr.add (Addr.add (base s.gr.a) (Int.toNat (i:Int) * 6)) j)=some v:=fun j v hv=>by
    rw [Int.toNat_natCast]; exact gU.cell hg hi hv
   generalize t.br.getD i gz=g at *
   refine H.ax 0 rfl (au p 5) rfl (ite_true (decide_eq_true (by omega)) (D.ax 0 rfl (au p 5) rfl ⟨dw,_,nC 1 _ rfl,D.ax 0 rfl (au p 4) rfl (D.ax 0 rfl (au p 5) rfl ?_)⟩))
   show aA (decide ((s.key.n:Int)<g.n1)) _ _
   rw [← uI]
   cases c1:decide ((t.keys.length:Int)<g.n1) with
   | true=>exact ite_true rfl (no D.mod (hT (by rw [hb,c1]; rfl)))
   | false=>
    refine ite_false rfl ⟨dw,_,nC 2 _ rfl,D.ax 0 rfl (au p 3) rfl ?_⟩
    show aA (decide ((s.aE.n:Int)<g.n2)) _ _
    rw [← rC]
    cases c2:decide ((t.aE.length:Int)<g.n2) with
    | true=>exact ite_true rfl (no D.mod (hT (by rw [hb,c2,Bool.or_true])))
    | false=>exact ite_false rfl ⟨⟨by omega,by omega⟩,aM _ ⟨by rw [hS,dV,hb,c1,c2]; rfl,D⟩⟩
  ·rintro again w3 ⟨dV,H⟩
   rw [List.take_of_length_le (Nat.le_refl _)] at dV
   exact H.ax 0 rfl (au p 5) rfl (ite_false (decide_eq_false (by omega)) ⟨by rw [hp,dV]; rfl,H.mod⟩)
 refine H.an 0 rfl (au p 0) rfl (H.an 0 rfl (au p 0) rfl (H.ax 0 rfl (au p 1) rfl (H.ax 0 rfl (au p 2) rfl (H.ax 0 rfl (au p 2) rfl ?_))))
 by_cases hf:(0≤t.clock∧t.clock≤1099511627776)∧t.bG.length=32∧1≤t.bP.length
 case neg=>
  refine ite_true ?_ (H.bD 0 rfl (H.bD 0 rfl (H.ax 0 rfl (au p 5) rfl (no H.mod ?_))))
  ·simp only [Bool.or_eq_true,decide_eq_true_eq,Bool.not_eq_true',decide_eq_false_iff_not]; omega
  ·refine Bool.eq_false_iff.2 fun h=>hf ?_
   rw [eT] at h
   simp only [Bool.and_eq_true,decide_eq_true_eq,aS] at h
   exact ⟨h.1.1,h.1.2.1,h.1.2.2.1⟩
 refine ite_false ?_ ?_
 ·simp only [Bool.or_eq_false_iff,decide_eq_false_iff_not,Bool.not_eq_false',decide_eq_true_eq]; omega
 have e0:aS 0 1099511627776 t.clock=true:=by unfold aS; rw [decide_eq_true hf.1.1,decide_eq_true hf.1.2]; rfl
 rw [e0,decide_eq_true hf.2.1,decide_eq_true hf.2.2,Bool.true_and,Bool.true_and,Bool.true_and] at eT
 refine aB (aha s.ten t.bP (by omega) _ (hx.ten.aG H.mod)) ?_
 rintro _ w3 ⟨rfl,m3⟩
 have H3:=H.frame m3
 refine bz (H3.bD 0 rfl ?_)
 cases c4:gL t.bP with
 | false=>exact ite_true rfl (H3.bD 0 rfl (H3.ax 0 rfl (au p 5) rfl (no H3.mod (by rw [eT,c4]; rfl))))
 | true=>
 rw [c4,Bool.true_and] at eT
 refine ite_false rfl (aB (aeV s t hs _ (hx.aG H3.mod)) ?_)
 rintro _ w4 ⟨rfl,m4⟩
 have H4:=H3.frame m4
 refine bz (H4.bD 0 rfl ?_)
 cases c5:(aS 1 6 (t.aE.length:Int) && l9 t t.aE.length) with
 | false=>
  refine ite_true rfl (H4.ax 0 rfl (au p 5) rfl (no H4.mod ?_))
  rw [eT]
  rcases Bool.and_eq_false_iff.1 c5 with h | h <;> rw [h] <;> simp
 | true=>
 rw [Bool.and_eq_true] at c5
 rw [c5.1,c5.2,Bool.true_and,Bool.true_and] at eT
 refine ite_false rfl (aB (agE s t hs _ (hx.aG H4.mod)) ?_)
 rintro _ w5 ⟨rfl,m5⟩
 have H5:=H4.frame m5
 refine bz (H5.ax 0 rfl (au p 5) rfl ?_)
 cases c6:(decide (t.keys.length≤6) && mh t t.keys.length) with
 | false=>
  refine ite_true rfl (no H5.mod ?_)
  rw [eT]
  rcases Bool.and_eq_false_iff.1 c6 with h | h <;> rw [h] <;> simp
 | true=>
 rw [Bool.and_eq_true] at c6
 rw [c6.1,c6.2,Bool.true_and,Bool.true_and] at eT
 refine ite_false rfl (aB (ag4 s.gr t.br hs.gf (by omega) _ (hx.gr.aG H5.mod)) ?_)
 rintro _ w6 ⟨rfl,m6⟩
 refine bz ?_
 cases c7:gy t.br with
 | false=>exact ite_true rfl (no (H5.mod.trans m6) (by rw [eT,c7]; rfl))
 | true=>exact ite_false rfl (Tj _ (((m3.trans m4).trans m5).trans m6) (by rw [eT,c7]; rfl))
end Go.Proofs.YtgjoehgomjgckaaGreatDoor
end
section
set_option linter.unusedVariables false
set_option linter.unusedSimpArgs false
namespace Go.Ev
open Go Go.RowKit
set_option linter.unusedVariables false
theorem ak.cR {w0 w:World} {S:List Nat} {L L':List aD} (H:ak w0 S w L) (idx:List Nat) (hn:idx.Nodup) (h:idx.map (fun i=>L[i]?)=L'.map some):ak w0 S w L':=by
 have hl:idx.length=L'.length:=by have:=congrArg List.length h; simpa using this
 have key:∀ (k:Nat) (r:aD),L'[k]? = some r→∃ i,idx[k]? = some i∧L[i]? = some r:=fun k r hk=>by
  have fH:k<idx.length:=by rw [hl]; exact (List.getElem?_eq_some_iff.1 hk).1
  refine ⟨idx[k],List.getElem?_eq_getElem fH,?_⟩
  have:=congrArg (·[k]?) h
  simp only [List.getElem?_map,List.getElem?_eq_getElem fH,hk,Option.map_some] at this
  exact Option.some.inj this
 refine ⟨H.mod,fun k r hk=>?_,fun k r hk=>?_,fun j k r s lI hj hk=>?_⟩
 ·obtain ⟨i,_,hi⟩:=key k r hk
  exact H.ok i r hi
 ·obtain ⟨i,_,hi⟩:=key k r hk
  exact H.own i r hi
 ·obtain ⟨i,uK,hi⟩:=key j r hj
  obtain ⟨i',aoE,sx⟩:=key k s hk
  refine H.apart i i' r s (fun e=>lI ?_) hi sx
  subst e
  exact (List.getElem?_inj (List.getElem?_eq_some_iff.1 uK).1 hn).1 (uK.trans aoE.symm)
theorem ak.amh {w0 w:World} {S:List Nat} {L:List aD} {te:TypeId} {sz:Nat} {y:ah} {vs:List Value} {fq:List Nat} {Q:World→Prop} (H:ak w0 S w (L ++ [.row te sz y vs,.box fq Q])):∃ fp,ak w0 S w (L ++ [.box fp fun w=>Own w 0 te sz y vs∧Q w]):=by
 have H2:=H.merge L.length (L.length+1) (t:=.box (y.row ++ fq) fun w=>Own w 0 te sz y vs∧Q w) zV SY (by omega) (fun h1 h2=>?_) (fun b hb=>List.mem_append.1 hb)
 ·refine ⟨y.row ++ fq,?_⟩
  have e:((L ++ [aD.row te sz y vs,aD.box fq Q]).set (L.length+1) aD.no).set L.length (.box (y.row ++ fq) fun w=>Own w 0 te sz y vs∧Q w)=(L ++ [.box (y.row ++ fq) fun w=>Own w 0 te sz y vs∧Q w]) ++ [aD.no]:=by
   rw [List.set_append_right _ _ (by omega),Nat.add_sub_cancel_left,List.set_append_right _ _ (Nat.le_refl _),Nat.sub_self,List.append_assoc]; rfl
  rw [e] at H2
  exact H2.front
 ·refine ⟨fun b hb=>?_,fun w2 h3=>⟨?_,h2.2 w2 fun b hb=>h3 b (List.mem_append_right _ hb)⟩⟩
  ·rcases List.mem_append.1 hb with h | h
   ·exact (Own.ED h1 b h).2
   ·exact h2.1 b h
  ·exact (aD.row te sz y vs).kC w w2 (fun b hb=>h3 b (List.mem_append_left _ hb)) h1
section
variable {A:Type} {C:A→ah→List Value} {sz:Nat} {E:World→ah→A→Prop} {te:TypeId} {w0 w w':World} {S:List Nat} {L M:List aD} {s:ah} {ls:List A} {xs ys:List ah} {i:Nat}
theorem Bk {A:Type} {l:List A} {i:Nat} {a:A} (h:l[i]? = some a):l.set i a=l:=by
 refine List.ext_getElem? fun k=>?_
 rw [List.getElem?_set]
 by_cases e:i=k
 ·subst e; rw [if_pos rfl,if_pos (List.getElem?_eq_some_iff.1 h).1,h]
 ·rw [if_neg e]
theorem ak.anU (H:ak w0 S w (L ++ .row te sz s (bh C ls (ys ++ xs.drop i)) :: M)) (hC:∀ a x,(C a x).length=sz) (hy:ys.length=i) (hx:xs.length=ls.length) {a:A} {x z:ah} (ha:ls[i]? = some a) (dA:xs[i]? = some x) {j:Nat} (hj:j<sz) (hz:C a z=(C a x).set j z.v) {K:World→Prop}
  (hk:∀ w2,ak w0 S w2 (L ++ .row te sz s (bh C ls (ys ++ z :: xs.drop (i+1))) :: M)→K w2):Ev.st (Addr.add (Addr.add (base s.a) (Int.toNat (i:Int) * sz)) j) (.slice z.a z.n z.c) w K:=by
 have hi:=(List.getElem?_eq_some_iff.1 ha).1
 have FZ:(ys ++ xs.drop i).length=ls.length:=by rw [List.length_append,List.length_drop]; omega
 have SZ:(ys ++ xs.drop i)[i]? = some x:=by rw [List.getElem?_append_right (by omega),hy,Nat.sub_self,List.getElem?_drop,Nat.add_zero]; exact dA
 have qW:(ys ++ xs.drop i).set i z=ys ++ z :: xs.drop (i+1):=by
  rw [List.set_append_right _ _ (by omega),hy,Nat.sub_self,List.drop_eq_getElem_cons (by omega),List.set_cons_zero]
 refine H.qQ L.length (i:=i * sz+j) (v:=z.v) zV (by rw [add_add,Int.toNat_natCast]) ?_ rfl fun w2 H4=>hk w2 ?_
 ·rw [iQ hC _ _ FZ]
  have:=Nat.mul_le_mul_right sz (show i+1≤ls.length from hi)
  rw [Nat.succ_mul] at this
  omega
 ·rw [List.set_append_right _ _ (Nat.le_refl _),Nat.sub_self,List.set_cons_zero,tD hC ls (ys ++ xs.drop i) i j a a x z z.v ha SZ hj hz,qW,Bk ha] at H4
  exact H4
theorem gq.close (hy:ys.length=i) {a:A} {z:ah} (ha:ls[i]? = some a) {fp dX:List Nat} (H:ak w0 S w (L ++ [.row te sz s (bh C ls (ys ++ z :: xs.drop (i+1))),.box fp fun w=>bn E w ys (ls.take i),.box dX fun w=>E w z a])):gq C sz E te w0 S L w s ls xs (i+1):=by
 have TB:ls.take (i+1)=ls.take i ++ [a]:=by rw [List.take_add_one,ha]; rfl
 have H2:=H.merge (L.length+1) (L.length+2) (t:=.box (fp ++ dX) fun w=>bn E w (ys ++ [z]) (ls.take (i+1))) SY aat (by omega) (fun h1 h2=>?_) (fun b hb=>List.mem_append.1 hb)
 ·have e:(((L ++ [aD.row te sz s (bh C ls (ys ++ z :: xs.drop (i+1))),aD.box fp fun w=>bn E w ys (ls.take i),aD.box dX fun w=>E w z a]).set (L.length+2) aD.no).set (L.length+1) (aD.box (fp ++ dX) fun w=>bn E w (ys ++ [z]) (ls.take (i+1)))) =
    (L ++ [aD.row te sz s (bh C ls (ys ++ z :: xs.drop (i+1))),aD.box (fp ++ dX) fun w=>bn E w (ys ++ [z]) (ls.take (i+1))]) ++ [aD.no]:=by
   rw [List.set_append_right _ _ (by omega),Nat.add_sub_cancel_left,List.set_append_right _ _ (by omega),Nat.add_sub_cancel_left,List.append_assoc]
   rfl
  rw [e] at H2
  refine ⟨ys ++ [z],fp ++ dX,by simp [hy],?_⟩
  have H3:=H2.front
  rw [show ys ++ z :: xs.drop (i+1)=(ys ++ [z]) ++ xs.drop (i+1) by simp] at H3
  exact H3
 ·refine ⟨fun b hb=>?_,fun w2 h3=>?_⟩
  ·rcases List.mem_append.1 hb with h | h
   ·exact h1.1 b h
   ·exact h2.1 b h
  ·rw [TB]
   exact bn.snoc (h1.2 w2 fun b hb=>h3 b (List.mem_append_left _ hb)) (h2.2 w2 fun b hb=>h3 b (List.mem_append_right _ hb))
end
end Go.Ev
end
section
set_option linter.unusedVariables false
set_option linter.unusedSimpArgs false
namespace Go.Proofs.YtgjoehgomjgckaaGreatDoor
open Go Go.Ev
set_option maxRecDepth 20000
set_option linter.unusedVariables false
def gB (w:World) (x:ah) (p:ct):Prop:=Own w 0 aX 1 x (bp p.key)
def fG (w:World) (x:ah) (k:aP):Prop:=jZ w x k.aH
def jm (s:dZ) (t:aR) (ys zs:List ah) (fp fq:List Nat):List aD:=
 [.row aX 1 s.sec (bp t.bG),.row dh 3 s.ten (fQ t.bP),.row cB 6 s.gr (dK t.br),.row eu 5 s.aE (bh ct.cs t.aE ys),.box fp fun w=>bn gB w ys t.aE,.row aV 4 s.key (bh aP.cs t.keys zs),.box fq fun w=>bn fG w zs t.keys]
theorem XJ {w:World} {ys:List ah} {l:List ct} (h:bn gB w ys l):bn yA w ys l:=⟨h.1,fun i x v hx hv=>Own.bytes (h.2 i x v hx hv)⟩
theorem XK {w:World} {ys:List ah} {l:List aP} (h:bn fG w ys l):bn AL w ys l:=⟨h.1,fun i x v hx hv=>(h.2 i x v hx hv).aH⟩
theorem lp {w0 w:World} {S:List Nat} {L:List aD} {s:dZ} {t:aR} {ys zs:List ah} {fp fq:List Nat} (H:ak w0 S w (L ++ jm s t ys zs fp fq)):gC w s t:=by
 have H:=H.drop L.length
 rw [List.drop_left] at H
 exact ⟨Own.bytes (H.qV 0 rfl),fX.of (H.fJ 1 rfl),⟨ys,H.fJ 3 rfl,XJ (H.box 4 rfl)⟩,⟨zs,H.fJ 5 rfl,XK (H.box 6 rfl)⟩,H.fJ 2 rfl⟩
theorem YO (p:ct) (x z:ah):p.cs z=(p.cs x).set 2 z.v:=rfl
theorem alj (k:aP) (x z:ah):k.cs z=(k.cs x).set 3 z.v:=rfl
theorem NA (s:dZ) (t:aR) (hs:t.small) (w:World) (hx:gC w s t):Ok Pr DJ [.agg ⟨t.cs s⟩] w fun r w'=>∃ s' ys zs fp fq,r=.agg ⟨t.cs s'⟩∧ak w [] w' (jm s' t ys zs fp fq):=by
 refine aeJ ?_
 unfold Oq
 rw [tH]
 have AF:=hs.sec
 have yB:=hs.ten
 have yC:=hs.aE
 have wE:=hs.key
 have AM:=hs.gr
 have Gh:=hs.pk
 have T6:=hs.bu
 have gY:=hs.aq
 obtain ⟨h1,h2,⟨xs,h3,oz⟩,⟨us,h4,mS⟩,h5⟩:=hx
 have TY:=h1.len
 refine (ak.start w).nw fun p w1 H _=>H.nw fun p1 w2 H _=>?_
 have H:ak w [] w2 [.av p (t.cs s) aN,.av p1 (k5 0 ⟨none,0,0⟩ ⟨none,0,0⟩ ⟨none,0,0⟩ ⟨none,0,0⟩ ⟨none,0,0⟩) aN]:=H
 have H:=H.drew
 refine H.ax 0 rfl (au p 1) rfl (H.ax 0 rfl (au p 2) rfl (H.ax 0 rfl (au p 3) rfl (H.ax 0 rfl (au p 4) rfl (H.ax 0 rfl (au p 5) rfl (aB (Dr s.sec t.bG AF _ (h1.aG H.mod)) ?_)))))
 rintro _ w3 ⟨y1,rfl,sM,m3⟩
 have H3:=H.cG m3 sM
 refine bW ⟨H.kept m3 0 rfl (au p 5) 1,H.kept m3 0 rfl (au p 4) 1,H.kept m3 0 rfl (au p 3) 1,H.kept m3 0 rfl (au p 2) 1,aB (UB s.ten t.bP (by omega) _ (h2.aG H3.mod)) ?_⟩
 rintro _ w4 ⟨y2,rfl,sN,_,m4⟩
 have H4:=H3.cG m4 sN
 refine bW ⟨H3.kept m4 0 rfl (au p 5) 1,H3.kept m4 0 rfl (au p 4) 1,H3.kept m4 0 rfl (au p 3) 1,aB (acS s.aE t.aE xs oz.1 (by omega) _ (h3.aG H4.mod)) ?_⟩
 rintro _ w5 ⟨y3,rfl,Gl,Az,m5⟩
 have H5:=H4.cG m5 Gl
 refine bW ⟨H4.kept m5 0 rfl (au p 5) 1,H4.kept m5 0 rfl (au p 4) 1,aB (acT s.key t.keys us mS.1 (by omega) _ (h4.aG H5.mod)) ?_⟩
 rintro _ w6 ⟨y4,rfl,TO,F1,m6⟩
 have H6:=H5.cG m6 TO
 refine bW ⟨H5.kept m6 0 rfl (au p 5) 1,aB (GN s.gr t.br (by omega) _ (h5.aG H6.mod)) ?_⟩
 rintro _ w7 ⟨y5,rfl,Gm,hn5,m7⟩
 have H7:=H6.cG m7 Gm
 refine bW ?_
 refine H7.st 0 rfl (au p 1) (by show 1<6; omega) rfl fun w8 H8=>H8.st 0 rfl (au p 2) (by show 2<6; omega) rfl fun w9 H9=>H9.st 0 rfl (au p 3) (by show 3<6; omega) rfl fun cM JT=>JT.st 0 rfl (au p 4) (by show 4<6; omega) rfl fun cZ JU=>JU.st 0 rfl (au p 5) (by show 5<6; omega) rfl fun fV JV=>?_
 have H:ak w [] fV [.av p (t.cs ⟨y1,y2,y3,y4,y5⟩) aN,.av p1 (k5 0 ⟨none,0,0⟩ ⟨none,0,0⟩ ⟨none,0,0⟩ ⟨none,0,0⟩ ⟨none,0,0⟩) aN,.row aX 1 y1 (bp t.bG),.row dh 3 y2 (fQ t.bP),.row eu 5 y3 (bh ct.cs t.aE xs),.row aV 4 y4 (bh aP.cs t.keys us),.row cB 6 y5 (dK t.br)]:=JV
 have CY:=(H.fJ 4 rfl).len
 rw [iQ ct.cz _ _ oz.1] at CY
 have AE:=(H.fJ 5 rfl).len
 rw [iQ aP.cz _ _ mS.1] at AE
 have e3:t.aE.length=y3.n:=by omega
 have e4:t.keys.length=y4.n:=by omega
 have H:=H.cR (L':=[.av p (t.cs ⟨y1,y2,y3,y4,y5⟩) aN,.av p1 (k5 0 ⟨none,0,0⟩ ⟨none,0,0⟩ ⟨none,0,0⟩ ⟨none,0,0⟩ ⟨none,0,0⟩) aN,.row aX 1 y1 (bp t.bG),.row dh 3 y2 (fQ t.bP),.row cB 6 y5 (dK t.br),.row aV 4 y4 (bh aP.cs t.keys us)] ++ [.row eu 5 y3 (bh ct.cs t.aE xs)]) [0,1,2,3,6,5,4] (by decide) rfl
 refine H.ax 0 rfl (au p 3) rfl ?_
 refine dm 0 t.aE.length (fun i w'=>gq ct.cs 5 gB eu w [] [.av p (t.cs ⟨y1,y2,y3,y4,y5⟩) aN,.av p1 (k5 0 ⟨none,0,0⟩ ⟨none,0,0⟩ ⟨none,0,0⟩ ⟨none,0,0⟩ ⟨none,0,0⟩) aN,.row aX 1 y1 (bp t.bG),.row dh 3 y2 (fQ t.bP),.row cB 6 y5 (dK t.br),.row aV 4 y4 (bh aP.cs t.keys us)] w' y3 t.aE xs i) rfl (by omega) (gq.start H) ?_ ?_
 ·intro again i fO _ hi R aM
  have R:=R.frame (Mod.drew [] fO)
  have ha:t.aE[i]? = some t.aE[i]:=List.getElem?_eq_getElem hi
  have dA:xs[i]? = some (xs[i]'(by rw [oz.1]; exact hi)):=List.getElem?_eq_getElem _
  have gY:=Gh _ (List.getElem_mem hi)
  have sS:=oz.2 i _ _ dA ha
  obtain ⟨dw,hc⟩:=R.at ct.cz (by omega) oz.1 ha dA
  generalize t.aE[i]=v at *
  generalize xs[i]'(by rw [oz.1]; exact hi)=z at *
  have F:=R.front
  refine ite_true (decide_eq_true (show (i:Int)<(y3.n:Int) by omega)) (F.ax 0 rfl (au p 3) rfl (F.ax 0 rfl (au p 3) rfl ⟨dw,z,hc 2 z.v rfl,aB (Dr z v.key gY _ (Bytes.aG sS F.mod)) ?_⟩))
  rintro _ gu yp
  obtain ⟨u,rfl,hu⟩:=yp.Th
  exact bW ⟨F.kept hu.mod 0 rfl (au p 3) 1,dw,R.step ct.cz oz.1 ha dA (hu:fK _ _ fun w=>gB w u v) (by omega:2<5) (YO v z u) fun kJ R=>⟨⟨by omega,by omega⟩,aM kJ R⟩⟩
 ·intro again fO R
  obtain ⟨ys,fp,H⟩:=R.done rfl oz.1
  have H:=H.cR (L':=[.av p (t.cs ⟨y1,y2,y3,y4,y5⟩) aN,.av p1 (k5 0 ⟨none,0,0⟩ ⟨none,0,0⟩ ⟨none,0,0⟩ ⟨none,0,0⟩ ⟨none,0,0⟩) aN,.row aX 1 y1 (bp t.bG),.row dh 3 y2 (fQ t.bP),.row cB 6 y5 (dK t.br),.row eu 5 y3 (bh ct.cs t.aE ys),.box fp fun w=>bn gB w ys t.aE] ++ [.row aV 4 y4 (bh aP.cs t.keys us)]) [0,1,2,3,4,6,7,5] (by decide) rfl
  refine ite_false (decide_eq_false (by show ¬ ((t.aE.length:Int)<(y3.n:Int)); omega)) (H.ax 0 rfl (au p 4) rfl ?_)
  obtain ⟨L,hL⟩:∃ L,L=[aD.av p (t.cs ⟨y1,y2,y3,y4,y5⟩) aN,.av p1 (k5 0 ⟨none,0,0⟩ ⟨none,0,0⟩ ⟨none,0,0⟩ ⟨none,0,0⟩ ⟨none,0,0⟩) aN,.row aX 1 y1 (bp t.bG),.row dh 3 y2 (fQ t.bP),.row cB 6 y5 (dK t.br),.row eu 5 y3 (bh ct.cs t.aE ys),.box fp fun w=>bn gB w ys t.aE]:=⟨_,rfl⟩
  rw [← hL] at H
  have qw:L[0]? = some (.av p (t.cs ⟨y1,y2,y3,y4,y5⟩) aN):=by rw [hL]; rfl
  refine dm 0 t.keys.length (fun i w'=>gq aP.cs 4 fG aV w [] L w' y4 t.keys us i) rfl (by omega) (gq.start H) ?_ ?_
  ·intro again i mO _ hi R aM
   have ha:t.keys[i]? = some t.keys[i]:=List.getElem?_eq_getElem hi
   have dA:us[i]? = some (us[i]'(by rw [mS.1]; exact hi)):=List.getElem?_eq_getElem _
   have hv1:=T6 _ (List.getElem_mem hi)
   have T7:=gY _ (List.getElem_mem hi)
   have sS:=mS.2 i _ _ dA ha
   obtain ⟨dw,hc⟩:=R.at aP.cz (by omega) mS.1 ha dA
   generalize t.keys[i]=k at *
   generalize us[i]'(by rw [mS.1]; exact hi)=z at *
   have F:=R.front
   obtain ⟨vs,vX,yD⟩:=sS
   refine ite_true (decide_eq_true (show (i:Int)<(y4.n:Int) by omega)) (F.ax 0 qw (au p 4) rfl ⟨dw,z,hc 3 z.v rfl,aB (UA z k.aH vs yD.1 (by omega) _ (vX.aG F.mod)) ?_⟩)
   rintro _ yq ⟨u,rfl,hu,F3,TU⟩
   have nY:=(Own.sl hu).len
   rw [iQ bq.cz _ _ yD.1] at nY
   have arP:k.aH.length=u.n:=by omega
   obtain ⟨qs,fq,hq,D⟩:=R
   have D:=D.cG TU hu
   rw [List.append_assoc] at D
   refine bW (D.anU aP.cz hq mS.1 ha dA (by omega:3<4) (alj k z u) fun kV D=>?_)
   have D:ak w [] kV ((L ++ [.row aV 4 y4 (bh aP.cs t.keys (qs ++ u :: us.drop (i+1))),.box fq fun w=>bn fG w qs (t.keys.take i)]) ++ [.row cw 4 u (bh bq.cs k.aH vs)]):=by rw [List.append_assoc]; exact D
   have hqu:(qs ++ u :: us.drop (i+1))[i]? = some u:=by rw [List.getElem?_append_right (by omega),hq,Nat.sub_self]; rfl
   have cell:∀ {w2:World},ak w [] w2 (L ++ [.row aV 4 y4 (bh aP.cs t.keys (qs ++ u :: us.drop (i+1))),.box fq fun w=>bn fG w qs (t.keys.take i)])→w2.cell? (Addr.add (Addr.add (base y4.a) (Int.toNat (i:Int) * 4)) 3)=some u.v:=fun G=>by
    rw [Int.toNat_natCast]
    exact (G.fJ L.length zV).vw aP.cz ha hqu (j:=3) rfl
   refine ⟨u,cell D.front,?_⟩
   refine dm 0 k.aH.length (fun n w'=>gq bq.cs 4 iB cw w [] (L ++ [.row aV 4 y4 (bh aP.cs t.keys (qs ++ u :: us.drop (i+1))),.box fq fun w=>bn fG w qs (t.keys.take i)]) w' u k.aH vs n) rfl (by omega) (gq.start D) ?_ ?_
   ·intro zF n kI _ hn R2 xP
    have R2:=R2.frame (Mod.drew [] kI)
    have hb:k.aH[n]? = some k.aH[n]:=List.getElem?_eq_getElem hn
    have T8:vs[n]? = some (vs[n]'(by rw [yD.1]; exact hn)):=List.getElem?_eq_getElem _
    have AF:=T7 _ (List.getElem_mem hn)
    have oX:=yD.2 n _ _ T8 hb
    obtain ⟨Jp,hc2⟩:=R2.at bq.cz (by omega) yD.1 hb T8
    generalize k.aH[n]=v at *
    generalize vs[n]'(by rw [yD.1]; exact hn)=x at *
    have F2:=R2.front
    refine ite_true (decide_eq_true (by omega)) ⟨u,cell F2,u,cell F2,Jp,x,hc2 3 x.v rfl,aB (Dr x v.aq AF _ (Bytes.aG oX F2.mod)) ?_⟩
    rintro _ wj h20
    obtain ⟨y,rfl,hy⟩:=h20.Th
    exact bW ⟨zm hy.mod (cell F2),Jp,R2.step bq.cz yD.1 hb T8 (hy:fK _ _ fun w=>iB w y v) (by omega:3<4) (Rn v x y) fun C7 R2=>⟨⟨by omega,by omega⟩,xP C7 R2⟩⟩
   ·intro zF kI R2
    obtain ⟨zs,f2,G⟩:=R2.done rfl yD.1
    obtain ⟨f3,G⟩:=G.amh
    have G:=G.RA (Q':=fun w=>fG w u k) (L ++ [aD.row aV 4 y4 (bh aP.cs t.keys (qs ++ u :: us.drop (i+1))),.box fq fun w=>bn fG w qs (t.keys.take i)]).length zV fun w h=>⟨zs,h.1,h.2⟩
    rw [List.set_append_right _ _ (Nat.le_refl _),Nat.sub_self,List.set_cons_zero,List.append_assoc] at G
    exact ite_false (decide_eq_false (by omega)) ⟨⟨by omega,by omega⟩,aM _ (gq.close hq ha G)⟩
  ·intro again mO R
   obtain ⟨zs,fq,H⟩:=R.done rfl mS.1
   subst hL
   refine ite_false (decide_eq_false (show ¬ ((t.keys.length:Int)<(y4.n:Int)) by omega)) (H.bD 0 rfl (H.bE 1 rfl rfl fun yq H=>H.bD 1 rfl ?_))
   exact ⟨⟨y1,y2,y3,y4,y5⟩,ys,zs,fp,fq,rfl,H.drop 2⟩
end Go.Proofs.YtgjoehgomjgckaaGreatDoor
end
section
set_option linter.unusedVariables false
set_option linter.unusedSimpArgs false
namespace Go.Ev
open Go Go.RowKit
set_option linter.unusedVariables false
def ov (vs:List Value) (p:Nat) (l:List Value):List Value:=vs.take p ++ (l ++ vs.drop (p+l.length))
theorem ZH (vs:List Value) (p:Nat):ov vs p []=vs:=by unfold ov; simp
theorem YP (vs:List Value) (p:Nat) (v:Value) (l:List Value) (h:p<vs.length):ov (vs.set p v) (p+1) l=ov vs p (v :: l):=by
 unfold ov
 rw [List.length_cons,List.drop_set_of_lt (by omega),show p+(l.length+1)=p+1+l.length by omega,List.take_set,List.take_add_one,List.getElem?_eq_getElem h,List.set_append_right _ _ (by rw [List.length_take]; omega),List.length_take,Nat.min_eq_left (by omega),Nat.sub_self]
 simp
theorem ak.pL {w0:World} {S:List Nat} {k:Nat} {e:TypeId} {sz:Nat} {s:ah} {o:Nat} {K:World→Prop}:∀ (l:List Value) {i:Nat} {vs:List Value} {L:List aD} {w:World},ak w0 S w L→L[k]? = some (.row e sz s vs)→o+i+l.length≤vs.length→(∀ v∈l,ey v=true)→
  (∀ w',ak w0 S w' (L.set k (.row e sz s (ov vs (o+i) l)))→K w')→Ev.pL l (Addr.add (base s.a) o) i w K
 | [],i,vs,L,w,H,hk,hl,h1,h=>by
  refine h w ?_
  rw [ZH,Bk hk]
  exact H
 | v :: r,i,vs,L,w,H,hk,hl,h1,h=>by
  rw [List.length_cons] at hl
  refine H.qQ k (i:=o+i) hk (by rw [add_add]) (by omega) (h1 v (List.mem_cons_self ..)) fun w1 H1=>?_
  have bO:k<L.length:=(List.getElem?_eq_some_iff.1 hk).1
  refine ak.pL r H1 (by rw [List.getElem?_set,if_pos rfl,if_pos bO]) (by rw [List.length_set]; omega) (fun u hu=>h1 u (List.mem_cons_of_mem _ hu)) fun w' H'=>h w' ?_
  rw [List.set_set,show o+(i+1)=o+i+1 by omega,YP _ _ _ _ (by omega)] at H'
  exact H'
section
variable {A:Type} {C:A→ah→List Value} {sz:Nat} {te:TypeId} {w0 w:World} {S:List Nat} {L:List aD} {s:ah} {ls:List A} {xs:List ah} {i:Nat}
theorem WZ {a:A} {x:ah} (hx:xs.length=ls.length) (ha:ls[i]? = some a) (dA:xs[i]? = some x):bh C ls xs=bh C (ls.take i) (xs.take i) ++ (C a x ++ bh C (ls.drop (i+1)) (xs.drop (i+1))):=by
 have hi:=(List.getElem?_eq_some_iff.1 ha).1
 have h1:=Bx (C:=C) (ls.take i) (xs.take i) (by simp [hx]) (ls.drop i) (xs.drop i)
 rw [List.take_append_drop,List.take_append_drop] at h1
 rw [h1,List.drop_eq_getElem_cons hi,List.drop_eq_getElem_cons (show i<xs.length by omega),rI]
 congr 3
 ·exact Option.some.inj ((List.getElem?_eq_getElem hi).symm.trans ha)
 ·exact Option.some.inj ((List.getElem?_eq_getElem (by omega)).symm.trans dA)
theorem ami (hC:∀ a x,(C a x).length=sz) (hx:xs.length=ls.length) (hi:i<ls.length) (a':A) (x':ah):ov (bh C ls xs) (i * sz) (C a' x')=bh C (ls.set i a') (xs.set i x'):=by
 obtain ⟨a,ha⟩:∃ a,ls[i]? = some a:=⟨_,List.getElem?_eq_getElem hi⟩
 obtain ⟨x,dA⟩:∃ x,xs[i]? = some x:=⟨_,List.getElem?_eq_getElem (by omega)⟩
 have e2:=WZ (C:=C) (ls:=ls.set i a') (xs:=xs.set i x') (i:=i) (a:=a') (x:=x') (by simp [hx]) (by rw [List.getElem?_set,if_pos rfl,if_pos hi]) (by rw [List.getElem?_set,if_pos rfl,if_pos (by omega)])
 rw [List.take_set_of_le (Nat.le_refl _),List.take_set_of_le (Nat.le_refl _),List.drop_set_of_lt (by omega),List.drop_set_of_lt (by omega)] at e2
 have hl:(bh C (ls.take i) (xs.take i)).length=i * sz:=by
  rw [iQ hC _ _ (by simp [hx]),List.length_take,Nat.min_eq_left (by omega)]
 rw [e2]
 unfold ov
 rw [WZ hx ha dA,List.take_append_of_le_length (by omega),List.take_of_length_le (by omega),List.drop_append,List.drop_of_length_le (by omega),List.nil_append,hl,hC,Nat.add_sub_cancel_left,List.drop_append,List.drop_of_length_le (by rw [hC]; omega),hC,Nat.sub_self]
 rfl
theorem ak.putAt (H:ak w0 S w L) (k:Nat) (hk:L[k]? = some (.row te sz s (bh C ls xs))) (hC:∀ a x,(C a x).length=sz) (hx:xs.length=ls.length) (hi:i<ls.length) (a':A) (x':ah) (h1:∀ v∈C a' x',ey v=true) {K:World→Prop}
  (h:∀ w',ak w0 S w' (L.set k (.row te sz s (bh C (ls.set i a') (xs.set i x'))))→K w'):Ev.pL (C a' x') (Addr.add (base s.a) (Int.toNat (i:Int) * sz)) 0 w K:=by
 rw [Int.toNat_natCast]
 refine ak.pL (C a' x') H hk ?_ h1 fun w' H'=>h w' ?_
 ·rw [iQ hC _ _ hx,hC]
  have:=Nat.mul_le_mul_right sz (show i+1≤ls.length from hi)
  rw [Nat.succ_mul] at this
  omega
 ·rw [Nat.add_zero,ami hC hx hi] at H'
  exact H'
end
end Go.Ev
end
section
set_option linter.unusedVariables false
set_option linter.unusedSimpArgs false
namespace Go.Proofs.YtgjoehgomjgckaaGreatDoor
open Go Go.Ev
set_option maxRecDepth 20000
set_option linter.unusedVariables false
theorem agF (s:dZ) (t:aR) (hs:t.small) (w:World) (hx:gC w s t):Ok Pr NJ [.agg ⟨t.cs s⟩] w fun r w'=>∃ s' ys zs fp fq,r=.agg ⟨t.cs s'⟩∧ak w [] w' (jm s' t ys zs fp fq):=by
 refine aeI ?_
 unfold Oo
 rw [tH]
 have AF:=hs.sec
 have yB:=hs.ten
 have yC:=hs.aE
 have wE:=hs.key
 have AM:=hs.gr
 have Gh:=hs.pk
 have T6:=hs.bu
 have gY:=hs.aq
 have CY:=hx.aE.len
 have AE:=hx.key.len
 obtain ⟨h1,h2,⟨xs,h3,oz⟩,⟨us,h4,mS⟩,h5⟩:=hx
 have TY:=h1.len
 have wD:=(fX.len h2)
 have Kh:=gU.len h5
 refine (ak.start w).nw fun p w1 H _=>H.nw fun p1 w2 H _=>?_
 have H:ak w [] w2 [.av p (t.cs s) aN,.av p1 (k5 0 ⟨none,0,0⟩ ⟨none,0,0⟩ ⟨none,0,0⟩ ⟨none,0,0⟩ ⟨none,0,0⟩) aN]:=H
 refine H.ax 0 rfl (au p 1) rfl (H.RQ iK (h1.aG H.mod) (by omega) fun y1 w3 H _=>H.st 0 rfl (au p 1) (by show 1<6; omega) rfl fun w4 H=>H.ax 0 rfl (au p 2) rfl ?_)
 refine H.clone RC ((fX.sl h2).aG H.mod) (vh (C:=cv.cs) (fun a x v hv=>cv.l7 a x v hv) _ _) (by show s.ten.n * 32≤_; omega) (by show s.ten.n≤_; omega) fun y2 w5 H _=>H.st 0 rfl (au p 2) (by show 2<6; omega) rfl fun w6 H=>H.ax 0 rfl (au p 3) rfl ?_
 refine H.clone RD (h3.aG H.mod) (vh ct.l7 _ _) (by show s.aE.n * 56≤_; omega) (by show s.aE.n≤_; omega) fun y3 w7 H Az=>H.st 0 rfl (au p 3) (by show 3<6; omega) rfl fun w8 H=>?_
 have H:ak w [] w8 ([.av p (t.cs ⟨y1,y2,y3,s.key,s.gr⟩) aN,.av p1 (k5 0 ⟨none,0,0⟩ ⟨none,0,0⟩ ⟨none,0,0⟩ ⟨none,0,0⟩ ⟨none,0,0⟩) aN,.row aX 1 y1 (bp t.bG),.row dh 3 y2 (fQ t.bP)] ++ [.row eu 5 y3 (bh ct.cs t.aE xs)]):=H
 have e3:t.aE.length=y3.n:=by rw [Az]; exact CY
 refine dm 0 t.aE.length (fun i w'=>gq ct.cs 5 gB eu w [] [.av p (t.cs ⟨y1,y2,y3,s.key,s.gr⟩) aN,.av p1 (k5 0 ⟨none,0,0⟩ ⟨none,0,0⟩ ⟨none,0,0⟩ ⟨none,0,0⟩ ⟨none,0,0⟩) aN,.row aX 1 y1 (bp t.bG),.row dh 3 y2 (fQ t.bP)] w' y3 t.aE xs i) rfl (by omega) (gq.start H) ?_ ?_
 ·intro again i fO _ hi R aM
  have F0:=R.front
  have R:=R.frame (Mod.drew [] fO)
  have ha:t.aE[i]? = some t.aE[i]:=List.getElem?_eq_getElem hi
  have dA:xs[i]? = some (xs[i]'(by rw [oz.1]; exact hi)):=List.getElem?_eq_getElem _
  have gY:=Gh _ (List.getElem_mem hi)
  have sS:=oz.2 i _ _ dA ha
  obtain ⟨dw,hc⟩:=R.at ct.cz (by omega) oz.1 ha dA
  generalize t.aE[i]=v at *
  generalize xs[i]'(by rw [oz.1]; exact hi)=z at *
  have F:=R.front
  have hb:Bytes fO.drew z v.key:=Bytes.aG sS F.mod
  have qo:=Bytes.len hb
  refine F0.ax 0 rfl (au p 3) rfl (ite_true (decide_eq_true (show (i:Int)<(y3.n:Int) by omega)) (F.ax 0 rfl (au p 3) rfl (F.ax 0 rfl (au p 3) rfl ⟨dw,z,hc 2 z.v rfl,(ak.start fO.drew).RQ iK hb (by omega) fun u gu U _=>?_⟩)))
  have hu:fK fO.drew gu fun w=>gB w u v:=U.boxed fun w' h=>h 0 _ rfl
  exact ⟨F.kept hu.mod 0 rfl (au p 3) 1,dw,R.step ct.cz oz.1 ha dA hu (by omega:2<5) (YO v z u) fun kJ R=>⟨⟨by omega,by omega⟩,aM kJ R⟩⟩
 ·intro again fO R
  have F0:=R.front
  obtain ⟨ys,fp,H⟩:=R.done rfl oz.1
  refine F0.ax 0 rfl (au p 3) rfl (ite_false (decide_eq_false (show ¬ ((t.aE.length:Int)<(y3.n:Int)) by omega)) (H.ax 0 rfl (au p 4) rfl ?_))
  refine H.clone RE (h4.aG H.mod) (vh aP.l7 _ _) (by show s.key.n * 48≤_; omega) (by show s.key.n≤_; omega) fun y4 gu H F1=>H.st 0 rfl (au p 4) (by show 4<6; omega) rfl fun kJ H=>?_
  have e4:t.keys.length=y4.n:=by rw [F1]; exact AE
  obtain ⟨L,hL⟩:∃ L,L=[aD.av p (t.cs ⟨y1,y2,y3,y4,s.gr⟩) aN,.av p1 (k5 0 ⟨none,0,0⟩ ⟨none,0,0⟩ ⟨none,0,0⟩ ⟨none,0,0⟩ ⟨none,0,0⟩) aN,.row aX 1 y1 (bp t.bG),.row dh 3 y2 (fQ t.bP),.row eu 5 y3 (bh ct.cs t.aE ys),.box fp fun w=>bn gB w ys t.aE]:=⟨_,rfl⟩
  have H:ak w [] kJ (L ++ [.row aV 4 y4 (bh aP.cs t.keys us)]):=by rw [hL]; exact H
  have qw:L[0]? = some (.av p (t.cs ⟨y1,y2,y3,y4,s.gr⟩) aN):=by rw [hL]; rfl
  refine dm 0 t.keys.length (fun i w'=>gq aP.cs 4 fG aV w [] L w' y4 t.keys us i) rfl (by omega) (gq.start H) ?_ ?_
  ·intro again i mO _ hi R aM
   have F0:=R.front
   have R:=R.frame (Mod.drew [] mO)
   have ha:t.keys[i]? = some t.keys[i]:=List.getElem?_eq_getElem hi
   have dA:us[i]? = some (us[i]'(by rw [mS.1]; exact hi)):=List.getElem?_eq_getElem _
   have hv1:=T6 _ (List.getElem_mem hi)
   have T7:=gY _ (List.getElem_mem hi)
   have sS:=mS.2 i _ _ dA ha
   obtain ⟨dw,hc⟩:=R.at aP.cz (by omega) mS.1 ha dA
   have qW:t.keys.set i t.keys[i]=t.keys:=Bk ha
   generalize t.keys[i]=k at *
   generalize us[i]'(by rw [mS.1]; exact hi)=z at *
   have F:=R.front
   refine F0.ax 0 qw (au p 4) rfl (ite_true (decide_eq_true (show (i:Int)<(y4.n:Int) by omega)) (F.ax 0 qw (au p 4) rfl (F.ax 0 qw (au p 4) rfl ⟨dw,qF hc (aB (agD k z hv1 T7 _ (gh.aG sS F.mod)) ?_)⟩)))
   rintro _ yq ⟨u,rfl,hu⟩
   have Gr:=hu.box
   obtain ⟨qs,fq,hq,D⟩:=R
   obtain ⟨f2,D⟩:=D.iy Gr
   refine oA ⟨zm Gr.mod (F.cell 0 qw (au p 4) rfl),dw,?_⟩
   have FZ:(qs ++ us.drop i).length=t.keys.length:=by rw [List.length_append,List.length_drop,mS.1]; omega
   have Ki:(qs ++ us.drop i).set i u=qs ++ u :: us.drop (i+1):=by
    rw [List.set_append_right _ _ (by omega),hq,Nat.sub_self,List.drop_eq_getElem_cons (by rw [mS.1]; exact hi),List.set_cons_zero]
   rw [List.append_assoc] at D
   show pL (k.cs u) _ 0 _ _
   refine D.putAt L.length zV aP.cz FZ hi k u (aP.l7 k u) fun kV D=>⟨⟨by omega,by omega⟩,aM _ (gq.close (z:=u) hq ha (fp:=fq) (dX:=f2) ?_)⟩
   rw [List.set_append_right _ _ (Nat.le_refl _),Nat.sub_self,qW,Ki] at D
   exact D
  ·intro again mO R
   have F0:=R.front
   obtain ⟨zs,fq,H⟩:=R.done rfl mS.1
   subst hL
   refine F0.ax 0 rfl (au p 4) rfl (ite_false (decide_eq_false (show ¬ ((t.keys.length:Int)<(y4.n:Int)) by omega)) (H.ax 0 rfl (au p 5) rfl ?_))
   refine H.clone RY (h5.aG H.mod) (Rm _) (by show s.gr.n * 48≤_; omega) (by show s.gr.n≤_; omega) fun y5 yq H _=>H.st 0 rfl (au p 5) (by show 5<6; omega) rfl fun kV H=>?_
   refine H.bD 0 rfl (H.bE 1 rfl rfl fun kI H=>H.bD 1 rfl ?_)
   refine ⟨⟨y1,y2,y3,y4,y5⟩,ys,zs,fp,fq,rfl,?_⟩
   exact H.cR [2,3,8,4,5,6,7] (by decide) rfl
end Go.Proofs.YtgjoehgomjgckaaGreatDoor
end
section
set_option linter.unusedVariables false
set_option linter.unusedSimpArgs false
namespace Go.Proofs.YtgjoehgomjgckaaGreatDoor
open Go Go.Ev
set_option maxRecDepth 20000
set_option linter.unusedVariables false
def sZ:dZ:=⟨⟨none,0,0⟩,⟨none,0,0⟩,⟨none,0,0⟩,⟨none,0,0⟩,⟨none,0,0⟩⟩
def gM:aR:=⟨0,[],[],[],[],[]⟩
theorem ak.ZI {w0 w:World} {S:List Nat} {L:List aD} (H:ak w0 S w L) {Q:World→Prop} (h:∀ w,Q w):ak w0 S w (L ++ [.box [] Q]):=
 H.push (Mod.refl [] w) ⟨fun b hb=>(by cases hb),fun w' _=>h w'⟩ (fun b hb=>(by cases hb))
theorem Rp {w0 w:World} {S:List Nat} {L:List aD} (H:ak w0 S w L):ak w0 S w (L ++ jm sZ gM [] [] [] []):=by
 have H:=H.iZ aX 1
 have H:=H.iZ dh 3
 have H:=H.iZ cB 6
 have H:=H.iZ eu 5
 have H:=ak.ZI H (Q:=fun w=>bn gB w [] ([]:List ct)) fun w=>⟨rfl,fun i x l h=>by simp at h⟩
 have H:=H.iZ aV 4
 have H:=ak.ZI H (Q:=fun w=>bn fG w [] ([]:List aP)) fun w=>⟨rfl,fun i x l h=>by simp at h⟩
 simp only [List.append_assoc,List.cons_append,List.nil_append] at H
 exact H
def kS (name:ByteArray) (vk sec:List B8):aR:=⟨0,sec,[⟨1,0,name⟩],[⟨1,1,vk,0,0⟩],[],[]⟩
theorem QA {name:ByteArray} {vk sec:List B8} (h1:vk.length≤1000000) (h2:sec.length≤1000000):(kS name vk sec).small where
 sec:=h2
 ten:=by show 1≤1000; omega
 aE:=by show 1≤1000; omega
 key:=by show 0≤1000; omega
 gr:=by show 0≤1000; omega
 pk:=fun p hp=>by rw [List.mem_singleton.1 hp]; exact h1
 bu:=fun k hk=>by cases hk
 aq:=fun k hk=>by cases hk
 gf:=fun k hk=>by cases hk
theorem amj {w:World} {name:ByteArray} {vk sec:List B8} {x y:ah} {p q:Nat} (hx:Bytes w x vk) (hy:Bytes w y sec) (hp:bX w p (ku 1 0 name) dh) (hq:bX w q (lQ 1 1 x 0 0) eu):gC w ⟨y,⟨some ⟨p,0,none⟩,1,1⟩,⟨some ⟨q,0,none⟩,1,1⟩,⟨none,0,0⟩,⟨none,0,0⟩⟩ (kS name vk sec) where
 sec:=hy
 ten:=fX.of (by
  have:=hp.sl 3 1 1 (by simp) (by omega)
  simpa [fQ,bh,kS,cv.cs,ku] using this)
 aE:=⟨[x],by
  have:=hq.sl 5 1 1 (by simp) (by omega)
  rw [show (kS name vk sec).aE=[⟨1,1,vk,0,0⟩] from rfl,zB]
  simpa [ct.cs,lQ] using this,rfl,fun i u l h1 h2=>by
   cases i with
   | zero=>
    simp only [List.getElem?_cons_zero,Option.some.injEq,kS] at h1 h2
    subst h1 h2; exact hx
   | succ i=>simp [kS] at h2⟩
 key:=Dv.nil w
 gr:=gU.nil w
def Gt (name:ByteArray) (vk sec:List B8):aR:=if fE (kS name vk sec)=true then kS name vk sec else gM
def T9 (name:ByteArray) (vk sec:List B8):Int:=if fE (kS name vk sec)=true then 0 else 2
def aaC (w w':World) (v:Value) (t:aR) (rest:List Value) (M:List aD):Prop:=∃ s ys zs fp fq,v=.tuple ⟨.agg ⟨t.cs s⟩ :: rest⟩∧ak w [] w' (jm s t ys zs fp fq ++ M)
theorem afG (name:ByteArray) (x y:ah) (vk sec:List B8) (h1:vk.length≤1000000) (h2:sec.length≤1000000) (w:World) (hx:Bytes w x vk) (hy:Bytes w y sec):Ok Pr pE [.string name,.slice x.a x.n x.c,.slice y.a y.n y.c] w fun v w'=>aaC w w' v (Gt name vk sec) [.int .i64 (T9 name vk sec)] []:=by
 refine ad5 ?_
 unfold Nr
 rw [tH]
 have hT:Gt name vk sec=if fE (kS name vk sec)=true then kS name vk sec else gM:=rfl
 have hC:T9 name vk sec=if fE (kS name vk sec)=true then 0 else 2:=rfl
 generalize Gt name vk sec=T at *
 generalize T9 name vk sec=C at *
 refine (ak.start w).nw fun p w1 H _=>H.nw fun p1 w2 H _=>H.nw fun p2 w3 H _=>?_
 have H:ak w [] w3 [.av p (gM.cs sZ) aN,.av p1 (ku 1 0 name) dh,.av p2 (lQ 1 1 x 0 0) eu]:=H
 refine aB (agF ⟨y,⟨some ⟨p1,0,none⟩,1,1⟩,⟨some ⟨p2,0,none⟩,1,1⟩,⟨none,0,0⟩,⟨none,0,0⟩⟩ (kS name vk sec) (QA h1 h2) w3 (amj (hx.aG H.mod) (hy.aG H.mod) (H.av 1 rfl) (H.av 2 rfl))) ?_
 rintro _ w4 ⟨s,ys,zs,fp,fq,rfl,D⟩
 have H:=H.join D
 refine iu (H.nw fun p3 w5 H _=>H.bE 10 rfl rfl fun w6 H=>H.bD 10 rfl ?_)
 have H:ak w [] w6 ([.av p (gM.cs sZ) aN,.av p1 (ku 1 0 name) dh,.av p2 (lQ 1 1 x 0 0) eu] ++ (jm s (kS name vk sec) ys zs fp fq ++ [.av p3 ((kS name vk sec).cs s) aN])):=H
 have hr:gC w6 s (kS name vk sec):=lp (L:=[.av p (gM.cs sZ) aN,.av p1 (ku 1 0 name) dh,.av p2 (lQ 1 1 x 0 0) eu]) (H.take 10)
 refine aB (ahc s (kS name vk sec) (QA h1 h2) w6 hr) ?_
 rintro _ w7 ⟨rfl,m7⟩
 have H:=H.frame m7
 refine bz ?_
 cases hm:fE (kS name vk sec) with
 | false=>
  rw [hm,if_neg (by decide)] at hT hC
  subst hT hC
  refine ite_true rfl (H.bE 0 rfl rfl fun w8 H=>H.bD 0 rfl ⟨sZ,[],[],[],[],rfl,?_⟩)
  exact (Rp H).drop 11
 | true=>
  rw [hm,if_pos rfl] at hT hC
  subst hT hC
  refine ite_false rfl (H.bD 10 rfl (H.bE 0 rfl rfl fun w8 H=>H.bD 0 rfl ⟨s,ys,zs,fp,fq,rfl,?_⟩))
  exact (H.take 10).drop 3
end Go.Proofs.YtgjoehgomjgckaaGreatDoor
end
section
set_option linter.unusedVariables false
set_option linter.unusedSimpArgs false
namespace Go.Proofs.YtgjoehgomjgckaaGreatDoor
open Go Go.Ev
set_option maxRecDepth 100000
set_option linter.unusedVariables false
def QB (cW:Int) (bL:ah) (bM:ah) (bR:ah) (bS:ah) (bT:ah) (dP:Int) (dD:Int) (dF:Int) (cS:Int) (fu:Int) (fy:Int) (gP:Int) (gQ:Int) (gR:Int) (gS:Int) (gI:Int) (gJ:ByteArray) (dL:ah) (dM:ah) (aq:ah) (w:World) (R:Value→World→Prop):Prop:=
 nw aN [.int .i64 cW,.slice bL.a bL.n bL.c,.slice bM.a bM.n bM.c,.slice bR.a bR.n bR.c,.slice bS.a bS.n bS.c,.slice bT.a bT.n bT.c] w fun a b=>
 nw k6 [.int .i64 dP,.int .i64 dD,.int .i64 dF,.int .i64 cS,.int .i64 fu,.int .i64 fy,.int .i64 gP,.int .i64 gQ,.int .i64 gR,.int .i64 gS,.int .i64 gI,.string gJ,.slice dL.a dL.n dL.c,.slice dM.a dM.n dM.c] b fun c d=>
 nw aN (zc Pr aN) d fun e f=>
 nw bI (zc Pr bI) f fun g i=>
 bD a i fun j k l m n o=>
 jH c i fun p q s t u v x y z A B C D E=>
 ay Pr MP [.agg ⟨[.int .i64 j,.slice k.a k.n k.c,.slice l.a l.n l.c,.slice m.a m.n m.c,.slice n.a n.n n.c,.slice o.a o.n o.c]⟩,.agg ⟨[.int .i64 p,.int .i64 q,.int .i64 s,.int .i64 t,.int .i64 u,.int .i64 v,.int .i64 x,.int .i64 y,.int .i64 z,.int .i64 A,.int .i64 B,.string C,.slice D.a D.n D.c,.slice E.a E.n E.c]⟩,.slice aq.a aq.n aq.c] i fun F G=>
 bw.bC F fun I=>
 aC I fun J L=>
 CK J fun M=>
 aC L fun N O=>
 (O=[]∧
 nw bI (zc Pr bI) G fun Q S=>
 jz (fun (T:Value)=>[(10,some (T))])
 (fun T U=>fm T fun V=>
 aA (!V)
 (ay Pr DY [T] U fun X Y=>
 aY .i64 X fun Z=>
 bE e 0 ⟨none,0,0⟩ ⟨none,0,0⟩ ⟨none,0,0⟩ ⟨none,0,0⟩ ⟨none,0,0⟩ Y fun aa=>
 bN g Z 0 ⟨none,0,0⟩ ⟨none,0,0⟩ aa fun ba=>
 bD e ba fun ca da ea fa ga ia=>
 cI g ba fun ja ka la ma=>
 R (.tuple ⟨[.agg ⟨[.int .i64 ca,.slice da.a da.n da.c,.slice ea.a ea.n ea.c,.slice fa.a fa.n fa.c,.slice ga.a ga.n ga.c,.slice ia.a ia.n ia.c]⟩,.agg ⟨[.int .i64 ja,.int .i64 ka,.slice la.a la.n la.c,.slice ma.a ma.n ma.c]⟩,T]⟩) ba)
 (bB M fun na=>
 bD (Addr.add na 14) (World.drew U) fun oa pa qa sa ta ua=>
 cI Q (World.drew U) fun va xa ya za=>
 bE e oa pa qa sa ta ua (World.drew U) fun Aa=>
 (kept Q 4 (World.drew U) Aa∧
 bN g va xa ya za Aa fun Ba=>
 bD e Ba fun Ca Da Ea Fa Ga Ia=>
 cI g Ba fun Ja La Ma Na=>
 R (.tuple ⟨[.agg ⟨[.int .i64 Ca,.slice Da.a Da.n Da.c,.slice Ea.a Ea.n Ea.c,.slice Fa.a Fa.n Fa.c,.slice Ga.a Ga.n Ga.c,.slice Ia.a Ia.n Ia.c]⟩,.agg ⟨[.int .i64 Ja,.int .i64 La,.slice Ma.a Ma.n Ma.c,.slice Na.a Na.n Na.c]⟩,.nilIface]⟩) Ba)))
 (fun Oa=>
 fm N fun Qa=>
 aA Qa
 (ay Pr Mr [.pointer M] S fun Sa Ta=>
 bw.bC Sa fun Ua=>
 aC Ua fun Va Xa=>
 fR Va fun Ya Za ab bb=>
 aC Xa fun cb db=>
 (db=[]∧
 bN Q Ya Za ab bb Ta fun eb=>
 Oa cb eb))
 (Oa N S)))
theorem agG {cW:Int} {bL:ah} {bM:ah} {bR:ah} {bS:ah} {bT:ah} {dP:Int} {dD:Int} {dF:Int} {cS:Int} {fu:Int} {fy:Int} {gP:Int} {gQ:Int} {gR:Int} {gS:Int} {gI:Int} {gJ:ByteArray} {dL:ah} {dM:ah} {aq:ah} {w:World} {R:Value→World→Prop} (h:QB cW bL bM bR bS bT dP dD dF cS fu fy gP gQ gR gS gI gJ dL dM aq w R):Ok Pr gV [.agg ⟨[.int .i64 cW,.slice bL.a bL.n bL.c,.slice bM.a bM.n bM.c,.slice bR.a bR.n bR.c,.slice bS.a bS.n bS.c,.slice bT.a bT.n bT.c]⟩,.agg ⟨[.int .i64 dP,.int .i64 dD,.int .i64 dF,.int .i64 cS,.int .i64 fu,.int .i64 fy,.int .i64 gP,.int .i64 gQ,.int .i64 gR,.int .i64 gS,.int .i64 gI,.string gJ,.slice dL.a dL.n dL.c,.slice dM.a dM.n dM.c]⟩,.slice aq.a aq.n aq.c] w R:=
 aL (m:=⟨true,true⟩) (J:=[(5,[(10,.val)])]) (L:=[]) aJ Tryz.func11 (by kernel_rfl) ((by kernel_rfl:aK Pr _ _ _ Tryz.f11 _ w R=QB cW bL bM bR bS bT dP dD dF cS fu fy gP gQ gR gS gI gJ dL dM aq w R).mpr h)
def OB (cW:Int) (bL:ah) (bM:ah) (bR:ah) (bS:ah) (bT:ah) (clock:Int) (w:World) (R:Value→World→Prop):Prop:=
 nw aN [.int .i64 cW,.slice bL.a bL.n bL.c,.slice bM.a bM.n bM.c,.slice bR.a bR.n bR.c,.slice bS.a bS.n bS.c,.slice bT.a bT.n bT.c] w fun a b=>
 nw aN (zc Pr aN) b fun c d=>
 bD a d fun e f g i j k=>
 ay Pr Hr [.agg ⟨[.int .i64 e,.slice f.a f.n f.c,.slice g.a g.n g.c,.slice i.a i.n i.c,.slice j.a j.n j.c,.slice k.a k.n k.c]⟩] d fun l m=>
 aW l fun n=>
 an .i64 (Addr.add a 0) m fun o=>
 aA (((!n) || (decide (clock<o))) || (decide (1099511627776<clock)))
 (ay Pr lP [.int .i64 2] m fun p q=>
 bE c 0 ⟨none,0,0⟩ ⟨none,0,0⟩ ⟨none,0,0⟩ ⟨none,0,0⟩ ⟨none,0,0⟩ q fun s=>
 bD c s fun t u v x y z=>
 R (.tuple ⟨[.agg ⟨[.int .i64 t,.slice u.a u.n u.c,.slice v.a v.n v.c,.slice x.a x.n x.c,.slice y.a y.n y.c,.slice z.a z.n z.c]⟩,.int .i64 0,p]⟩) s)
 (bD a m fun A B C D E F=>
 ay Pr DJ [.agg ⟨[.int .i64 A,.slice B.a B.n B.c,.slice C.a C.n C.c,.slice D.a D.n D.c,.slice E.a E.n E.c,.slice F.a F.n F.c]⟩] m fun G I=>
 dB G fun J L M N O Q=>
 bE a J L M N O Q I fun S=>
 st (Addr.add a 0) (.int .i64 clock) S fun T=>
 ax (Addr.add a 4) T fun U=>
 iA (fun (V:Int) (X:Int)=>[(7,some (.int .i64 V)),(34,some (.int .i64 X))])
 (fun Y V X Z=>aA (decide (X<(U.n:Int)))
 (aQ U.a X U.n
 (bA (Addr.add (base U.a) (Int.toNat X * 4)) Z fun aa ba ca da=>
 nw aV (zc Pr aV) Z fun ea fa=>
 cF ea aa ba ca da fa fun ga=>
 bA ea ga fun ia ja ka la=>
 ay Pr NK [.agg ⟨[.int .i64 ia,.int .i64 ja,.int .i64 ka,.slice la.a la.n la.c]⟩,.int .i64 clock] ga fun ma na=>
 bw.bC ma fun oa=>
 aC oa fun pa qa=>
 rF pa fun sa ta ua va=>
 aC qa fun xa ya=>
 aY .i64 xa fun za=>
 (ya=[]∧
 nw aV (zc Pr aV) na fun Aa Ba=>
 cF Aa sa ta ua va Ba fun Ca=>
 ax (Addr.add a 4) Ca fun Da=>
 bA Aa Ca fun Ea Fa Ga Ia=>
 aQ Da.a X Da.n
 (cF (Addr.add (base Da.a) (Int.toNat X * 4)) Ea Fa Ga Ia Ca fun Ja=>
 (aF (V+za)∧
 (aF (X+1)∧
 Y (V+za) (X+1) Ja))))))
 (bD a Z fun La Ma Na Oa Qa Sa=>
 bE c La Ma Na Oa Qa Sa Z fun Ta=>
 bD c Ta fun Ua Va Xa Ya Za ab=>
 R (.tuple ⟨[.agg ⟨[.int .i64 Ua,.slice Va.a Va.n Va.c,.slice Xa.a Xa.n Xa.c,.slice Ya.a Ya.n Ya.c,.slice Za.a Za.n Za.c,.slice ab.a ab.n ab.c]⟩,.int .i64 V,.nilIface]⟩) Ta))
 0 0 T)
theorem aeW {cW:Int} {bL:ah} {bM:ah} {bR:ah} {bS:ah} {bT:ah} {clock:Int} {w:World} {R:Value→World→Prop} (h:OB cW bL bM bR bS bT clock w R):Ok Pr yL [.agg ⟨[.int .i64 cW,.slice bL.a bL.n bL.c,.slice bM.a bM.n bM.c,.slice bR.a bR.n bR.c,.slice bS.a bS.n bS.c,.slice bT.a bT.n bT.c]⟩,.int .i64 clock] w R:=
 aL (m:=⟨true,true⟩) (J:=[]) (L:=[(7,[(7,.int .i64),(34,.int .i64)])]) aJ Tryz.func16 (by kernel_rfl) ((by kernel_rfl:aK Pr _ _ _ Tryz.f16 _ w R=OB cW bL bM bR bS bT clock w R).mpr h)
def NB (cW:Int) (bL:ah) (bM:ah) (bR:ah) (bS:ah) (bT:ah) (dP:Int) (dD:Int) (dF:Int) (cS:Int) (fu:Int) (fy:Int) (gP:Int) (gQ:Int) (gR:Int) (gS:Int) (gI:Int) (gJ:ByteArray) (dL:ah) (dM:ah) (aq:ah) (w:World) (R:Value→World→Prop):Prop:=
 nw aN [.int .i64 cW,.slice bL.a bL.n bL.c,.slice bM.a bM.n bM.c,.slice bR.a bR.n bR.c,.slice bS.a bS.n bS.c,.slice bT.a bT.n bT.c] w fun a b=>
 nw k6 [.int .i64 dP,.int .i64 dD,.int .i64 dF,.int .i64 cS,.int .i64 fu,.int .i64 fy,.int .i64 gP,.int .i64 gQ,.int .i64 gR,.int .i64 gS,.int .i64 gI,.string gJ,.slice dL.a dL.n dL.c,.slice dM.a dM.n dM.c] b fun c d=>
 jL []
 (fun e=>jH c (World.drew e) fun f g i j k l m n o p q s t u=>
 bD a (World.drew e) fun v x y z A B=>
 ay Pr DJ [.agg ⟨[.int .i64 v,.slice x.a x.n x.c,.slice y.a y.n y.c,.slice z.a z.n z.c,.slice A.a A.n A.c,.slice B.a B.n B.c]⟩] (World.drew e) fun C D=>
 dB C fun E F G I J L=>
 (kept c 14 (World.drew e) D∧
 nw wR [.int .i64 f,.int .i64 g,.int .i64 i,.int .i64 j,.int .i64 k,.int .i64 l,.int .i64 m,.int .i64 n,.int .i64 o,.int .i64 p,.int .i64 q,.string s,.slice t.a t.n t.c,.slice u.a u.n u.c,.int .i64 E,.slice F.a F.n F.c,.slice G.a G.n G.c,.slice I.a I.n I.c,.slice J.a J.n J.c,.slice L.a L.n L.c,.int .i64 0,.slice aq.a aq.n aq.c] D fun M N=>
 an .i64 (Addr.add (Addr.add M 0) 0) (World.drew N) fun O=>
 ax (Addr.add a 3) (World.drew N) fun Q=>
 ay Pr yJ [.int .i64 O,.int .i64 (Q.n:Int)] (World.drew N) fun S T=>
 aW S fun U=>
 aA (!U)
 (ay Pr lP [.int .i64 6] T fun V X=>
 R (.tuple ⟨[.pointer none,V]⟩) X)
 (ax (Addr.add (Addr.add M 14) 3) (World.drew T) fun Y=>
 an .i64 (Addr.add (Addr.add M 0) 0) (World.drew T) fun Z=>
 (aF (Z - 1)∧
 aQ Y.a (Z - 1) Y.n
 (an .i64 (Addr.add (Addr.add (base Y.a) (Int.toNat (Z - 1) * 5)) 3) (World.drew (World.drew T)) fun aa=>
 an .u64 (Addr.add (Addr.add (base Y.a) (Int.toNat (Z - 1) * 5)) 4) (World.drew (World.drew T)) fun ba=>
 an .i64 (Addr.add (Addr.add M 0) 1) (World.drew (World.drew T)) fun ca=>
 ay Pr NN [.int .i64 aa,.int .u64 ba,.int .i64 ca] (World.drew (World.drew T)) fun da ea=>
 bw.bC da fun fa=>
 aC fa fun ga ia=>
 aY .i64 ga fun ja=>
 aC ia fun ka la=>
 aY .u64 ka fun ma=>
 aC la fun na oa=>
 (oa=[]∧
 fm na fun pa=>
 aA (!pa)
 (ay Pr lP [.int .i64 8] ea fun qa sa=>
 R (.tuple ⟨[.pointer none,qa]⟩) sa)
 (st (Addr.add (Addr.add (base Y.a) (Int.toNat (Z - 1) * 5)) 3) (.int .i64 ja) ea fun ta=>
 st (Addr.add (Addr.add (base Y.a) (Int.toNat (Z - 1) * 5)) 4) (.int .u64 ma) ta fun ua=>
 ay Pr LF [.pointer (some M)] ua fun va xa=>
 aW va fun ya=>
 aA (!ya)
 (ay Pr lP [.int .i64 9] xa fun za Aa=>
 R (.tuple ⟨[.pointer none,za]⟩) Aa)
 (ay Pr KW [.pointer (some M)] xa fun Ba Ca=>
 R (.tuple ⟨[.pointer (some M),Ba]⟩) Ca))))))))
 (fun Da=>
 jz (fun (Ea:Bool)=>[(20,some (.bool Ea))])
 (fun Ea Fa=>aA Ea
 (ay Pr lP [.int .i64 2] Fa fun Ga Ia=>
 R (.tuple ⟨[.pointer none,Ga]⟩) Ia)
 (Da Fa))
 (fun Ja=>
 bD a d fun La Ma Na Oa Qa Sa=>
 ay Pr Hr [.agg ⟨[.int .i64 La,.slice Ma.a Ma.n Ma.c,.slice Na.a Na.n Na.c,.slice Oa.a Oa.n Oa.c,.slice Qa.a Qa.n Qa.c,.slice Sa.a Sa.n Sa.c]⟩] d fun Ta Ua=>
 aW Ta fun Va=>
 jH c Ua fun Xa Ya Za ab bb cb db eb fb gb ib jb kb lb=>
 aA (!Va)
 (Ja true Ua)
 (ay Pr QJ [.agg ⟨[.int .i64 Xa,.int .i64 Ya,.int .i64 Za,.int .i64 ab,.int .i64 bb,.int .i64 cb,.int .i64 db,.int .i64 eb,.int .i64 fb,.int .i64 gb,.int .i64 ib,.string jb,.slice kb.a kb.n kb.c,.slice lb.a lb.n lb.c]⟩] Ua fun mb nb=>
 aW mb fun ob=>
 Ja (!ob) nb)))
theorem aeh {cW:Int} {bL:ah} {bM:ah} {bR:ah} {bS:ah} {bT:ah} {dP:Int} {dD:Int} {dF:Int} {cS:Int} {fu:Int} {fy:Int} {gP:Int} {gQ:Int} {gR:Int} {gS:Int} {gI:Int} {gJ:ByteArray} {dL:ah} {dM:ah} {aq:ah} {w:World} {R:Value→World→Prop} (h:NB cW bL bM bR bS bT dP dD dF cS fu fy gP gQ gR gS gI gJ dL dM aq w R):Ok Pr MP [.agg ⟨[.int .i64 cW,.slice bL.a bL.n bL.c,.slice bM.a bM.n bM.c,.slice bR.a bR.n bR.c,.slice bS.a bS.n bS.c,.slice bT.a bT.n bT.c]⟩,.agg ⟨[.int .i64 dP,.int .i64 dD,.int .i64 dF,.int .i64 cS,.int .i64 fu,.int .i64 fy,.int .i64 gP,.int .i64 gQ,.int .i64 gR,.int .i64 gS,.int .i64 gI,.string gJ,.slice dL.a dL.n dL.c,.slice dM.a dM.n dM.c]⟩,.slice aq.a aq.n aq.c] w R:=
 aL (m:=⟨true,true⟩) (J:=[(3,[]),(2,[(20,.bool)])]) (L:=[]) aJ Tryz.func27 (by kernel_rfl) ((by kernel_rfl:aK Pr _ _ _ Tryz.f27 _ w R=NB cW bL bM bR bS bT dP dD dF cS fu fy gP gQ gR gS gI gJ dL dM aq w R).mpr h)
def MN (j:Option Addr) (w:World) (R:Value→World→Prop):Prop:=
 nw bI (zc Pr bI) w fun a b=>
 jL []
 (fun c=>ay Pr K5 [.pointer j] c fun d e=>
 bw.bC d fun f=>
 aC f fun g i=>
 fR g fun k l m n=>
 aC i fun o p=>
 (p=[]∧
 bN a k l m n e fun q=>
 cI a q fun s t u v=>
 R (.tuple ⟨[.agg ⟨[.int .i64 s,.int .i64 t,.slice u.a u.n u.c,.slice v.a v.n v.c]⟩,o]⟩) q))
 (fun x=>
 bB j fun y=>
 an .i64 (Addr.add (Addr.add y 0) 2) b fun z=>
 aA (decide (z=1))
 (ay Pr K0 [.pointer j] b fun A B=>
 bw.bC A fun C=>
 aC C fun D E=>
 fR D fun F G I J=>
 aC E fun L M=>
 (M=[]∧
 bN a F G I J B fun N=>
 cI a N fun O Q S T=>
 R (.tuple ⟨[.agg ⟨[.int .i64 O,.int .i64 Q,.slice S.a S.n S.c,.slice T.a T.n T.c]⟩,L]⟩) N))
 (aA (decide (z=2))
 (ay Pr K1 [.pointer j] b fun U V=>
 bw.bC U fun X=>
 aC X fun Y Z=>
 fR Y fun aa ba ca da=>
 aC Z fun ea fa=>
 (fa=[]∧
 bN a aa ba ca da V fun ga=>
 cI a ga fun ia ja ka la=>
 R (.tuple ⟨[.agg ⟨[.int .i64 ia,.int .i64 ja,.slice ka.a ka.n ka.c,.slice la.a la.n la.c]⟩,ea]⟩) ga))
 (aA (decide (z=3))
 (ay Pr K4 [.pointer j] b fun ma na=>
 bw.bC ma fun oa=>
 aC oa fun pa qa=>
 fR pa fun sa ta ua va=>
 aC qa fun xa ya=>
 (ya=[]∧
 bN a sa ta ua va na fun za=>
 cI a za fun Aa Ba Ca Da=>
 R (.tuple ⟨[.agg ⟨[.int .i64 Aa,.int .i64 Ba,.slice Ca.a Ca.n Ca.c,.slice Da.a Da.n Da.c]⟩,xa]⟩) za))
 (jz (fun (Ea:Bool)=>[(27,some (.bool Ea))])
 (fun Ea Fa=>aA Ea
 (ay Pr LQ [.pointer j] Fa fun Ga Ia=>
 bw.bC Ga fun Ja=>
 aC Ja fun La Ma=>
 fR La fun Na Oa Qa Sa=>
 aC Ma fun Ta Ua=>
 (Ua=[]∧
 bN a Na Oa Qa Sa Ia fun Va=>
 cI a Va fun Xa Ya Za ab=>
 R (.tuple ⟨[.agg ⟨[.int .i64 Xa,.int .i64 Ya,.slice Za.a Za.n Za.c,.slice ab.a ab.n ab.c]⟩,Ta]⟩) Va))
 (jz (fun (bb:Bool)=>[(35,some (.bool bb))])
 (fun bb cb=>aA bb
 (ay Pr Lu [.pointer j] cb fun db eb=>
 bw.bC db fun fb=>
 aC fb fun gb ib=>
 fR gb fun jb kb lb mb=>
 aC ib fun nb ob=>
 (ob=[]∧
 bN a jb kb lb mb eb fun pb=>
 cI a pb fun qb sb tb ub=>
 R (.tuple ⟨[.agg ⟨[.int .i64 qb,.int .i64 sb,.slice tb.a tb.n tb.c,.slice ub.a ub.n ub.c]⟩,nb]⟩) pb))
 (x cb))
 (fun vb=>
 aA (decide (z=12))
 (vb (decide (z=12)) Fa)
 (vb (decide (z=13)) Fa))))
 (fun xb=>
 aA (decide (z=9))
 (xb (decide (z=9)) b)
 (aA (decide (z=10))
 (xb (decide (z=10)) b)
 (xb (decide (z=11)) b)))))))
theorem adI {j:Option Addr} {w:World} {R:Value→World→Prop} (h:MN j w R):Ok Pr Mr [.pointer j] w R:=
 aL (m:=⟨true,true⟩) (J:=[(15,[]),(11,[(27,.bool)]),(14,[(35,.bool)])]) (L:=[]) aJ Tryz.func28 (by kernel_rfl) ((by kernel_rfl:aK Pr _ _ _ Tryz.f28 _ w R=MN j w R).mpr h)
def NC (code:Int) (w:World) (R:Value→World→Prop):Prop:=
 nw pI [.int .i64 code,.string akQ] w fun a b=>
 R (.iface jw (.pointer (some a))) b
theorem aei {code:Int} {w:World} {R:Value→World→Prop} (h:NC code w R):Ok Pr lP [.int .i64 code] w R:=
 aL (m:=⟨true,true⟩) (J:=[]) (L:=[]) aJ Tryz.func35 (by kernel_rfl) ((by kernel_rfl:aK Pr _ _ _ Tryz.f35 _ w R=NC code w R).mpr h)
def ND (fC:Int) (many:Int) (w:World) (R:Value→World→Prop):Prop:=
 R (.bool ((decide (1≤fC)) && (decide (fC≤many)))) w
theorem aej {fC:Int} {many:Int} {w:World} {R:Value→World→Prop} (h:ND fC many w R):Ok Pr yJ [.int .i64 fC,.int .i64 many] w R:=
 aL (m:=⟨true,true⟩) (J:=[]) (L:=[]) aJ Tryz.func51 (by kernel_rfl) ((by kernel_rfl:aK Pr _ _ _ Tryz.f51 _ w R=ND fC many w R).mpr h)
def LO (j:Option Addr) (w:World) (R:Value→World→Prop):Prop:=
 jL []
 (fun a=>bB j fun b=>
 an .i64 (Addr.add (Addr.add b 0) 4) (World.drew a) fun c=>
 bB j fun d=>
 ax (Addr.add (Addr.add d 14) 4) (World.drew a) fun e=>
 ay Pr yJ [.int .i64 c,.int .i64 (e.n:Int)] (World.drew a) fun f g=>
 aW f fun i=>
 aA (!i)
 (R (.bool false) g)
 (bB j fun k=>
 ax (Addr.add (Addr.add k 14) 4) (World.drew g) fun l=>
 bB j fun m=>
 an .i64 (Addr.add (Addr.add m 0) 4) (World.drew g) fun n=>
 (aF (n - 1)∧
 aQ l.a (n - 1) l.n
 (bA (Addr.add (base l.a) (Int.toNat (n - 1) * 4)) (World.drew g) fun o p q s=>
 nw aV (zc Pr aV) (World.drew g) fun t u=>
 (kept (Addr.add (base l.a) (Int.toNat (n - 1) * 4)) 4 (World.drew g) u∧
 (kept (Addr.add (Addr.add m 0) 4) 1 (World.drew g) u∧
 (kept (Addr.add (Addr.add k 14) 4) 1 (World.drew g) u∧
 cF t o p q s u fun v=>
 an .i64 (Addr.add t 1) v fun x=>
 bB j fun y=>
 st (Addr.add y 20) (.int .i64 x) v fun z=>
 bB j fun A=>
 an .i64 (Addr.add (Addr.add A 0) 2) z fun B=>
 jz (fun (C:Bool)=>[(104,some (.bool C))])
 (fun C D=>aA C
 (bA t (World.drew D) fun E F G I=>
 bB j fun J=>
 an .i64 (Addr.add (Addr.add J 0) 5) (World.drew D) fun L=>
 ((ay Pr yN [.agg ⟨[.int .i64 E,.int .i64 F,.int .i64 G,.slice I.a I.n I.c]⟩,.int .i64 L] (World.drew D) fun M N=>
 bw.bC M fun O=>
 aC O fun Q S=>
 uP Q fun T U V X=>
 aC S fun Y Z=>
 aW Y fun aa=>
 (Z=[]∧
 nw cw (zc Pr cw) N fun ba ca=>
 (kept (Addr.add (Addr.add J 0) 5) 1 N ca∧
 (kept t 4 N ca∧
 fz ba T U V X ca fun da=>
 R (.bool aa) da))))∧
 (nw cw (zc Pr cw) (World.drew D) fun ea fa=>
 (kept (Addr.add (Addr.add J 0) 5) 1 (World.drew D) fa∧
 (kept t 4 (World.drew D) fa∧
 ay Pr yN [.agg ⟨[.int .i64 E,.int .i64 F,.int .i64 G,.slice I.a I.n I.c]⟩,.int .i64 L] fa fun ga ia=>
 bw.bC ga fun ja=>
 aC ja fun ka la=>
 uP ka fun ma na oa pa=>
 aC la fun qa sa=>
 aW qa fun ta=>
 (sa=[]∧
 fz ea ma na oa pa ia fun ua=>
 R (.bool ta) ua))))))
 (aA (decide (B=12))
 (bB j fun va=>
 an .i64 (Addr.add (Addr.add va 0) 8) (World.drew D) fun xa=>
 bB j fun ya=>
 ax (Addr.add (Addr.add ya 14) 3) (World.drew D) fun za=>
 ay Pr yJ [.int .i64 xa,.int .i64 (za.n:Int)] (World.drew D) fun Aa Ba=>
 aW Aa fun Ca=>
 R (.bool Ca) Ba)
 (R (.bool true) D)))
 (fun Da=>
 aA (decide (B=5))
 (Da (decide (B=5)) z)
 (aA (decide (B=6))
 (Da (decide (B=6)) z)
 (aA (decide (B=7))
 (Da (decide (B=7)) z)
 (aA (decide (B=8))
 (Da (decide (B=8)) z)
 (aA (decide (B=10))
 (Da (decide (B=10)) z)
 (Da (decide (B=11)) z)))))))))))))
 (fun Ea=>
 bB j fun Fa=>
 an .i64 (Addr.add (Addr.add Fa 0) 2) w fun Ga=>
 jz (fun (Ia:Bool)=>[(11,some (.bool Ia))])
 (fun Ia Ja=>aA Ia
 (bB j fun La=>
 an .i64 (Addr.add (Addr.add La 0) 3) Ja fun Ma=>
 bB j fun Na=>
 st (Addr.add Na 20) (.int .i64 Ma) Ja fun Oa=>
 bB j fun Qa=>
 an .i64 (Addr.add (Addr.add Qa 0) 3) (World.drew Oa) fun Sa=>
 bB j fun Ta=>
 ax (Addr.add (Addr.add Ta 14) 2) (World.drew Oa) fun Ua=>
 ay Pr yJ [.int .i64 Sa,.int .i64 (Ua.n:Int)] (World.drew Oa) fun Va Xa=>
 aW Va fun Ya=>
 R (.bool Ya) Xa)
 (aA (decide (Ga=13))
 (bB j fun Za=>
 an .i64 (Addr.add (Addr.add Za 0) 7) (World.drew Ja) fun ab=>
 bB j fun bb=>
 ax (Addr.add (Addr.add bb 14) 5) (World.drew Ja) fun cb=>
 ay Pr yJ [.int .i64 ab,.int .i64 (cb.n:Int)] (World.drew Ja) fun db eb=>
 aW db fun fb=>
 aA (!fb)
 (R (.bool false) eb)
 (bB j fun gb=>
 ax (Addr.add (Addr.add gb 14) 5) (World.drew eb) fun ib=>
 bB j fun jb=>
 an .i64 (Addr.add (Addr.add jb 0) 7) (World.drew eb) fun kb=>
 (aF (kb - 1)∧
 aQ ib.a (kb - 1) ib.n
 (an .i64 (Addr.add (Addr.add (base ib.a) (Int.toNat (kb - 1) * 6)) 1) (World.drew eb) fun lb=>
 bB j fun mb=>
 st (Addr.add (Addr.add mb 0) 4) (.int .i64 lb) (World.drew eb) fun nb=>
 Ea nb))))
 (Ea Ja)))
 (fun ob=>
 aA (decide (Ga=1))
 (ob (decide (Ga=1)) w)
 (aA (decide (Ga=2))
 (ob (decide (Ga=2)) w)
 (ob (decide (Ga=3)) w))))
theorem acU {j:Option Addr} {w:World} {R:Value→World→Prop} (h:LO j w R):Ok Pr LF [.pointer j] w R:=
 aL (m:=⟨true,true⟩) (J:=[(11,[]),(5,[(11,.bool)]),(22,[(104,.bool)])]) (L:=[]) aJ Tryz.func53 (by kernel_rfl) ((by kernel_rfl:aK Pr _ _ _ Tryz.f53 _ w R=LO j w R).mpr h)
def KY (j:Option Addr) (w:World) (R:Value→World→Prop):Prop:=
 bB j fun a=>
 ax (Addr.add (Addr.add a 14) 3) (World.drew w) fun b=>
 bB j fun c=>
 an .i64 (Addr.add (Addr.add c 0) 0) (World.drew w) fun d=>
 (aF (d - 1)∧
 aQ b.a (d - 1) b.n
 (an .i64 (Addr.add (Addr.add (base b.a) (Int.toNat (d - 1) * 5)) 1) (World.drew w) fun e=>
 bB j fun f=>
 ax (Addr.add (Addr.add f 14) 2) (World.drew (World.drew w)) fun g=>
 bB j fun i=>
 an .i64 (Addr.add i 20) (World.drew (World.drew w)) fun k=>
 ay Pr LU [.slice g.a g.n g.c,.int .i64 e,.int .i64 k] (World.drew (World.drew w)) fun l m=>
 aW l fun n=>
 aA n
 (R (.nilIface) m)
 (bB j fun o=>
 an .i64 (Addr.add (Addr.add o 0) 2) m fun p=>
 jz (fun (q:Bool)=>[(36,some (.bool q))])
 (fun q s=>aA q
 (tQ (fun (t:Addr) (u:Value)=>[(4,some (.pointer (some t))),(5,some (u))])
 (fun t u v=>fm u fun x=>
 aA (!x)
 (R u v)
 (iJ t (World.drew v) fun y z A B C D=>
 bB j fun E=>
 an .i64 (Addr.add (Addr.add E 0) 4) (World.drew v) fun F=>
 bB j fun G=>
 an .i64 (Addr.add (Addr.add G 0) 0) (World.drew v) fun I=>
 bB j fun J=>
 an .i64 (Addr.add (Addr.add J 0) 2) (World.drew v) fun L=>
 bB j fun M=>
 an .i64 (Addr.add (Addr.add M 14) 0) (World.drew v) fun N=>
 ay Pr LV [.agg ⟨[.int .i64 y,.int .i64 z,.int .i64 A,.int .i64 B,.int .i64 C,.bool D]⟩,.int .i64 F,.int .i64 I,.int .i64 L,.int .i64 N] (World.drew v) fun O Q=>
 R O Q))
 (fun S=>
 bB j fun T=>
 ax (Addr.add (Addr.add T 14) 5) (World.drew s) fun U=>
 bB j fun V=>
 ax (Addr.add (Addr.add V 14) 1) (World.drew s) fun X=>
 bB j fun Y=>
 ax (Addr.add (Addr.add Y 0) 13) (World.drew s) fun Z=>
 ((ay Pr GV [.slice U.a U.n U.c,.slice X.a X.n X.c,.slice Z.a Z.n Z.c] (World.drew s) fun aa ba=>
 bw.bC aa fun ca=>
 aC ca fun da ea=>
 NT da fun fa ga ia ja ka la=>
 aC ea fun ma na=>
 (na=[]∧
 nw cB (zc Pr cB) ba fun oa pa=>
 (kept (Addr.add (Addr.add Y 0) 13) 1 ba pa∧
 (kept (Addr.add (Addr.add V 14) 1) 1 ba pa∧
 (kept (Addr.add (Addr.add T 14) 5) 1 ba pa∧
 oB oa fa ga ia ja ka la pa fun qa=>
 S oa ma qa)))))∧
 (nw cB (zc Pr cB) (World.drew s) fun sa ta=>
 (kept (Addr.add (Addr.add Y 0) 13) 1 (World.drew s) ta∧
 (kept (Addr.add (Addr.add V 14) 1) 1 (World.drew s) ta∧
 (kept (Addr.add (Addr.add T 14) 5) 1 (World.drew s) ta∧
 ay Pr GV [.slice U.a U.n U.c,.slice X.a X.n X.c,.slice Z.a Z.n Z.c] ta fun ua va=>
 bw.bC ua fun xa=>
 aC xa fun ya za=>
 NT ya fun Aa Ba Ca Da Ea Fa=>
 aC za fun Ga Ia=>
 (Ia=[]∧
 oB sa Aa Ba Ca Da Ea Fa va fun Ja=>
 S sa Ga Ja))))))))
 (ay Pr lP [.int .i64 10] s fun La Ma=>
 R La Ma))
 (fun Na=>
 aA (decide (p=9))
 (Na (decide (p=9)) m)
 (aA (decide (p=10))
 (Na (decide (p=10)) m)
 (Na (decide (p=11)) m))))))
theorem aco {j:Option Addr} {w:World} {R:Value→World→Prop} (h:KY j w R):Ok Pr KW [.pointer j] w R:=
 aL (m:=⟨true,true⟩) (J:=[(8,[(36,.bool)]),(9,[(4,.x6),(5,.val)])]) (L:=[]) aJ Tryz.func54 (by kernel_rfl) ((by kernel_rfl:aK Pr _ _ _ Tryz.f54 _ w R=KY j w R).mpr h)
def Ll (j:Option Addr) (w:World) (R:Value→World→Prop):Prop:=
 nw bI (zc Pr bI) w fun a b=>
 bB j fun c=>
 ax (Addr.add (Addr.add c 14) 2) (World.drew b) fun d=>
 bB j fun e=>
 an .i64 (Addr.add (Addr.add e 0) 3) (World.drew b) fun f=>
 bB j fun g=>
 gp (Addr.add (Addr.add g 0) 11) (World.drew b) fun i=>
 ay Pr MU [.slice d.a d.n d.c,.int .i64 f,.string i] (World.drew b) fun k l=>
 bw.bC k fun m=>
 aC m fun n o=>
 aU n fun p=>
 aC o fun q s=>
 aY .i64 q fun t=>
 aC s fun u v=>
 (v=[]∧
 bB j fun x=>
 st (Addr.add (Addr.add x 14) 2) (.slice p.a p.n p.c) l fun y=>
 bN a 0 t ⟨none,0,0⟩ ⟨none,0,0⟩ y fun z=>
 cI a z fun A B C D=>
 R (.tuple ⟨[.agg ⟨[.int .i64 A,.int .i64 B,.slice C.a C.n C.c,.slice D.a D.n D.c]⟩,u]⟩) z)
theorem acs {j:Option Addr} {w:World} {R:Value→World→Prop} (h:Ll j w R):Ok Pr K0 [.pointer j] w R:=
 aL (m:=⟨true,true⟩) (J:=[]) (L:=[]) aJ Tryz.func55 (by kernel_rfl) ((by kernel_rfl:aK Pr _ _ _ Tryz.f55 _ w R=Ll j w R).mpr h)
def Lm (j:Option Addr) (w:World) (R:Value→World→Prop):Prop:=
 nw bI (zc Pr bI) w fun a b=>
 ay Pr Hh [.int .i64 1] b fun c d=>
 bw.bC c fun e=>
 aC e fun f g=>
 aY .i64 f fun i=>
 aC g fun k l=>
 aY .i64 k fun m=>
 aC l fun n o=>
 aY .i64 n fun p=>
 (o=[]∧
 bB j fun q=>
 ax (Addr.add (Addr.add q 0) 12) d fun s=>
 aA (!decide ((s.n:Int)=i))
 (ay Pr lP [.int .i64 3] d fun t u=>
 bN a 0 0 ⟨none,0,0⟩ ⟨none,0,0⟩ u fun v=>
 cI a v fun x y z B=>
 R (.tuple ⟨[.agg ⟨[.int .i64 x,.int .i64 y,.slice z.a z.n z.c,.slice B.a B.n B.c]⟩,t]⟩) v)
 (bB j fun C=>
 ax (Addr.add (Addr.add C 14) 3) d fun D=>
 aA (decide ((D.n:Int)=6))
 (ay Pr lP [.int .i64 12] d fun E F=>
 bN a 0 0 ⟨none,0,0⟩ ⟨none,0,0⟩ F fun G=>
 cI a G fun I J L M=>
 R (.tuple ⟨[.agg ⟨[.int .i64 I,.int .i64 J,.slice L.a L.n L.c,.slice M.a M.n M.c]⟩,E]⟩) G)
 (bB j fun N=>
 ax (Addr.add (Addr.add N 14) 3) d fun O=>
 (aF ((O.n:Int)+1)∧
 lt (A:=Int) ((O.n:Int)+1) fun Q=>
 bB j fun S=>
 ax (Addr.add (Addr.add S 14) 3) (World.drew d) fun T=>
 bB j fun U=>
 an .i64 (Addr.add (Addr.add U 0) 3) (World.drew d) fun V=>
 bB j fun X=>
 ax (Addr.add (Addr.add X 0) 12) (World.drew d) fun Y=>
 nw eu [.int .i64 Q,.int .i64 V,.slice Y.a Y.n Y.c,.int .i64 0,.int .u64 0] (World.drew d) fun Z aa=>
 (kept (Addr.add (Addr.add S 14) 3) 1 (World.drew d) aa∧
 cJ Pr [th,th] th [.slice T.a T.n T.c,.slice (some Z) 1 1] aa fun ba ca=>
 bB j fun da=>
 st (Addr.add (Addr.add da 14) 3) (.slice ba.a ba.n ba.c) ca fun ea=>
 bB j fun fa=>
 bD (Addr.add fa 14) ea fun ga ia ja ka la ma=>
 ay Pr DJ [.agg ⟨[.int .i64 ga,.slice ia.a ia.n ia.c,.slice ja.a ja.n ja.c,.slice ka.a ka.n ka.c,.slice la.a la.n la.c,.slice ma.a ma.n ma.c]⟩] ea fun na oa=>
 dB na fun pa qa sa ta ua va=>
 bB j fun xa=>
 bE (Addr.add xa 14) pa qa sa ta ua va oa fun ya=>
 bN a 0 Q ⟨none,0,0⟩ ⟨none,0,0⟩ ya fun za=>
 cI a za fun Aa Ba Ca Da=>
 R (.tuple ⟨[.agg ⟨[.int .i64 Aa,.int .i64 Ba,.slice Ca.a Ca.n Ca.c,.slice Da.a Da.n Da.c]⟩,.nilIface]⟩) za)))))
theorem acu {j:Option Addr} {w:World} {R:Value→World→Prop} (h:Lm j w R):Ok Pr K1 [.pointer j] w R:=
 aL (m:=⟨true,true⟩) (J:=[]) (L:=[]) aJ Tryz.func56 (by kernel_rfl) ((by kernel_rfl:aK Pr _ _ _ Tryz.f56 _ w R=Lm j w R).mpr h)
def Lo (j:Option Addr) (w:World) (R:Value→World→Prop):Prop:=
 nw bI (zc Pr bI) w fun a b=>
 jL []
 (fun c=>bB j fun d=>
 ax (Addr.add (Addr.add d 14) 4) c fun e=>
 (aF ((e.n:Int)+1)∧
 lt (A:=Int) ((e.n:Int)+1) fun f=>
 tQ (fun (g:Addr) (i:Value)=>[(5,some (.pointer (some g))),(6,some (i))])
 (fun g i k=>fm i fun l=>
 aA (!l)
 (bN a 0 0 ⟨none,0,0⟩ ⟨none,0,0⟩ k fun m=>
 cI a m fun n o p q=>
 R (.tuple ⟨[.agg ⟨[.int .i64 n,.int .i64 o,.slice p.a p.n p.c,.slice q.a q.n q.c]⟩,i]⟩) m)
 (bB j fun s=>
 ax (Addr.add (Addr.add s 14) 4) (World.drew k) fun t=>
 bA g (World.drew k) fun u v x y=>
 nw aV [.int .i64 u,.int .i64 v,.int .i64 x,.slice y.a y.n y.c] (World.drew k) fun z B=>
 (kept (Addr.add (Addr.add s 14) 4) 1 (World.drew k) B∧
 cJ Pr [tr,tr] tr [.slice t.a t.n t.c,.slice (some z) 1 1] B fun C D=>
 bB j fun E=>
 st (Addr.add (Addr.add E 14) 4) (.slice C.a C.n C.c) D fun F=>
 bA g F fun G I J L=>
 ay Pr G5 [.agg ⟨[.int .i64 G,.int .i64 I,.int .i64 J,.slice L.a L.n L.c]⟩,.int .i64 1] F fun M N=>
 bw.bC M fun O=>
 aC O fun Q S=>
 aU Q fun T=>
 aC S fun U V=>
 (V=[]∧
 bN a 0 f T ⟨none,0,0⟩ N fun X=>
 cI a X fun Y Z aa ba=>
 R (.tuple ⟨[.agg ⟨[.int .i64 Y,.int .i64 Z,.slice aa.a aa.n aa.c,.slice ba.a ba.n ba.c]⟩,U]⟩) X))))
 (fun ca=>
 bB j fun da=>
 an .i64 (Addr.add (Addr.add da 0) 3) (World.drew c) fun ea=>
 bB j fun fa=>
 an .i64 (Addr.add (Addr.add fa 0) 6) (World.drew c) fun ga=>
 bB j fun ia=>
 ax (Addr.add ia 21) (World.drew c) fun ja=>
 ((ay Pr HJ [.int .i64 f,.int .i64 ea,.int .i64 ga,.slice ja.a ja.n ja.c] (World.drew c) fun ka la=>
 bw.bC ka fun ma=>
 aC ma fun na oa=>
 rF na fun pa qa sa ta=>
 aC oa fun ua va=>
 (va=[]∧
 nw aV (zc Pr aV) la fun xa ya=>
 (kept (Addr.add ia 21) 1 la ya∧
 (kept (Addr.add (Addr.add fa 0) 6) 1 la ya∧
 (kept (Addr.add (Addr.add da 0) 3) 1 la ya∧
 cF xa pa qa sa ta ya fun za=>
 ca xa ua za)))))∧
 (nw aV (zc Pr aV) (World.drew c) fun Aa Ba=>
 (kept (Addr.add ia 21) 1 (World.drew c) Ba∧
 (kept (Addr.add (Addr.add fa 0) 6) 1 (World.drew c) Ba∧
 (kept (Addr.add (Addr.add da 0) 3) 1 (World.drew c) Ba∧
 ay Pr HJ [.int .i64 f,.int .i64 ea,.int .i64 ga,.slice ja.a ja.n ja.c] Ba fun Ca Da=>
 bw.bC Ca fun Ea=>
 aC Ea fun Fa Ga=>
 rF Fa fun Ia Ja La Ma=>
 aC Ga fun Na Oa=>
 (Oa=[]∧
 cF Aa Ia Ja La Ma Da fun Qa=>
 ca Aa Na Qa)))))))))
 (fun Sa=>
 jz (fun (Ta:Bool)=>[(8,some (.bool Ta))])
 (fun Ta Ua=>aA Ta
 (ay Pr lP [.int .i64 2] Ua fun Va Xa=>
 bN a 0 0 ⟨none,0,0⟩ ⟨none,0,0⟩ Xa fun Ya=>
 cI a Ya fun Za ab bb cb=>
 R (.tuple ⟨[.agg ⟨[.int .i64 Za,.int .i64 ab,.slice bb.a bb.n bb.c,.slice cb.a cb.n cb.c]⟩,Va]⟩) Ya)
 (bB j fun db=>
 ax (Addr.add db 21) Ua fun eb=>
 aA (!decide ((eb.n:Int)=64))
 (ay Pr lP [.int .i64 3] Ua fun fb gb=>
 bN a 0 0 ⟨none,0,0⟩ ⟨none,0,0⟩ gb fun ib=>
 cI a ib fun jb kb lb mb=>
 R (.tuple ⟨[.agg ⟨[.int .i64 jb,.int .i64 kb,.slice lb.a lb.n lb.c,.slice mb.a mb.n mb.c]⟩,fb]⟩) ib)
 (bB j fun nb=>
 ax (Addr.add (Addr.add nb 14) 4) Ua fun ob=>
 aA (decide ((ob.n:Int)=6))
 (ay Pr lP [.int .i64 12] Ua fun pb qb=>
 bN a 0 0 ⟨none,0,0⟩ ⟨none,0,0⟩ qb fun sb=>
 cI a sb fun tb ub vb xb=>
 R (.tuple ⟨[.agg ⟨[.int .i64 tb,.int .i64 ub,.slice vb.a vb.n vb.c,.slice xb.a xb.n xb.c]⟩,pb]⟩) sb)
 (Sa Ua))))
 (fun yb=>
 bB j fun zb=>
 an .i64 (Addr.add (Addr.add zb 0) 6) b fun Ab=>
 aA (decide (Ab<1))
 (yb true b)
 (bB j fun Bb=>
 an .i64 (Addr.add (Addr.add Bb 0) 6) b fun Cb=>
 yb (decide (3<Cb)) b)))
theorem acv {j:Option Addr} {w:World} {R:Value→World→Prop} (h:Lo j w R):Ok Pr K4 [.pointer j] w R:=
 aL (m:=⟨true,true⟩) (J:=[(7,[]),(2,[(8,.bool)]),(9,[(5,.x6),(6,.val)])]) (L:=[]) aJ Tryz.func57 (by kernel_rfl) ((by kernel_rfl:aK Pr _ _ _ Tryz.f57 _ w R=Lo j w R).mpr h)
def Mo (j:Option Addr) (w:World) (R:Value→World→Prop):Prop:=
 nw bI (zc Pr bI) w fun a b=>
 bB j fun c=>
 ax (Addr.add (Addr.add c 14) 4) (World.drew b) fun d=>
 bB j fun e=>
 an .i64 (Addr.add (Addr.add e 0) 4) (World.drew b) fun f=>
 (aF (f - 1)∧
 aQ d.a (f - 1) d.n
 (bA (Addr.add (base d.a) (Int.toNat (f - 1) * 4)) (World.drew b) fun g i k l=>
 nw aV (zc Pr aV) (World.drew b) fun m n=>
 (kept (Addr.add (base d.a) (Int.toNat (f - 1) * 4)) 4 (World.drew b) n∧
 (kept (Addr.add (Addr.add e 0) 4) 1 (World.drew b) n∧
 (kept (Addr.add (Addr.add c 14) 4) 1 (World.drew b) n∧
 cF m g i k l n fun o=>
 nw bI (zc Pr bI) o fun p q=>
 jz (fun (s:ah)=>[(6,some (.slice s.a s.n s.c))])
 (fun s t=>cX (fun (u:Int)=>[(78,some (.int .i64 u))])
 (fun v u x=>aA (decide (u<(s.n:Int)))
 (aQ s.a u s.n
 (an .u8 (Addr.add (base s.a) (Int.toNat u * 1)) x fun y=>
 ax (Addr.add p 3) x fun z=>
 aQ z.a u z.n
 (an .u8 (Addr.add (base z.a) (Int.toNat u * 1)) x fun A=>
 aQ z.a u z.n
 (st (Addr.add (base z.a) (Int.toNat u * 1)) (.int .u8 (oN .u8 A y)) x fun B=>
 (aF (u+1)∧
 v (u+1) B)))))
 (cI p x fun C D E F=>
 bN a C D E F x fun G=>
 cI a G fun I J L M=>
 R (.tuple ⟨[.agg ⟨[.int .i64 I,.int .i64 J,.slice L.a L.n L.c,.slice M.a M.n M.c]⟩,.nilIface]⟩) G))
 0 t)
 (fun N=>
 bB j fun O=>
 an .i64 (Addr.add (Addr.add O 0) 2) q fun Q=>
 jz (fun (S:ah)=>[(6,some (.slice S.a S.n S.c))])
 (fun S T=>bA m (World.drew T) fun U V X Y=>
 bB j fun Z=>
 ax (Addr.add Z 21) (World.drew T) fun aa=>
 ay Pr OO [.agg ⟨[.int .i64 U,.int .i64 V,.int .i64 X,.slice Y.a Y.n Y.c]⟩,.slice aa.a aa.n aa.c] (World.drew T) fun ba ca=>
 bw.bC ba fun da=>
 aC da fun ea fa=>
 aY .i64 ea fun ga=>
 aC fa fun ia ja=>
 aU ia fun ka=>
 aC ja fun la ma=>
 aU la fun na=>
 aC ma fun oa pa=>
 (pa=[]∧
 st (Addr.add p 1) (.int .i64 ga) ca fun qa=>
 st (Addr.add p 2) (.slice ka.a ka.n ka.c) qa fun sa=>
 st (Addr.add p 3) (.slice na.a na.n na.c) sa fun ta=>
 fm oa fun ua=>
 aA (!ua)
 (bN a 0 0 ⟨none,0,0⟩ ⟨none,0,0⟩ ta fun va=>
 cI a va fun xa ya za Aa=>
 R (.tuple ⟨[.agg ⟨[.int .i64 xa,.int .i64 ya,.slice za.a za.n za.c,.slice Aa.a Aa.n Aa.c]⟩,oa]⟩) va)
 (N S ta)))
 (fun Ba=>
 jL []
 (fun Ca=>bA m (World.drew Ca) fun Da Ea Fa Ga=>
 bB j fun Ia=>
 an .i64 (Addr.add (Addr.add Ia 0) 5) (World.drew Ca) fun Ja=>
 bB j fun La=>
 ax (Addr.add (Addr.add La 0) 12) (World.drew Ca) fun Ma=>
 ay Pr ON [.agg ⟨[.int .i64 Da,.int .i64 Ea,.int .i64 Fa,.slice Ga.a Ga.n Ga.c]⟩,.int .i64 Ja,.slice Ma.a Ma.n Ma.c] (World.drew Ca) fun Na Oa=>
 bw.bC Na fun Qa=>
 aC Qa fun Sa Ta=>
 aU Sa fun Ua=>
 aC Ta fun Va Xa=>
 (Xa=[]∧
 fm Va fun Ya=>
 aA (!Ya)
 (cI p Oa fun Za ab bb cb=>
 bN a Za ab bb cb Oa fun db=>
 cI a db fun eb fb gb ib=>
 R (.tuple ⟨[.agg ⟨[.int .i64 eb,.int .i64 fb,.slice gb.a gb.n gb.c,.slice ib.a ib.n ib.c]⟩,Va]⟩) db)
 (bB j fun jb=>
 an .i64 (Addr.add (Addr.add jb 0) 2) Oa fun kb=>
 aA (decide (kb=10))
 (bN a 0 0 Ua ⟨none,0,0⟩ Oa fun lb=>
 cI a lb fun mb nb ob pb=>
 R (.tuple ⟨[.agg ⟨[.int .i64 mb,.int .i64 nb,.slice ob.a ob.n ob.c,.slice pb.a pb.n pb.c]⟩,.nilIface]⟩) lb)
 (Ba Ua Oa))))
 (fun qb=>
 aA (decide (Q=11))
 (aA (decide (Q=11))
 (qb q)
 (Ba ⟨none,0,0⟩ q))
 (aA (decide (Q=10))
 (qb q)
 (Ba ⟨none,0,0⟩ q))))))))))
theorem adp {j:Option Addr} {w:World} {R:Value→World→Prop} (h:Mo j w R):Ok Pr LQ [.pointer j] w R:=
 aL (m:=⟨true,true⟩) (J:=[(16,[(6,.sl)]),(13,[(6,.sl)]),(8,[])]) (L:=[(17,[(78,.int .i64)])]) aJ Tryz.func58 (by kernel_rfl) ((by kernel_rfl:aK Pr _ _ _ Tryz.f58 _ w R=Mo j w R).mpr h)
def LC (j:Option Addr) (w:World) (R:Value→World→Prop):Prop:=
 nw bI (zc Pr bI) w fun a b=>
 bB j fun c=>
 an .i64 (Addr.add (Addr.add c 0) 2) b fun d=>
 aA (decide (d=13))
 (bB j fun e=>
 ax (Addr.add (Addr.add e 14) 5) (World.drew b) fun f=>
 bB j fun g=>
 an .i64 (Addr.add (Addr.add g 0) 7) (World.drew b) fun i=>
 ay Pr LW [.slice f.a f.n f.c,.int .i64 i] (World.drew b) fun k l=>
 bw.bC k fun m=>
 aC m fun n o=>
 aU n fun p=>
 aC o fun q s=>
 (s=[]∧
 bB j fun t=>
 st (Addr.add (Addr.add t 14) 5) (.slice p.a p.n p.c) l fun u=>
 bN a 0 0 ⟨none,0,0⟩ ⟨none,0,0⟩ u fun v=>
 cI a v fun x y z A=>
 R (.tuple ⟨[.agg ⟨[.int .i64 x,.int .i64 y,.slice z.a z.n z.c,.slice A.a A.n A.c]⟩,q]⟩) v))
 (bB j fun B=>
 an .i64 (Addr.add (Addr.add B 0) 10) (World.drew b) fun C=>
 bB j fun D=>
 an .i64 (Addr.add (Addr.add D 14) 0) (World.drew b) fun E=>
 aA (decide (C≤E))
 (ay Pr lP [.int .i64 2] (World.drew b) fun F G=>
 bN a 0 0 ⟨none,0,0⟩ ⟨none,0,0⟩ G fun I=>
 cI a I fun J L M N=>
 R (.tuple ⟨[.agg ⟨[.int .i64 J,.int .i64 L,.slice M.a M.n M.c,.slice N.a N.n N.c]⟩,F]⟩) I)
 (bB j fun O=>
 ax (Addr.add (Addr.add O 14) 5) (World.drew (World.drew b)) fun Q=>
 bB j fun S=>
 an .i64 (Addr.add (Addr.add S 0) 4) (World.drew (World.drew b)) fun T=>
 bB j fun U=>
 an .i64 (Addr.add (Addr.add U 0) 8) (World.drew (World.drew b)) fun V=>
 bB j fun X=>
 an .i64 (Addr.add (Addr.add X 0) 9) (World.drew (World.drew b)) fun Y=>
 bB j fun Z=>
 an .i64 (Addr.add (Addr.add Z 0) 10) (World.drew (World.drew b)) fun aa=>
 ay Pr NO [.slice Q.a Q.n Q.c,.agg ⟨[.int .i64 0,.int .i64 T,.int .i64 V,.int .i64 Y,.int .i64 aa,.bool false]⟩] (World.drew (World.drew b)) fun ba ca=>
 bw.bC ba fun da=>
 aC da fun ea fa=>
 aU ea fun ga=>
 aC fa fun ia ja=>
 aY .i64 ia fun ka=>
 aC ja fun la ma=>
 (ma=[]∧
 fm la fun na=>
 aA (!na)
 (bN a 0 0 ⟨none,0,0⟩ ⟨none,0,0⟩ ca fun oa=>
 cI a oa fun pa qa sa ta=>
 R (.tuple ⟨[.agg ⟨[.int .i64 pa,.int .i64 qa,.slice sa.a sa.n sa.c,.slice ta.a ta.n ta.c]⟩,la]⟩) oa)
 (bB j fun ua=>
 st (Addr.add (Addr.add ua 14) 5) (.slice ga.a ga.n ga.c) ca fun va=>
 bB j fun xa=>
 ax (Addr.add (Addr.add xa 14) 1) (World.drew va) fun ya=>
 (aF (ka - 1)∧
 aQ ga.a (ka - 1) ga.n
 (iJ (Addr.add (base ga.a) (Int.toNat (ka - 1) * 6)) (World.drew va) fun za Aa Ba Ca Da Ea=>
 ay Pr GX [.slice ya.a ya.n ya.c,.agg ⟨[.int .i64 za,.int .i64 Aa,.int .i64 Ba,.int .i64 Ca,.int .i64 Da,.bool Ea]⟩] (World.drew va) fun Fa Ga=>
 aU Fa fun Ia=>
 bN a 0 ka Ia ⟨none,0,0⟩ Ga fun Ja=>
 cI a Ja fun La Ma Na Oa=>
 R (.tuple ⟨[.agg ⟨[.int .i64 La,.int .i64 Ma,.slice Na.a Na.n Na.c,.slice Oa.a Oa.n Oa.c]⟩,.nilIface]⟩) Ja))))))
theorem acH {j:Option Addr} {w:World} {R:Value→World→Prop} (h:LC j w R):Ok Pr Lu [.pointer j] w R:=
 aL (m:=⟨true,true⟩) (J:=[]) (L:=[]) aJ Tryz.func59 (by kernel_rfl) ((by kernel_rfl:aK Pr _ _ _ Tryz.f59 _ w R=LC j w R).mpr h)
def Lp (j:Option Addr) (w:World) (R:Value→World→Prop):Prop:=
 nw bI (zc Pr bI) w fun a b=>
 bB j fun c=>
 ax (Addr.add (Addr.add c 14) 4) (World.drew b) fun d=>
 bB j fun e=>
 an .i64 (Addr.add (Addr.add e 0) 4) (World.drew b) fun f=>
 (aF (f - 1)∧
 aQ d.a (f - 1) d.n
 (nw bI (zc Pr bI) (World.drew b) fun g i=>
 bA (Addr.add (base d.a) (Int.toNat (f - 1) * 4)) i fun k l m n=>
 nw aV (zc Pr aV) i fun o p=>
 cF o k l m n p fun q=>
 jz (fun (s:Value)=>[(6,some (s))])
 (fun s t=>fm s fun u=>
 aA (!u)
 (bN a 0 0 ⟨none,0,0⟩ ⟨none,0,0⟩ t fun v=>
 cI a v fun x y z A=>
 R (.tuple ⟨[.agg ⟨[.int .i64 x,.int .i64 y,.slice z.a z.n z.c,.slice A.a A.n A.c]⟩,s]⟩) v)
 (bA o t fun B C D E=>
 cF (Addr.add (base d.a) (Int.toNat (f - 1) * 4)) B C D E t fun F=>
 cI g F fun G I J L=>
 bN a G I J L F fun M=>
 cI a M fun N O Q S=>
 R (.tuple ⟨[.agg ⟨[.int .i64 N,.int .i64 O,.slice Q.a Q.n Q.c,.slice S.a S.n S.c]⟩,.nilIface]⟩) M))
 (fun T=>
 bB j fun U=>
 an .i64 (Addr.add (Addr.add U 0) 2) q fun V=>
 aA (decide (V=4))
 (bA (Addr.add (base d.a) (Int.toNat (f - 1) * 4)) (World.drew q) fun X Y Z aa=>
 bB j fun ba=>
 ax (Addr.add ba 21) (World.drew q) fun ca=>
 ay Pr MV [.agg ⟨[.int .i64 X,.int .i64 Y,.int .i64 Z,.slice aa.a aa.n aa.c]⟩,.slice ca.a ca.n ca.c] (World.drew q) fun da ea=>
 bw.bC da fun fa=>
 aC fa fun ga ia=>
 rF ga fun ja ka la ma=>
 aC ia fun na oa=>
 (oa=[]∧
 cF o ja ka la ma ea fun pa=>
 fm na fun qa=>
 aA (!qa)
 (cI g pa fun sa ta ua va=>
 bN a sa ta ua va pa fun xa=>
 cI a xa fun ya za Aa Ba=>
 R (.tuple ⟨[.agg ⟨[.int .i64 ya,.int .i64 za,.slice Aa.a Aa.n Aa.c,.slice Ba.a Ba.n Ba.c]⟩,na]⟩) xa)
 (ax (Addr.add o 3) pa fun Ca=>
 st (Addr.add g 1) (.int .i64 (Ca.n:Int)) pa fun Da=>
 bA o Da fun Ea Fa Ga Ia=>
 an .i64 (Addr.add g 1) Da fun Ja=>
 ay Pr G5 [.agg ⟨[.int .i64 Ea,.int .i64 Fa,.int .i64 Ga,.slice Ia.a Ia.n Ia.c]⟩,.int .i64 Ja] Da fun La Ma=>
 bw.bC La fun Na=>
 aC Na fun Oa Qa=>
 aU Oa fun Sa=>
 aC Qa fun Ta Ua=>
 (Ua=[]∧
 st (Addr.add g 2) (.slice Sa.a Sa.n Sa.c) Ma fun Va=>
 T Ta Va))))
 (bA (Addr.add (base d.a) (Int.toNat (f - 1) * 4)) (World.drew q) fun Xa Ya Za ab=>
 bB j fun bb=>
 an .i64 (Addr.add (Addr.add bb 0) 2) (World.drew q) fun cb=>
 bB j fun db=>
 an .i64 (Addr.add (Addr.add db 0) 5) (World.drew q) fun eb=>
 bB j fun fb=>
 an .i64 (Addr.add (Addr.add fb 0) 10) (World.drew q) fun gb=>
 bB j fun ib=>
 an .i64 (Addr.add (Addr.add ib 14) 0) (World.drew q) fun jb=>
 ay Pr PF [.agg ⟨[.int .i64 Xa,.int .i64 Ya,.int .i64 Za,.slice ab.a ab.n ab.c]⟩,.int .i64 cb,.int .i64 eb,.int .i64 gb,.int .i64 jb] (World.drew q) fun kb lb=>
 bw.bC kb fun mb=>
 aC mb fun nb ob=>
 rF nb fun pb qb sb tb=>
 aC ob fun ub vb=>
 (vb=[]∧
 cF o pb qb sb tb lb fun xb=>
 T ub xb)))))
theorem acw {j:Option Addr} {w:World} {R:Value→World→Prop} (h:Lp j w R):Ok Pr K5 [.pointer j] w R:=
 aL (m:=⟨true,true⟩) (J:=[(13,[(6,.val)])]) (L:=[]) aJ Tryz.func60 (by kernel_rfl) ((by kernel_rfl:aK Pr _ _ _ Tryz.f60 _ w R=Lp j w R).mpr h)
end Go.Proofs.YtgjoehgomjgckaaGreatDoor
end
section
set_option linter.unusedVariables false
set_option linter.unusedSimpArgs false
namespace Go.Ev
open Go Go.RowKit
theorem ak.ir {w0 w:World} {S:List Nat} {L:List aD} (H:ak w0 S w L) {t:TypeId} {cs:List Value} {K:Addr→World→Prop} (h:∀ b w',ak w0 S w' (L ++ [.av b cs t])→Mod [] w w'→K ⟨b,0,none⟩ w'):Ev.nw t cs w K:=
 qM fun b w' hb h1 h2 _=>h b w' (H.push h2 h1 (by simp [aD.av,hb])) h2
theorem bF (b i j:Nat):Addr.add (Addr.add ⟨b,0,none⟩ i) j=⟨b,i+j,none⟩:=by rw [au,tM]
end Go.Ev
namespace Go.Proofs.YtgjoehgomjgckaaGreatDoor
open Go Go.Ev
set_option maxRecDepth 20000
set_option linter.unusedVariables false
def An (q:bK) (t:aR) (s:dZ) (ow:Int) (sd:ah):List Value:=
 [.int .i64 q.n0,.int .i64 q.n1,.int .i64 q.n2,.int .i64 q.n3,.int .i64 q.n4,.int .i64 q.n5,.int .i64 q.n6,.int .i64 q.n7,.int .i64 q.n8,.int .i64 q.n9,.int .i64 q.o6,.string q.name,.slice q.gD.a q.gD.n q.gD.c,.slice q.tok.a q.tok.n q.tok.c,
  .int .i64 t.clock,.slice s.sec.a s.sec.n s.sec.c,.slice s.ten.a s.ten.n s.ten.c,.slice s.aE.a s.aE.n s.aE.c,.slice s.key.a s.key.n s.key.c,.slice s.gr.a s.gr.n s.gr.c,.int .i64 ow,.slice sd.a sd.n sd.c]
def gm (q:bK) (t:aR):Int:=if q.n2=13 then (t.br.getD (q.n7 - 1).toNat gz).n1 else q.n4
def xF (q:bK) (t:aR):aP:=t.keys.getD (gm q t - 1).toNat kz
def jy (op:Int):Bool:=decide (op=1) || (decide (op=2) || decide (op=3))
def rR (op:Int):Bool:=decide (op=5) || (decide (op=6) || (decide (op=7) || (decide (op=8) || (decide (op=10) || decide (op=11)))))
def gW (q:bK) (t:aR):Bool:=
 if jy q.n2=true then aS 1 (t.bP.length:Int) q.n3
 else (decide (q.n2≠13) || aS 1 (t.br.length:Int) q.n7) && (aS 1 (t.keys.length:Int) (gm q t) &&
  (if rR q.n2=true then (iS (xF q t) q.n5).isSome else decide (q.n2≠12) || aS 1 (t.aE.length:Int) q.n8))
def oJ (q:bK) (t:aR):Int:=if jy q.n2=true then q.n3 else (xF q t).ten
def cY (b:Nat) (q:bK) (t:aR) (s:dZ) (ow:Int) (sd:ah) (ys zs:List ah) (fp fq:List Nat):List aD:=.av b (An q t s ow sd) wR :: jm s t ys zs fp fq
theorem AU (c:Int) (hc:c≠0) (w:World):Ok Pr lP [.int .i64 c] w fun v w'=>cP w w' v c∧Mod [] w w':=by
 refine aei ?_
 unfold NC
 exact qM fun b w' hb h1 h2 _=>⟨cP.mk h1 (by omega) hc,h2⟩
theorem DC (id many:Int) (w:World):Ok Pr yJ [.int .i64 id,.int .i64 many] w fun v w'=>v=.bool (aS 1 many id)∧w'=w:=by
 refine aej ?_
 unfold ND
 exact ⟨rfl,rfl⟩
theorem vu {w0 w:World} {S:List Nat} {b:Nat} {q:bK} {t:aR} {s:dZ} {ow:Int} {sd:ah} {ys zs:List ah} {fp fq:List Nat} (H:ak w0 S w (cY b q t s ow sd ys zs fp fq)):gC w s t:=lp (L:=[_]) H
theorem R3 {w0 w:World} {S:List Nat} {b:Nat} {q:bK} {t:aR} {s:dZ} {ow:Int} {sd:ah} {ys zs:List ah} {fp fq:List Nat} {M:List aD} (H:ak w0 S w (cY b q t s ow sd ys zs fp fq ++ M)) {i:Nat} {x:ah} {k:aP} (hx:zs[i]? = some x) (hk:t.keys[i]? = some k):jZ w x k.aH:=by
 have h:bn fG w zs t.keys:=H.box 7 rfl
 exact h.2 i x k hx hk
theorem RH {w0 w:World} {S:List Nat} {b:Nat} {q:bK} {t:aR} {s:dZ} {ow:Int} {sd:ah} {ys zs:List ah} {fp fq:List Nat} {M:List aD} (H:ak w0 S w (cY b q t s ow sd ys zs fp fq ++ M)) {i:Nat} (hi:i<t.keys.length) :
  t.keys[i]? = some (t.keys.getD i kz)∧(s.key.a.isSome=true∧(0:Int)≤(i:Int)∧(i:Int)<(s.key.n:Int))∧∃ x,zs[i]? = some x∧∀ (j:Nat) (v:Value),((t.keys.getD i kz).cs x)[j]? = some v→w.cell? (Addr.add (Addr.add (base s.key.a) (Int.toNat (i:Int) * 4)) j)=some v:=by
 have hk:t.keys[i]? = some (t.keys.getD i kz):=by rw [List.getD_eq_getElem?_getD,List.getElem?_eq_getElem hi]; rfl
 have h:bn fG w zs t.keys:=H.box 7 rfl
 have hr:=H.fJ 6 rfl
 have hl:=hr.len
 rw [iQ aP.cz _ _ h.1] at hl
 have hx:zs[i]? = some (zs[i]'(by rw [h.1]; exact hi)):=List.getElem?_eq_getElem _
 refine ⟨hk,⟨hr.pre (by omega),by omega,by omega⟩,_,hx,fun j v hv=>?_⟩
 rw [Int.toNat_natCast]
 exact hr.vw aP.cz hk hx hv
theorem xh {n:Int} {m:Nat} (h:aS 1 (m:Int) n=true):∃ i:Nat,n - 1=(i:Int)∧(n - 1).toNat=i∧i<m:=by
 unfold aS at h
 rw [Bool.and_eq_true,decide_eq_true_eq,decide_eq_true_eq] at h
 exact ⟨(n - 1).toNat,by omega,rfl,by omega⟩
theorem adJ {w0 w:World} {b:Nat} {q:bK} {t:aR} {s:dZ} {ow:Int} {sd:ah} {ys zs:List ah} {fp fq:List Nat} (H:ak w0 [] w (cY b q t s ow sd ys zs fp fq)) (hs:t.small) (hq:aF q.n4∧aF q.n7) :
  Ok Pr LF [.pointer (some ⟨b,0,none⟩)] w fun v w'=>v=.bool (gW q t)∧∃ q' kL,(gW q t=true→q'={ q with n4:=gm q t }∧kL=oJ q t)∧ak w0 [] w' (cY b q' t s kL sd ys zs fp fq):=by
 refine acU ?_
 unfold LO
 rw [pM,xy]
 have hR:=vu H
 have wD:=hR.ten.len
 have rC:=hR.aE.len
 have uI:=hR.key.len
 have Kh:=hR.gr.len
 have ux:∀ i,i<t.keys.length→(t.keys.getD i kz).aH.length≤1000:=fun i hi=>vo hs hi
 obtain ⟨hq4,hq7⟩:=hq
 have wE:=hs.key
 have AM:=hs.gr
 have no:∀ {w':World} (q':bK) (kL:Int),gW q t=false→ak w0 [] w' (cY b q' t s kL sd ys zs fp fq)→(fun (v:Value) (w':World)=>v=.bool (gW q t)∧∃ q' kL,(gW q t=true→q'={ q with n4:=gm q t }∧kL=oJ q t)∧ak w0 [] w' (cY b q' t s kL sd ys zs fp fq)) (.bool false) w':=fun q' kL h D=>⟨by rw [h],q',kL,fun h2=>(by rw [h] at h2; cases h2),D⟩
 refine jJ fun go bY=>?_
 have key:∀ (w1:World),jy q.n2=false→(q.n2≠13∨aS 1 (t.br.length:Int) q.n7=true)→ak w0 [] w1 (cY b { q with n4:=gm q t } t s ow sd ys zs fp fq)→go w1:=by
  intro w1 wF hgr H
  refine bY w1 ?_
  have eF:gW q t=(aS 1 (t.keys.length:Int) (gm q t) && (if rR q.n2=true then (iS (xF q t) q.n5).isSome else decide (q.n2≠12) || aS 1 (t.aE.length:Int) q.n8)):=by
   unfold gW
   rw [if_neg (by rw [wF]; decide)]
   rcases hgr with h | h
   ·rw [decide_eq_true h,Bool.true_or,Bool.true_and]
   ·rw [h,Bool.or_true,Bool.true_and]
  have D:=H.drew
  refine nc (D.an 0 rfl (bF b 0 4) rfl (nc (D.ax 0 rfl (bF b 14 4) rfl (aB (DC _ _ _) ?_))))
  rintro _ w2 ⟨rfl,rA⟩
  subst rA
  refine bz ?_
  show aA (!aS 1 (s.key.n:Int) (gm q t)) _ _
  rw [← uI]
  cases c1:aS 1 (t.keys.length:Int) (gm q t) with
  | false=>exact ite_true rfl (no _ _ (by rw [eF,c1]; rfl) D)
  | true=>
  rw [c1,Bool.true_and] at eF
  obtain ⟨i,ei,en,hi⟩:=xh c1
  have hJ:xF q t=t.keys.getD i kz:=by unfold xF; rw [en]
  have hoT:oJ q t=(xF q t).ten:=by unfold oJ; rw [if_neg (by rw [wF]; decide)]
  have hvi:=ux i hi
  have D2:=D.drew
  obtain ⟨mT,dw,x,dA,hc⟩:=RH (M:=[]) D2 hi
  have hib:aF (gm q t - 1):=by unfold aF; omega
  refine ite_false rfl (nc (D2.ax 0 rfl (bF b 14 4) rfl (nc (D2.an 0 rfl (bF b 0 4) rfl ⟨hib,?_⟩))))
  show aQ s.key.a (gm q t - 1) s.key.n _
  rw [hJ] at eF hoT
  rw [ei]
  generalize t.keys.getD i kz=k at *
  refine ⟨dw,qF hc (D2.ir fun p w3 E m3=>⟨zm m3 (hc 0 _ rfl),D2.kept m3 0 rfl (bF b 0 4) 1,D2.kept m3 0 rfl (bF b 14 4) 1,E.cF 8 rfl rfl fun w4 E=>E.an 8 rfl (au p 1) rfl (nc (E.st 0 rfl (au b 20) (by show 20<22; omega) rfl fun w5 E=>?_))⟩)⟩
  have E:ak w0 [] w5 (cY b { q with n4:=gm q t } t s k.ten sd ys zs fp fq ++ [.av p (dH k.id k.ten k.set x) aV]):=E
  have yes:∀ {w':World},gW q t=true→ak w0 [] w' (cY b { q with n4:=gm q t } t s k.ten sd ys zs fp fq)→(fun (v:Value) (w':World)=>v=.bool (gW q t)∧∃ q' kL,(gW q t=true→q'={ q with n4:=gm q t }∧kL=oJ q t)∧ak w0 [] w' (cY b q' t s kL sd ys zs fp fq)) (.bool true) w':=fun h D=>⟨by rw [h],_,_,fun _=>⟨rfl,hoT.symm⟩,D⟩
  have any:∀ {w':World} (r:Bool),gW q t=r→ak w0 [] w' (cY b { q with n4:=gm q t } t s k.ten sd ys zs fp fq)→(fun (v:Value) (w':World)=>v=.bool (gW q t)∧∃ q' kL,(gW q t=true→q'={ q with n4:=gm q t }∧kL=oJ q t)∧ak w0 [] w' (cY b q' t s kL sd ys zs fp fq)) (.bool r) w':=fun r h D=>by
   cases r with
   | true=>exact yes h D
   | false=>exact no _ _ h D
  have uJ:∀ {w':World} {M:List aD},ak w0 [] w' (cY b { q with n4:=gm q t } t s k.ten sd ys zs fp fq ++ M)→gh w' x k.aH:=fun D=>(R3 D dA mT).aH
  refine nc (E.an 0 rfl (bF b 0 2) rfl (jK fun j6 jl=>?_))
  have G:j6 (rR q.n2) w5:=by
   refine jl _ _ ?_
   have E2:=E.drew
   cases hv:rR q.n2 with
   | true=>
    rw [hv,if_pos rfl] at eF
    refine ite_true rfl (E2.bA 8 rfl (nc (E2.an 0 rfl (bF b 0 5) rfl ⟨?_,?_⟩)))
    ·refine aB (DP k x q.n5 (by omega) _ (uJ E2)) ?_
     rintro _ w7 ⟨y,rfl,hy⟩
     have E3:=E2.frame hy.mod
     refine ⟨_,rfl,wK ⟨_,rfl,rfl,E3.ir fun p1 w8 E4 m8=>⟨E3.kept m8 0 rfl (bF b 0 5) 1,E3.kept m8 8 rfl rfl 4,E4.fz 9 rfl rfl fun w9 E5=>any _ eF (E5.take 8)⟩⟩⟩
    ·refine E2.ir fun p1 w8 E4 m8=>⟨E2.kept m8 0 rfl (bF b 0 5) 1,E2.kept m8 8 rfl rfl 4,aB (DP k x q.n5 (by omega) _ (uJ (M:=[_,_]) E4)) ?_⟩
     rintro _ w7 ⟨y,rfl,hy⟩
     have E5:=E4.frame hy.mod
     refine ⟨_,rfl,wK ⟨_,rfl,rfl,E5.fz 9 rfl rfl fun w9 E6=>any _ eF (E6.take 8)⟩⟩
   | false=>
    rw [hv,if_neg (by decide)] at eF
    refine ite_false rfl (bV (fun h=>?_) (fun h=>?_))
    ·have h:=of_decide_eq_true h
     have jB:q.n2=12:=h
     rw [decide_eq_false (by omega),Bool.false_or,rC] at eF
     refine nc (E2.an 0 rfl (bF b 0 8) rfl (nc (E2.ax 0 rfl (bF b 14 3) rfl (aB (DC _ _ _) ?_))))
     rintro _ w7 ⟨rfl,sW⟩
     subst sW
     exact bz (any _ eF (E2.take 8))
    ·have h:¬ q.n2=12:=of_decide_eq_false h
     rw [decide_eq_true h,Bool.true_or] at eF
     exact yes eF (E.take 8)
  show aA (decide (q.n2=5)) _ _
  have tv:∀ {z:Int},rR z=true→q.n2=z→j6 (decide (q.n2=z)) w5:=fun hz e=>by
   rw [e] at G ⊢
   rw [hz] at G
   rw [decide_eq_true rfl]
   exact G
  refine bV (fun h=>tv rfl (of_decide_eq_true h)) fun h5=>?_
  refine bV (fun h=>tv rfl (of_decide_eq_true h)) fun h6=>?_
  refine bV (fun h=>tv rfl (of_decide_eq_true h)) fun h7=>?_
  refine bV (fun h=>tv rfl (of_decide_eq_true h)) fun h8=>?_
  refine bV (fun h=>tv rfl (of_decide_eq_true h)) fun jn=>?_
  have e:rR q.n2=decide (q.n2=11):=by
   unfold rR
   have h5:decide (q.n2=5)=false:=h5
   have h6:decide (q.n2=6)=false:=h6
   have h7:decide (q.n2=7)=false:=h7
   have h8:decide (q.n2=8)=false:=h8
   have jn:decide (q.n2=10)=false:=jn
   rw [h5,h6,h7,h8,jn]; rfl
  rw [e] at G
  exact G
 refine nc (H.an 0 rfl (bF b 0 2) rfl (jK fun go2 oP=>?_))
 have G:go2 (jy q.n2) w:=by
  refine oP _ _ ?_
  cases hm:jy q.n2 with
  | true=>
   have eF:gW q t=aS 1 (t.bP.length:Int) q.n3:=by unfold gW; rw [if_pos hm]
   have eo:oJ q t=q.n3:=by unfold oJ; rw [if_pos hm]
   have C8:q.n2≠13:=fun h=>by rw [h] at hm; cases hm
   have eK:gm q t=q.n4:=by unfold gm; rw [if_neg C8]
   refine ite_true rfl (nc (H.an 0 rfl (bF b 0 3) rfl (nc (H.st 0 rfl (au b 20) (by show 20<22; omega) rfl fun w5 E=>?_))))
   have E:ak w0 [] w5 (cY b q t s q.n3 sd ys zs fp fq):=E
   have E2:=E.drew
   refine nc (E2.an 0 rfl (bF b 0 3) rfl (nc (E2.ax 0 rfl (bF b 14 2) rfl (aB (DC _ _ _) ?_))))
   rintro _ w7 ⟨rfl,sW⟩
   subst sW
   refine bz ⟨by rw [eF,wD],q,q.n3,fun _=>⟨by rw [eK],eo.symm⟩,E2⟩
  | false=>
   refine ite_false rfl (bV (fun h=>?_) (fun h=>?_))
   ·have mV:q.n2=13:=of_decide_eq_true h
    have H2:=H.drew
    refine nc (H2.an 0 rfl (bF b 0 7) rfl (nc (H2.ax 0 rfl (bF b 14 5) rfl (aB (DC _ _ _) ?_))))
    rintro _ w7 ⟨rfl,sW⟩
    subst sW
    refine bz ?_
    show aA (!aS 1 (s.gr.n:Int) q.n7) _ _
    rw [← Kh]
    cases c1:aS 1 (t.br.length:Int) q.n7 with
    | false=>
     refine ite_true rfl (no _ _ ?_ H2)
     unfold gW
     rw [if_neg (by rw [hm]; decide),c1,decide_eq_false (by omega)]; rfl
    | true=>
     obtain ⟨i,ei,en,hi⟩:=xh c1
     have H3:=H2.drew
     have hR3:gC _ s t:=vu H3
     have eK:gm q t=(t.br.getD i gz).n1:=by unfold gm; rw [if_pos mV,en]
     refine ite_false rfl (nc (H3.ax 0 rfl (bF b 14 5) rfl (nc (H3.an 0 rfl (bF b 0 7) rfl ⟨by unfold aF; omega,?_⟩))))
     show aQ s.gr.a (q.n7 - 1) s.gr.n _
     rw [ei]
     refine ⟨⟨hR3.gr.pre (by omega),by omega,by omega⟩,_,by rw [Int.toNat_natCast]; exact gU.cell (j:=1) hR3.gr hi rfl,nc (H3.st 0 rfl (bF b 0 4) (by show 4<22; omega) rfl fun w5 E=>key w5 hm (.inr c1) ?_)⟩
     rw [eK]
     exact E
   ·have mV:¬ q.n2=13:=of_decide_eq_false h
    have eK:gm q t=q.n4:=by unfold gm; rw [if_neg mV]
    refine key w hm (.inl mV) ?_
    rw [eK]
    exact H
 show aA (decide (q.n2=1)) _ _
 have tv:∀ {z:Int},jy z=true→q.n2=z→go2 (decide (q.n2=z)) w:=fun hz e=>by
  rw [e] at G ⊢
  rw [hz] at G
  rw [decide_eq_true rfl]
  exact G
 refine bV (fun h=>tv rfl (of_decide_eq_true h)) fun h1=>?_
 refine bV (fun h=>tv rfl (of_decide_eq_true h)) fun h2=>?_
 have e:jy q.n2=decide (q.n2=3):=by
  unfold jy
  have h1:decide (q.n2=1)=false:=h1
  have h2:decide (q.n2=2)=false:=h2
  rw [h1,h2]; rfl
 rw [e] at G
 exact G
end Go.Proofs.YtgjoehgomjgckaaGreatDoor
end
section
set_option linter.unusedVariables false
set_option linter.unusedSimpArgs false
namespace Go.Proofs.YtgjoehgomjgckaaGreatDoor
open Go Go.Ev
set_option maxRecDepth 20000
set_option linter.unusedVariables false
def AO (l:List bQ) (s t:List B8):bQ:=if gy l=true then (l.find? fun g=>decide (tok s g=t)).getD gz else gz
def sX (l:List bQ) (s t:List B8):Int:=if gy l=true then (if (l.find? fun g=>decide (tok s g=t)).isSome=true then 0 else 15) else 2
theorem alk (l:List bQ) (s t:List B8):Told l s t (AO l s t) (sX l s t):=by
 unfold Told AO sX
 cases hm:gy l with
 | false=>exact .inl ⟨rfl,rfl,rfl⟩
 | true=>
  cases hf:l.find? (fun g=>decide (tok s g=t)) with
  | none=>
   refine .inr (.inl ⟨rfl,fun j hj e=>?_,rfl,rfl⟩)
   have:=List.find?_eq_none.1 hf (l.getD j gz) (by rw [List.getD_eq_getElem?_getD,List.getElem?_eq_getElem hj]; exact List.getElem_mem hj)
   exact this (decide_eq_true e)
  | some g=>
   obtain ⟨i,hi,hg,dz⟩:=List.find?_eq_some_iff_getElem.1 hf |>.2
   have ei:l.getD i gz=g:=by rw [List.getD_eq_getElem?_getD,List.getElem?_eq_getElem hi]; exact hg
   refine .inr (.inr ⟨rfl,⟨i,hi,?_,fun j hj e=>?_,?_⟩,rfl⟩)
   ·rw [ei]; exact of_decide_eq_true (List.find?_eq_some_iff_getElem.1 hf).1
   ·have:=dz j hj
    rw [List.getD_eq_getElem?_getD,List.getElem?_eq_getElem (by omega)] at e
    simp only [Option.getD_some] at e
    rw [e] at this
    simp at this
   ·rw [ei]; rfl
theorem Z4 {l:List bQ} {s t:List B8} {g:bQ} {c:Int} (h:Told l s t g c):g=AO l s t∧c=sX l s t:=h.unique (alk l s t)
def jN (op:Int):Bool:=decide (op=9) || (decide (op=10) || decide (op=11))
def tY (q:bK) (lt:List B8) (t:aR) (ow:Int):Int:=
 if BY t.bP (t.aE.getD (q.n0 - 1).toNat fF).ten ow=true then 0
 else if jN q.n2=true then (if sX t.br t.bG lt=0 then xE (AO t.br t.bG lt) q.n4 q.n0 q.n2 t.clock else sX t.br t.bG lt)
 else 10
theorem YQ {w0 w:World} {S:List Nat} {b:Nat} {q:bK} {t:aR} {s:dZ} {ow:Int} {sd:ah} {ys zs:List ah} {fp fq:List Nat} {M:List aD} (H:ak w0 S w (cY b q t s ow sd ys zs fp fq ++ M)) {i:Nat} (hi:i<t.aE.length) :
  t.aE[i]? = some (t.aE.getD i fF)∧(s.aE.a.isSome=true∧(0:Int)≤(i:Int)∧(i:Int)<(s.aE.n:Int))∧∃ x,ys[i]? = some x∧∀ (j:Nat) (v:Value),((t.aE.getD i fF).cs x)[j]? = some v→w.cell? (Addr.add (Addr.add (base s.aE.a) (Int.toNat (i:Int) * 5)) j)=some v:=by
 have hk:t.aE[i]? = some (t.aE.getD i fF):=by rw [List.getD_eq_getElem?_getD,List.getElem?_eq_getElem hi]; rfl
 have h:bn gB w ys t.aE:=H.box 5 rfl
 have hr:=H.fJ 4 rfl
 have hl:=hr.len
 rw [iQ ct.cz _ _ h.1] at hl
 have hx:ys[i]? = some (ys[i]'(by rw [h.1]; exact hi)):=List.getElem?_eq_getElem _
 refine ⟨hk,⟨hr.pre (by omega),by omega,by omega⟩,_,hx,fun j v hv=>?_⟩
 rw [Int.toNat_natCast]
 exact hr.vw ct.cz hk hx hv
theorem acI {w0 w:World} {b:Nat} {q:bK} {t:aR} {s:dZ} {ow:Int} {sd:ah} {ys zs:List ah} {fp fq:List Nat} (H:ak w0 [] w (cY b q t s ow sd ys zs fp fq)) (hs:t.small) (hw:aS 1 (t.aE.length:Int) q.n0=true) (lt:List B8) (ht:Bytes w0 q.tok lt) (Ao:t.bG.length≤1000) :
  Ok Pr KW [.pointer (some ⟨b,0,none⟩)] w fun v w'=>cP w w' v (tY q lt t ow)∧Mod [] w w':=by
 refine aco ?_
 unfold KY
 rw [Z3]
 have yB:=hs.ten
 have yC:=hs.aE
 have AM:=hs.gr
 have hC:tY q lt t ow=if BY t.bP (t.aE.getD (q.n0 - 1).toNat fF).ten ow=true then 0 else if jN q.n2=true then (if sX t.br t.bG lt=0 then xE (AO t.br t.bG lt) q.n4 q.n0 q.n2 t.clock else sX t.br t.bG lt) else 10:=rfl
 generalize tY q lt t ow=C at *
 obtain ⟨i,ei,en,hi⟩:=xh hw
 rw [en] at hC
 have D:=H.drew
 obtain ⟨mT,dw,x,dA,hc⟩:=YQ (M:=[]) D hi
 refine nc (D.ax 0 rfl (bF b 14 3) rfl (nc (D.an 0 rfl (bF b 0 0) rfl ⟨by unfold aF; omega,?_⟩)))
 show aQ s.aE.a (q.n0 - 1) s.aE.n _
 rw [ei]
 generalize t.aE.getD i fF=pr at *
 have D2:=D.drew
 have Uh:gC _ s t:=vu D2
 refine ⟨dw,_,hc 1 _ rfl,nc (D2.ax 0 rfl (bF b 14 2) rfl (nc (D2.an 0 rfl (au b 20) rfl (aB (aed s.ten t.bP (by omega) pr.ten ow _ Uh.ten) ?_))))⟩
 rintro _ w1 ⟨rfl,m1⟩
 have m:Mod [] w w1:=(Mod.drew [] w).trans ((Mod.drew [] _).trans m1)
 have H1:=H.frame m
 refine bz ?_
 cases ha:BY t.bP pr.ten ow with
 | true=>
  rw [ha,if_pos rfl] at hC
  rw [hC]
  exact ite_true rfl ⟨qN _ _,m⟩
 | false=>
 rw [ha,if_neg (by decide)] at hC
 refine ite_false rfl (nc (H1.an 0 rfl (bF b 0 2) rfl (jK fun j6 jl=>?_)))
 have G:j6 (jN q.n2) w1:=by
  refine jl _ _ ?_
  cases hu:jN q.n2 with
  | false=>
   rw [hu,if_neg (by decide)] at hC
   rw [hC]
   refine ite_false rfl (aB (AU 10 (by decide) w1) ?_)
   rintro e w2 ⟨h,m2⟩
   exact ⟨h.from m.size,m.trans m2⟩
  | true=>
   rw [hu,if_pos rfl] at hC
   have E:=H1.drew
   have Kj:gC _ s t:=vu E
   refine ite_true rfl (uZ fun go bY=>?_)
   have fin:∀ (g:Nat) (er:Value) (w3:World),Mod [] w1.drew w3→bX w3 g (AO t.br t.bG lt).cells cB→cP w1.drew w3 er (sX t.br t.bG lt)→go ⟨g,0,none⟩ er w3:=by
    intro g er w3 m3 hb he
    have m':Mod [] w w3:=m.trans ((Mod.drew [] w1).trans m3)
    have F:=H.frame m'
    have hE:=he.from (Nat.le_trans m.size (Mod.drew [] w1).size)
    refine bY _ _ _ (he.1.isNil ?_)
    by_cases h0:sX t.br t.bG lt=0
    case neg=>
     rw [if_neg h0] at hC
     rw [hC]
     exact ite_true (by rw [decide_eq_false h0]; rfl) ⟨hE,m'⟩
    rw [if_pos h0] at hC
    rw [hC]
    refine ite_false (by rw [decide_eq_true h0]; rfl) ?_
    have F2:=F.drew
    have kU:=hb.aG (Mod.drew [] w3)
    refine L5 (fun j v hv=>by rw [au,kU.cell]; exact hv) (nc (F2.an 0 rfl (bF b 0 4) rfl (nc (F2.an 0 rfl (bF b 0 0) rfl (nc (F2.an 0 rfl (bF b 0 2) rfl (nc (F2.an 0 rfl (bF b 14 0) rfl (aB (aef _ _ _ _ _ _) ?_)))))))))
    rintro v w4 ⟨h4,m4⟩
    have m2:=m'.trans (Mod.drew [] w3)
    exact ⟨h4.from m2.size,m2.trans m4⟩
   refine nc (E.ax 0 rfl (bF b 14 5) rfl (nc (E.ax 0 rfl (bF b 14 1) rfl (nc (E.ax 0 rfl (bF b 0 13) rfl ⟨?_,?_⟩)))))
   ·refine aB (UY t.br s.gr s.sec q.tok t.bG lt Ao (by omega) _ Kj.gr Kj.sec (ht.aG E.mod)) ?_
    rintro _ w5 ⟨g,c,er,rfl,hT,he,m5⟩
    obtain ⟨rfl,rfl⟩:=Z4 hT
    have E5:=E.frame m5
    have K:=(ak.start w1.drew).gH m5 he
    refine ⟨_,rfl,UT ⟨rfl,K.ir fun p w6 K6 m6=>⟨E5.kept m6 0 rfl (bF b 0 13) 1,E5.kept m6 0 rfl (bF b 14 1) 1,E5.kept m6 0 rfl (bF b 14 5) 1,K6.oB 1 rfl rfl fun w7 K7=>fin p er w7 K7.mod (K7.av 1 rfl) ⟨K7.ok 0 _ rfl,fun b hb=>(K7.own 0 _ rfl b hb).resolve_left (by simp)⟩⟩⟩⟩
   ·refine (ak.start w1.drew).ir fun p w8 K8 m8=>⟨E.kept m8 0 rfl (bF b 0 13) 1,E.kept m8 0 rfl (bF b 14 1) 1,E.kept m8 0 rfl (bF b 14 5) 1,aB (UY t.br s.gr s.sec q.tok t.bG lt Ao (by omega) _ (Kj.gr.aG m8) (Kj.sec.aG m8) (ht.aG (E.mod.trans m8))) ?_⟩
    rintro _ w5 ⟨g,c,er,rfl,hT,he,m5⟩
    obtain ⟨rfl,rfl⟩:=Z4 hT
    have K:=K8.gH m5 he
    refine ⟨_,rfl,UT ⟨rfl,K.oB 0 rfl rfl fun w7 K7=>fin p er w7 K7.mod (K7.av 0 rfl) ⟨K7.ok 1 _ rfl,fun b hb=>(K7.own 1 _ rfl b hb).resolve_left (by simp)⟩⟩⟩
 show aA (decide (q.n2=9)) _ _
 have tv:∀ {z:Int},jN z=true→q.n2=z→j6 (decide (q.n2=z)) w1:=fun hz e=>by
  rw [e] at G ⊢
  rw [hz] at G
  rw [decide_eq_true rfl]
  exact G
 refine bV (fun h=>tv rfl (of_decide_eq_true h)) fun h9=>?_
 refine bV (fun h=>tv rfl (of_decide_eq_true h)) fun jn=>?_
 have e:jN q.n2=decide (q.n2=11):=by
  unfold jN
  have h9:decide (q.n2=9)=false:=h9
  have jn:decide (q.n2=10)=false:=jn
  rw [h9,jn]; rfl
 rw [e] at G
 exact G
end Go.Proofs.YtgjoehgomjgckaaGreatDoor
end
