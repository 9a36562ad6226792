/- Texts of this claim, packed and shortened. -/
import Derived.Laws.StructEq
import Derived.KernelRfl
import Derived.Test.YtgjoehgomjgckaaGreatDoorQ4
import Derived.Test.YtgjoehgomjgckaaGreatDoorQ3
import Derived.Test.YtgjoehgomjgckaaGreatDoorQ2
import Derived.Test.YtgjoehgomjgckaaGreatDoorQ1
section
set_option linter.unusedVariables false
set_option linter.unusedSimpArgs false
namespace Go.Proofs.YtgjoehgomjgckaaGreatDoor
open Go Go.Ev
set_option maxRecDepth 20000
set_option linter.unusedVariables false
theorem ZA {vs:List bp}:∀ n,l7 vs n=true→∀ i,i<n→gw (vs.getD i vz) ((i:Int)+1)=true
 | 0,_,i,hi=>by omega
 | n+1,h,i,hi=>by
  change (l7 vs n && gw (vs.getD n vz) ((n:Int)+1))=true at h
  rw [Bool.and_eq_true] at h
  rcases Nat.lt_or_ge i n with h2 | h2
  ·exact ZA n h.1 i h2
  ·rw [show i=n by omega]; exact h.2
theorem Ru {v:bp} {n:Int} (h:gw v n=true):v.n=n∧1≤v.st∧v.st≤4∧(v.st=4→v.aq.length=0)∧(v.st≠4→v.aq.length=64)∧(v.st≠3→v.due=0)∧(v.st=3→1≤v.due∧v.due≤1099511627776):=by
 unfold gw at h
 rw [Bool.and_eq_true,decide_eq_true_eq] at h
 obtain ⟨h1,h2⟩:=h
 refine ⟨h1,?_⟩
 split at h2
 ·rename_i h3
  unfold aP at h2
  simp only [Bool.and_eq_true,decide_eq_true_eq] at h2
  exact ⟨by omega,by omega,fun h=>by omega,fun _=>h2.2,fun h=>absurd h3 h,fun _=>h2.1⟩
 ·rename_i h3
  split at h2
  ·rename_i h4
   simp only [Bool.and_eq_true,decide_eq_true_eq] at h2
   exact ⟨by omega,by omega,fun _=>h2.2,fun h=>absurd h4 h,fun _=>h2.1,fun h=>absurd h h3⟩
  ·rename_i h4
   split at h2
   ·rename_i h5
    simp only [Bool.and_eq_true,decide_eq_true_eq] at h2
    exact ⟨by omega,by omega,fun h=>absurd h h4,fun _=>h2.2,fun _=>h2.1,fun h=>absurd h h3⟩
   ·cases h2
theorem xh {k:aR} (h:cR k=true):(1≤k.id∧k.id≤6)∧(1≤k.ten∧k.ten≤8)∧(1≤k.set∧k.set≤3)∧(1≤k.aH.length∧k.aH.length≤5)∧∀ i,i<k.aH.length→gw (k.aH.getD i vz) ((i:Int)+1)=true:=by
 unfold cR aP at h
 simp only [Bool.and_eq_true,decide_eq_true_eq] at h
 obtain ⟨h1,h2,h3,h4,h5⟩:=h
 exact ⟨h1,h2,h3,⟨by omega,by omega⟩,ZA _ h5⟩
theorem aj8 {k:aR} (h:cR k=true):isSet k.set=true:=by
 obtain ⟨_,_,h3,_⟩:=xh h
 unfold isSet
 have:k.set=1∨k.set=2∨k.set=3:=by omega
 rcases this with e | e | e <;> rw [e] <;> rfl
theorem Il {k:aR} (h:cR k=true):k.aH.length≤1000∧∀ v∈k.aH,v.aq.length≤64:=by
 obtain ⟨_,_,_,h4,h5⟩:=xh h
 refine ⟨by omega,fun v hv=>?_⟩
 obtain ⟨i,hi,rfl⟩:=List.getElem_of_mem hv
 have:=h5 i hi
 rw [List.getD_eq_getElem?_getD,List.getElem?_eq_getElem hi] at this
 change gw k.aH[i] _=true at this
 obtain ⟨_,_,_,h6,h7,_⟩:=Ru this
 by_cases h:(k.aH[i]).st=4
 ·have:=h6 h; omega
 ·have:=h7 h; omega
def iT (k:aR) (n:Int):Option bp:=if (cR k && aP 1 (k.aH.length:Int) n)=true then some (k.aH.getD (n - 1).toNat vz) else none
def ZB (w w':World) (v:Value) (o:Option bp):Prop:=∃ y:ah,v=.tuple ⟨[.agg ⟨(o.getD vz).cs y⟩,.bool o.isSome]⟩∧fJ w w' fun w=>jM w y (o.getD vz)
theorem YJ (w:World):jM w ⟨none,0,0⟩ vz:=Sl.nil w 1
theorem Qr {k:aR} {n:Int} {v:bp} (h:iT k n=some v):cR k=true∧1≤n∧n≤k.aH.length∧v=k.aH.getD (n - 1).toNat vz∧gw v n=true:=by
 unfold iT at h
 split at h
 ·rename_i hc
  rw [Bool.and_eq_true] at hc
  obtain ⟨h1,h2⟩:=hc
  unfold aP at h2
  simp only [Bool.and_eq_true,decide_eq_true_eq] at h2
  have e:v=k.aH.getD (n - 1).toNat vz:=(Option.some.inj h).symm
  refine ⟨h1,h2.1,h2.2,e,?_⟩
  obtain ⟨_,_,_,_,h5⟩:=xh h1
  have:=h5 (n - 1).toNat (by omega)
  rw [← e,show (((n - 1).toNat:Nat):Int)+1=n by omega] at this
  exact this
 ·cases h
theorem DC (k:aR) (x:ah) (n:Int) (hl:k.aH.length≤1000000) (w:World) (hx:fO w x k.aH):Ok Pr yE [.agg ⟨k.cs x⟩,.int .i64 n] w fun r w'=>ZB w w' r (iT k n):=by
 refine afA ?_
 unfold Pk
 rw [wZ]
 have bV:=hx.len
 refine (ak.start w).nw fun p w1 H _=>H.nw fun p1 w2 H _=>?_
 have H:ak w [] w2 [.av p (dA k.id k.ten k.set x) aV,.av p1 [.int .i64 0,.int .i64 0,.int .i64 0,.slice none 0 0] cI]:=H
 refine jV fun go bY=>jA fun jG iB=>H.bz 0 rfl (aB (wK k x hl _ (hx.aG H.mod)) ?_)
 rintro _ w3 ⟨rfl,m3⟩
 have H:=H.frame m3
 have no:∀ w4,ak w [] w4 [.av p (dA k.id k.ten k.set x) aV,.av p1 [.int .i64 0,.int .i64 0,.int .i64 0,.slice none 0 0] cI]→iT k n=none→jG true w4:=fun w4 H e=>by
  refine iB _ _ (ite_true rfl (H.gu 1 rfl rfl fun w5 H=>H.jx 1 rfl ?_))
  rw [e]
  exact ⟨⟨none,0,0⟩,rfl,Ek H.mod fun w=>YJ w⟩
 refine bu (H.ax 0 rfl (au p 3) rfl ?_)
 cases hm:cR k with
 | false=>exact ite_true rfl (no _ H (by unfold iT; rw [hm]; rfl))
 | true=>
  refine ite_false rfl (aB (yR _ _ _ _) ?_)
  rintro _ w4 ⟨rfl,hw⟩
  subst hw
  rw [show ((x.n:Nat):Int)=(k.aH.length:Int) by omega]
  refine bu ?_
  cases hi:aP 1 (k.aH.length:Int) n with
  | false=>exact no _ H (by unfold iT; rw [hm,hi]; rfl)
  | true=>
   have e:iT k n=some (k.aH.getD (n - 1).toNat vz):=by unfold iT; rw [hm,hi]; rfl
   unfold aP at hi
   simp only [Bool.and_eq_true,decide_eq_true_eq] at hi
   obtain ⟨h1,h2⟩:=Il hm
   refine iB _ _ (ite_false rfl (bY _ (H.bz 0 rfl (aB (HP k x (by omega) (fun v hv=>Nat.le_trans (h2 v hv) (by omega)) _ (hx.aG H.mod)) ?_))))
   rintro _ w5 ⟨y,rfl,hy⟩
   have hb:=hy.box
   refine nZ ⟨⟨by omega,by omega⟩,?_⟩
   obtain ⟨j,hj⟩:∃ j:Nat,n - 1=(j:Int):=⟨(n - 1).toNat,by omega⟩
   rw [e]
   rw [hj] at e ⊢
   rw [Int.toNat_natCast] at e ⊢
   have ha:k.aH[j]? = some (k.aH.getD j vz):=by rw [List.getD_eq_getElem?_getD,List.getElem?_eq_getElem (by omega)]; rfl
   obtain ⟨ys,fp,D⟩:=hy
   have hv:fO w5 y k.aH:=hb.now.aH
   obtain ⟨dh,z,hz,hc⟩:=Dv.at bp.ct (by omega) hv ha
   generalize k.aH.getD j vz=v at *
   have kS:=hb.now.aH.len
   have CT:∃ u,ys[j]? = some u:=by
    have hE:bw iz w5 ys k.aH:=D.box 1 rfl
    exact ⟨_,List.getElem?_eq_getElem (by rw [hE.1]; omega)⟩
   obtain ⟨u,hu⟩:=CT
   have hcu:∀ (q:Nat) (t:Value),(v.cs u)[q]? = some t→w5.cell? (Addr.add (Addr.add (base y.a) (j * 4)) q)=some t:=fun q t ht=>(D.fI 0 rfl).uX bp.ct ha hu ht
   have H:=H.join D
   refine ⟨dh,?_⟩
   refine uD hcu (H.gu 1 rfl rfl fun w6 H=>H.jx 1 rfl ⟨u,rfl,?_⟩)
   refine H.boxed fun w' h=>?_
   have h2:(aE.box fp fun w=>bw iz w ys k.aH).ok w':=h 3 _ rfl
   exact ((h2.2 w' fun _ _=>rfl).2 j u v hu ha).r
def kN (op st:Int):Option Int:=if op=5 then (if st=2 then some 1 else none) else if op=7 then (if st=1∨st=2 then some 3 else none) else if op=6 then (if st=1 then some 2 else none) else if op=8 then (if st=3 then some 2 else none) else none
theorem ag9 (op st:Int) (w:World):Ok Pr OJ [.int .i64 op,.int .i64 st] w fun v w'=>∃ z:Int,v=.tuple ⟨[.int .i64 z,.bool (kN op st).isSome]⟩∧(∀ s,kN op st=some s→z=s)∧w'=w:=by
 refine afE ?_
 unfold Pp
 refine jA fun go bY=>?_
 unfold kN
 refine bU (fun hc=>?_) (fun hc=>?_)
 ·have hc:=of_decide_eq_true hc
  rw [if_pos hc]
  by_cases h:st=2
  ·rw [if_pos h,decide_eq_true h]; exact ⟨1,rfl,fun s h=>Option.some.inj h,rfl⟩
  ·rw [if_neg h,decide_eq_false h]; exact ⟨1,rfl,fun s h=>(by cases h),rfl⟩
 ·have hc:=of_decide_eq_false hc
  rw [if_neg hc]
  refine bU (fun hd=>?_) (fun hd=>?_)
  ·have hd:=of_decide_eq_true hd
   rw [if_pos hd]
   refine bU (fun h=>?_) (fun h=>?_)
   ·have h:st=1∨st=2:=by simpa using h
    rw [if_pos h]; exact ⟨3,rfl,fun s h=>Option.some.inj h,rfl⟩
   ·have h:¬ (st=1∨st=2):=by simpa using h
    rw [if_neg h]; exact ⟨0,rfl,fun s h=>(by cases h),rfl⟩
  ·have hd:=of_decide_eq_false hd
   rw [if_neg hd]
   refine bU (fun he=>?_) (fun he=>?_)
   ·have he:=of_decide_eq_true he
    rw [if_pos he]
    by_cases h:st=1
    ·have e:kN op st=some 2:=by unfold kN; rw [if_neg hc,if_neg hd,if_pos he,if_pos h]
     exact ite_false (by rw [decide_eq_true h]; rfl) (bY _ _ ⟨2,by rw [e]; rfl,fun s h=>by rw [e] at h; exact Option.some.inj h,rfl⟩)
    ·rw [if_neg h]
     exact ite_true (by rw [decide_eq_false h]; rfl) ⟨0,rfl,fun s h=>(by cases h),rfl⟩
   ·have he:=of_decide_eq_false he
    rw [if_neg he]
    refine bU (fun hf=>?_) (fun hf=>?_)
    ·have hf:=of_decide_eq_true hf
     refine bY _ _ ?_
     by_cases h:st=3
     ·have e:kN op st=some 2:=by unfold kN; rw [if_neg hc,if_neg hd,if_neg he,if_pos hf,if_pos h]
      rw [e,decide_eq_true h]; exact ⟨2,rfl,fun s h=>Option.some.inj h,rfl⟩
     ·have e:kN op st=none:=by unfold kN; rw [if_neg hc,if_neg hd,if_neg he,if_pos hf,if_neg h]
      rw [e,decide_eq_false h]; exact ⟨2,rfl,fun s h=>(by cases h),rfl⟩
    ·have hf:=of_decide_eq_false hf
     rw [if_neg hf]; exact ⟨0,rfl,fun s h=>(by cases h),rfl⟩
end Go.Proofs.YtgjoehgomjgckaaGreatDoor
end
section
set_option linter.unusedVariables false
set_option linter.unusedSimpArgs false
namespace Go.Ev
open Go Go.RowKit
theorem ak.Rv {w0 w:World} {S:List Nat} {L:List aE} (H:ak w0 S w L) (k:Nat) {fp:List Nat} {Q Q':World→Prop} (hk:L[k]? = some (.box fp Q)) (h:∀ w,Q w→Q' w):ak w0 S w (L.set k (.box fp Q')):=
 H.less k hk (by
  have h2:(aE.box fp Q).ok w:=H.ok k _ hk
  exact ⟨h2.1,fun w' hw=>h w' (h2.2 w' hw)⟩) fun b hb=>hb
end Go.Ev
namespace Go.Proofs.YtgjoehgomjgckaaGreatDoor
open Go Go.Ev
set_option maxRecDepth 20000
set_option linter.unusedVariables false
def oE (k:aR) (n:Nat):Int:=if cR k=true then (if n=64 then (if k.aH.length=5 then 12 else 0) else 3) else 2
def iV (k:aR) (aq:List B8):aR:=if oE k aq.length=0 then ⟨k.id,k.ten,k.set,k.aH ++ [⟨(k.aH.length:Int)+1,1,0,aq⟩]⟩ else kz
theorem aaD {w w7:World} {p1:Nat} {L:List aE} {K:Nat} {e:Value} {c:Int} {t:TypeId} {cs:List Value} (H:ak w [] w7 L) (hK:L[K]? = some (.av p1 cs t)) (jo:cs.length=4) {w8:World} (h:cO w7 w8 e c) (m:Mod [] w7 w8) :
  cA ⟨p1,0,none⟩ 0 0 0 ⟨none,0,0⟩ w8 fun w8=>bz ⟨p1,0,none⟩ w8 fun a b c' d=>BP w w8 (.tuple ⟨[.agg ⟨[.int .i64 a,.int .i64 b,.int .i64 c',.slice d.a d.n d.c]⟩,e]⟩) kz c:=by
 have hKl:K<L.length:=(List.getElem?_eq_some_iff.1 hK).1
 have H:=H.gD m h
 refine H.cA K (by rw [List.getElem?_append_left hKl]; exact hK) jo fun w9 H=>?_
 have hg:((L ++ [aE.err e c]).set K (.av p1 (dA 0 0 0 ⟨none,0,0⟩) t))[K]? = some (.av p1 (dA 0 0 0 ⟨none,0,0⟩) t):=by
  rw [List.getElem?_set,if_pos rfl,if_pos (by simp; omega)]
 have he:((L ++ [aE.err e c]).set K (.av p1 (dA 0 0 0 ⟨none,0,0⟩) t))[L.length]? = some (aE.err e c):=by
  rw [List.getElem?_set,if_neg (by omega),List.getElem?_append_right (Nat.le_refl _),Nat.sub_self]; rfl
 refine H.bz K hg ⟨⟨none,0,0⟩,e,rfl,Ek H.mod fun w=>j0.nil w,?_⟩
 exact ⟨H.ok L.length _ he,fun b hb=>(H.own L.length _ he b hb).resolve_left (by simp)⟩
theorem afF (k:aR) (x xs:ah) (aq:List B8) (hl:k.aH.length≤1000000) (w:World) (hx:fO w x k.aH) (hs:Bytes w xs aq):Ok Pr MN [.agg ⟨k.cs x⟩,.slice xs.a xs.n xs.c] w fun r w'=>BP w w' r (iV k aq) (oE k aq.length):=by
 refine aeb ?_
 unfold No
 rw [o6]
 have bV:=hx.len
 have dP:=hs.len
 have hC:oE k aq.length=if cR k=true then (if aq.length=64 then (if k.aH.length=5 then 12 else 0) else 3) else 2:=rfl
 have hR:iV k aq=if oE k aq.length=0 then ⟨k.id,k.ten,k.set,k.aH ++ [⟨(k.aH.length:Int)+1,1,0,aq⟩]⟩ else kz:=rfl
 generalize oE k aq.length=C at *
 generalize iV k aq=R at *
 refine (ak.start w).nw fun p w1 H _=>H.nw fun p1 w2 H _=>?_
 have H:ak w [] w2 [.av p (dA k.id k.ten k.set x) aV,.av p1 [.int .i64 0,.int .i64 0,.int .i64 0,.slice none 0 0] aV]:=H
 refine H.bz 0 rfl (aB (wK k x hl _ (hx.aG H.mod)) ?_)
 rintro _ w3 ⟨rfl,m3⟩
 have H:=H.frame m3
 have no:∀ c:Int,c≠0→C=c→az Pr kX [.int .i64 c] w3 fun v w4=>cA ⟨p1,0,none⟩ 0 0 0 ⟨none,0,0⟩ w4 fun w8=>bz ⟨p1,0,none⟩ w8 fun a b c' d=>BP w w8 (.tuple ⟨[.agg ⟨[.int .i64 a,.int .i64 b,.int .i64 c',.slice d.a d.n d.c]⟩,v]⟩) R C:=by
  intro c hc g8
  rw [g8,if_neg hc] at hR
  subst hR
  rw [g8]
  refine aB (AX c hc w3) ?_
  rintro e w4 ⟨h,m⟩
  exact aaD H (K:=1) rfl rfl h m
 refine bu ?_
 cases hm:cR k with
 | false=>
  rw [hm,if_neg (by decide)] at hC
  exact ite_true rfl (no 2 (by decide) hC)
 | true=>
  rw [hm,if_pos rfl] at hC
  refine ite_false rfl ?_
  by_cases gX:aq.length=64
  case neg=>
   rw [if_neg gX] at hC
   exact ite_true (by rw [decide_eq_false (show ¬ ((xs.n:Nat):Int)=64 by omega)]; rfl) (no 3 (by decide) hC)
  rw [if_pos gX] at hC
  refine ite_false (by rw [decide_eq_true (show ((xs.n:Nat):Int)=64 by omega)]; rfl) (H.ax 0 rfl (au p 3) rfl ?_)
  by_cases h5:k.aH.length=5
  case pos=>
   rw [if_pos h5] at hC
   exact ite_true (decide_eq_true (by omega)) (no 12 (by decide) hC)
  rw [if_neg h5] at hC
  rw [hC,if_pos rfl] at hR
  subst hR
  rw [hC]
  obtain ⟨h1,h2⟩:=Il hm
  refine ite_false (decide_eq_false (by omega)) (H.bz 0 rfl (aB (HP k x (by omega) (fun v hv=>Nat.le_trans (h2 v hv) (by omega)) _ (hx.aG H.mod)) ?_))
  rintro _ w4 ⟨y,rfl,hy⟩
  have kS:=hy.box.now.aH.len
  obtain ⟨ys,fp,D⟩:=hy
  have hE:bw iz w4 ys k.aH:=D.box 1 rfl
  have H:=H.join D
  refine nZ (H.cA 0 rfl rfl fun w5 H=>?_)
  have H:ak w [] w5.drew [.av p (dA k.id k.ten k.set y) aV,.av p1 [.int .i64 0,.int .i64 0,.int .i64 0,.slice none 0 0] aV,.row cI 4 y (bq bp.cs k.aH ys),.box fp fun w=>bw iz w ys k.aH]:=H.drew
  refine H.ax 0 rfl (au p 3) rfl (H.ax 0 rfl (au p 3) rfl ⟨⟨by omega,by omega⟩,aB (Vu _ xs aq (by omega) _ (hs.aG H.mod)) ?_⟩)
  rintro _ w6 ⟨u,rfl,hu⟩
  obtain ⟨f2,H1⟩:=H.iu hu
  refine wz ⟨H.jZ 0 rfl hu.mod 3,H1.nw fun p2 w7 H2 _=>⟨kM (H1.av 0 rfl) (H2.av 0 rfl) (jK _ _),?_⟩⟩
  rw [show ((y.n:Nat):Int)+1=(k.aH.length:Int)+1 by omega] at H2
  have j7:bX w7 p2 ((bp.mk ((k.aH.length:Int)+1) 1 0 aq).cs u) cI:=H2.av 5 rfl
  have dP:=j7.sl 4 1 1 (by rw [bp.ct]; decide) (by omega)
  rw [show ((bp.mk ((k.aH.length:Int)+1) 1 0 aq).cs u).take (1 * 4)=(bp.mk ((k.aH.length:Int)+1) 1 0 aq).cs u from rfl] at dP
  refine H2.app (x:=⟨some ⟨p2,0,none⟩,1,1⟩) 2 Rt rfl dP (bp.lW _ _) (by show (y.n+1) * 48≤_; omega) (by show y.n+1≤_; omega) fun y' w8 H3 _=>?_
  refine H3.st 0 rfl (au p 3) (by show 3<4; omega) rfl fun w9 H4=>?_
  have H4:ak w [] w9 [.av p (dA k.id k.ten k.set y') aV,.av p1 [.int .i64 0,.int .i64 0,.int .i64 0,.slice none 0 0] aV,.row cI 4 y' (bq bp.cs k.aH ys ++ (bp.mk ((k.aH.length:Int)+1) 1 0 aq).cs u),.box fp fun w=>bw iz w ys k.aH,.box f2 fun w=>Own w 0 bh 1 u (bn aq),.av p2 ((bp.mk ((k.aH.length:Int)+1) 1 0 aq).cs u) cI]:=H4
  refine H4.bz 0 rfl (H4.cA 1 rfl rfl fun cL H5=>H5.bz 1 rfl ⟨y',.nilIface,rfl,?_,qw _ _⟩)
  refine H5.boxed fun w' h=>⟨ys ++ [u],?_,?_⟩
  ·rw [yQ _ _ hE.1,wW]
   exact h 2 _ rfl
  ·have h3:(aE.box fp fun w=>bw iz w ys k.aH).ok w':=h 3 _ rfl
   have h4:(aE.box f2 fun w=>Own w 0 bh 1 u (bn aq)).ok w':=h 4 _ rfl
   exact bw.snoc (h3.2 w' fun _ _=>rfl) (h4.2 w' fun _ _=>rfl)
def xC (vs:List bp):Nat→Option bp
 | 0=>none
 | n+1=>if (vs.getD n vz).st=1 then some (vs.getD n vz) else xC vs n
def kD (k:aR):Option bp:=if cR k=true then xC k.aH k.aH.length else none
theorem aeT (k:aR) (x:ah) (hl:k.aH.length≤1000000) (w:World) (hx:fO w x k.aH):Ok Pr Mq [.agg ⟨k.cs x⟩] w fun r w'=>ZB w w' r (kD k):=by
 refine adG ?_
 unfold MF
 rw [wZ]
 have bV:=hx.len
 refine (ak.start w).nw fun p w1 H _=>H.nw fun p1 w2 H _=>?_
 have H:ak w [] w2 [.av p (dA k.id k.ten k.set x) aV,.av p1 [.int .i64 0,.int .i64 0,.int .i64 0,.slice none 0 0] cI]:=H
 refine H.ax 0 rfl (au p 3) rfl ?_
 refine y6 (fun (n:Int) w'=>∃ j:Nat,n=(j:Int)∧j≤k.aH.length∧(cR k=true→xC k.aH j=kD k)∧ak w [] w' [.av p (dA k.id k.ten k.set x) aV,.av p1 [.int .i64 0,.int .i64 0,.int .i64 0,.slice none 0 0] cI]) (fun n _=>n.toNat)
  ⟨k.aH.length,by omega,Nat.le_refl _,fun h=>by unfold kD; rw [if_pos h],H⟩ ?_
 rintro again _ w3 ⟨j,rfl,hj,JG,H⟩ aM
 refine bU (fun hc=>?_) (fun hc=>?_)
 ·have hc:=of_decide_eq_true hc
  obtain ⟨i,rfl⟩:∃ i,j=i+1:=⟨j - 1,by omega⟩
  have back:∀ w6,ak w [] w6 [.av p (dA k.id k.ten k.set x) aV,.av p1 [.int .i64 0,.int .i64 0,.int .i64 0,.slice none 0 0] cI]→(cR k=true→xC k.aH i=kD k)→aF (((i+1:Nat):Int) - 1)∧again (((i+1:Nat):Int) - 1) w6:=fun w6 H h=>by
   refine ⟨⟨by omega,by omega⟩,?_⟩
   rw [show ((i+1:Nat):Int) - 1=(i:Int) by omega]
   exact aM _ w6 ⟨i,rfl,by omega,h,H⟩ (by omega)
  refine H.bz 0 rfl (aB (DC k x ((i+1:Nat):Int) hl _ (hx.aG H.mod)) ?_)
  rintro _ w4 ⟨y,rfl,hy⟩
  obtain ⟨f,H1⟩:=H.iu hy
  have nL:(cR k=true→xC k.aH (i+1)=kD k):=JG
  refine ⟨_,rfl,wz ⟨_,rfl,rfl,H1.nw fun p2 w5 H2 _=>H2.gu 3 rfl rfl fun w6 H2=>H2.an 3 rfl (au p2 1) rfl ?_⟩⟩
  cases hf:iT k ((i+1:Nat):Int) with
  | none=>
   refine ite_false rfl (back w6 (H2.take 2) fun h=>?_)
   unfold iT aP at hf
   rw [h,if_pos (by simp; omega)] at hf
   cases hf
  | some v=>
   obtain ⟨h1,h2,h3,h4,h5⟩:=Qr hf
   rw [show (((i+1:Nat):Int) - 1).toNat=i by omega] at h4
   have hs:=nL h1
   change (if (k.aH.getD i vz).st=1 then some (k.aH.getD i vz) else xC k.aH i)=kD k at hs
   rw [← h4] at hs
   rw [hf] at hy H2
   by_cases h:v.st=1
   ·rw [if_pos h] at hs
    rw [← hs]
    refine ite_true (by show (true && decide (v.st=1))=true; rw [decide_eq_true h]; rfl) (H2.jx 3 rfl (H2.gu 1 rfl rfl fun w7 H=>H.jx 1 rfl ⟨y,rfl,?_⟩))
    refine H.boxed fun w' hh=>?_
    have h2:(aE.box f fun w=>jM w y ((some v).getD vz)).ok w':=hh 2 _ rfl
    exact h2.2 w' fun _ _=>rfl
   ·rw [if_neg h] at hs
    exact ite_false (by show (true && decide (v.st=1))=false; rw [decide_eq_false h]; rfl) (back w6 (H2.take 2) fun _=>hs)
 ·have hc:=of_decide_eq_false hc
  obtain rfl:j=0:=by omega
  have e:kD k=none:=by
   by_cases h:cR k=true
   ·exact (JG h).symm
   ·unfold kD; rw [if_neg h]
  rw [e]
  exact H.gu 1 rfl rfl fun w8 H=>H.jx 1 rfl ⟨⟨none,0,0⟩,rfl,Ek H.mod fun w=>YJ w⟩
end Go.Proofs.YtgjoehgomjgckaaGreatDoor
end
section
set_option linter.unusedVariables false
set_option linter.unusedSimpArgs false
namespace Go.Proofs.YtgjoehgomjgckaaGreatDoor
open Go Go.Ev
set_option maxRecDepth 20000
set_option linter.unusedVariables false
theorem Dt {A:Type} {l:List A} {i:Nat} {a:A} (h:l[i]? = some a):l.set i a=l:=by
 refine List.ext_getElem? fun k=>?_
 rw [List.getElem?_set]
 by_cases e:i=k
 ·subst e; rw [if_pos rfl,if_pos (List.getElem?_eq_some_iff.1 h).1,h]
 ·rw [if_neg e]
theorem bw.put {A:Type} {E:World→ah→A→Prop} {w:World} {xs:List ah} {ls:List A} (h:bw E w xs ls) {i:Nat} {x:ah} {a:A} (hE:E w x a):bw E w (xs.set i x) (ls.set i a):=by
 refine ⟨by rw [List.length_set,List.length_set]; exact h.1,fun j y b hy hb=>?_⟩
 rw [List.getElem?_set] at hy hb
 by_cases e:i=j
 ·subst e
  rw [if_pos rfl] at hy hb
  split at hy
  ·split at hb
   ·cases hy; cases hb; exact hE
   ·cases hb
  ·cases hy
 ·rw [if_neg e] at hy hb
  exact h.2 j y b hy hb
def vu (k:aR) (op br dX clock:Int):Int:=
 if cR k=true∧5≤op∧op≤8 then (match iT k br with
  | none=>9
  | some v=>match kN op v.st with
   | none=>11
   | some _=>if op=7∧(dX≤clock∨aP 1 1099511627776 dX=false) then 2 else 0) else 2
def BQ (k:aR) (op br dX:Int):bp:=⟨(k.aH.getD (br - 1).toNat vz).n,(kN op (k.aH.getD (br - 1).toNat vz).st).getD 0,if op=7 then dX else 0,(k.aH.getD (br - 1).toNat vz).aq⟩
def pN (k:aR) (op br dX clock:Int):aR:=if vu k op br dX clock=0 then ⟨k.id,k.ten,k.set,k.aH.set (br - 1).toNat (BQ k op br dX)⟩ else kz
theorem ahL (k:aR) (x:ah) (op br dX clock:Int) (hl:k.aH.length≤1000000) (w:World) (hx:fO w x k.aH):Ok Pr Py [.agg ⟨k.cs x⟩,.int .i64 op,.int .i64 br,.int .i64 dX,.int .i64 clock] w fun r w'=>BP w w' r (pN k op br dX clock) (vu k op br dX clock):=by
 refine agy ?_
 unfold Qp
 rw [o6,wZ]
 have bV:=hx.len
 have hC:vu k op br dX clock=if cR k=true∧5≤op∧op≤8 then (match iT k br with
  | none=>9
  | some v=>match kN op v.st with
   | none=>11
   | some _=>if op=7∧(dX≤clock∨aP 1 1099511627776 dX=false) then 2 else 0) else 2:=rfl
 have hR:pN k op br dX clock=if vu k op br dX clock=0 then ⟨k.id,k.ten,k.set,k.aH.set (br - 1).toNat (BQ k op br dX)⟩ else kz:=rfl
 generalize vu k op br dX clock=C at *
 generalize pN k op br dX clock=R at *
 refine (ak.start w).nw fun p w1 H _=>H.nw fun p1 w2 H _=>?_
 have H:ak w [] w2 [.av p (dA k.id k.ten k.set x) aV,.av p1 [.int .i64 0,.int .i64 0,.int .i64 0,.slice none 0 0] aV]:=H
 refine H.bz 0 rfl (aB (wK k x hl _ (hx.aG H.mod)) ?_)
 rintro _ w3 ⟨rfl,m3⟩
 have H:=H.frame m3
 have no:∀ {L:List aE} {w3:World} (c:Int),ak w [] w3 L→L[1]? = some (.av p1 [.int .i64 0,.int .i64 0,.int .i64 0,.slice none 0 0] aV)→c≠0→C=c→az Pr kX [.int .i64 c] w3 fun v w4=>cA ⟨p1,0,none⟩ 0 0 0 ⟨none,0,0⟩ w4 fun w8=>bz ⟨p1,0,none⟩ w8 fun a b c' d=>BP w w8 (.tuple ⟨[.agg ⟨[.int .i64 a,.int .i64 b,.int .i64 c',.slice d.a d.n d.c]⟩,v]⟩) R C:=by
  intro L w3 c H hL hc g8
  rw [g8,if_neg hc] at hR
  subst hR
  rw [g8]
  refine aB (AX c hc w3) ?_
  rintro e w4 ⟨h,m⟩
  exact aaD H (K:=1) hL rfl h m
 refine bu ?_
 by_cases h0:cR k=true∧5≤op∧op≤8
 case neg=>
  rw [if_neg h0] at hC
  refine ite_true ?_ (no 2 H rfl (by decide) hC)
  cases hm:cR k with
  | false=>rfl
  | true=>
   rw [hm] at h0
   by_cases h:op<5
   ·rw [decide_eq_true h]; rfl
   ·rw [decide_eq_false h,decide_eq_true (show 8<op from Decidable.byContradiction fun hh=>h0 ⟨rfl,by omega,by omega⟩)]; rfl
 rw [if_pos h0] at hC
 obtain ⟨hm,ho1,ho2⟩:=h0
 obtain ⟨b1,b2⟩:=Il hm
 refine ite_false (by rw [hm,decide_eq_false (show ¬ op<5 by omega),decide_eq_false (show ¬ 8<op by omega)]; rfl) (H.bz 0 rfl (aB (DC k x br hl _ (hx.aG H.mod)) ?_))
 rintro _ w4 ⟨y,rfl,hy⟩
 obtain ⟨f,H⟩:=H.iu hy
 refine ⟨_,rfl,wz ⟨_,rfl,rfl,H.nw fun p2 w5 H _=>H.gu 3 rfl rfl fun w6 H=>?_⟩⟩
 cases hf:iT k br with
 | none=>
  rw [hf] at hC
  exact ite_true rfl (no 9 H rfl (by decide) hC)
 | some v=>
  rw [hf] at hC
  obtain ⟨_,h2,h3,h4,h5⟩:=Qr hf
  refine ite_false rfl (H.an 3 rfl (au p2 1) rfl (aB (ag9 op _ _) ?_))
  rw [hf]
  change _=_ at hC
  rintro _ w7 ⟨z,rfl,hz,hw⟩
  subst hw
  refine ⟨_,rfl,_,rfl,_,rfl,rfl,jA fun go bY=>?_⟩
  change C=(match kN op v.st with | none=>11 | some _=>if op=7∧(dX≤clock∨aP 1 1099511627776 dX=false) then 2 else 0) at hC
  change ∀ s,kN op v.st=some s→z=s at hz
  show aA (!(kN op v.st).isSome) _ _
  cases hn:kN op v.st with
  | none=>
   rw [hn] at hC
   exact ite_true rfl (no 11 H rfl (by decide) hC)
  | some s=>
   rw [hn] at hC
   obtain rfl:z=s:=hz s hn
   change C=if op=7∧(dX≤clock∨aP 1 1099511627776 dX=false) then 2 else 0 at hC
   have rest:C=0→go (if op=7 then dX else 0) w7:=by
    intro hC0
    rw [hC0,if_pos rfl] at hR
    subst hR
    rw [hC0] at bY
    refine bY _ _ (H.bz 0 rfl (aB (HP k x (by omega) (fun v hv=>Nat.le_trans (b2 v hv) (by omega)) _ (hx.aG H.mod)) ?_))
    rintro _ w8 ⟨u,rfl,hu⟩
    have jE:=hu.box.now.aH.len
    obtain ⟨ys,fp,D⟩:=hu
    have hE:bw iz w8 ys k.aH:=D.box 1 rfl
    have H:=(H.join D)
    refine nZ (H.cA 0 rfl rfl fun w9 H=>?_)
    have H:=H.drew
    obtain ⟨j,hj⟩:∃ j:Nat,br - 1=(j:Int):=⟨(br - 1).toNat,by omega⟩
    unfold BQ
    rw [hj] at h4 ⊢
    rw [Int.toNat_natCast] at h4 ⊢
    rw [← h4,hn]
    have ha:k.aH[j]? = some v:=by rw [h4,List.getD_eq_getElem?_getD,List.getElem?_eq_getElem (by omega)]; rfl
    obtain ⟨q,hq⟩:∃ q,ys[j]? = some q:=⟨_,List.getElem?_eq_getElem (by rw [hE.1]; omega)⟩
    have gl:jM w8 q v:=(hE.2 j q v hq ha).r
    have Kj:=ir bp.ct k.aH ys hE.1
    refine H.ax 0 rfl (au p 3) rfl ⟨⟨by omega,by omega⟩,H.ax 0 rfl (au p 3) rfl ⟨⟨by omega,by omega⟩,⟨(H.fI 4 rfl).pre (by omega),by omega,by omega⟩,?_⟩⟩
    refine H.qz 4 (i:=j * 4+1) rfl (by rw [add_add]) (by omega) rfl fun cL H2=>?_
    refine ⟨kM (H.av 0 rfl) (H2.av 0 rfl) (jK _ _),⟨(H.fI 4 rfl).pre (by omega),by omega,by omega⟩,?_⟩
    refine H2.qz 4 (i:=j * 4+2) rfl (by rw [add_add]) (by rw [List.length_set]; omega) rfl fun cX H3=>?_
    have e1:(bq bp.cs k.aH ys).set (j * 4+1) (.int .i64 z)=bq bp.cs (k.aH.set j ⟨v.n,z,v.due,v.aq⟩) (ys.set j q):=s8 bp.ct k.aH ys j 1 v ⟨v.n,z,v.due,v.aq⟩ q q _ ha hq (by omega) rfl
    have e2:(bq bp.cs (k.aH.set j ⟨v.n,z,v.due,v.aq⟩) (ys.set j q)).set (j * 4+2) (.int .i64 (if op=7 then dX else 0))=bq bp.cs ((k.aH.set j ⟨v.n,z,v.due,v.aq⟩).set j ⟨v.n,z,if op=7 then dX else 0,v.aq⟩) ((ys.set j q).set j q):=
     s8 bp.ct _ _ j 2 ⟨v.n,z,v.due,v.aq⟩ ⟨v.n,z,if op=7 then dX else 0,v.aq⟩ q q _ (by rw [List.getElem?_set,if_pos rfl,if_pos (by omega)]) (by rw [Dt hq]; exact hq) (by omega) rfl
    refine H3.bz 0 rfl (H3.cA 1 rfl rfl fun fR H4=>H4.bz 1 rfl ⟨u,.nilIface,rfl,?_,qw _ _⟩)
    refine H4.boxed fun w' h=>⟨ys,?_,?_⟩
    ·have ho:Own w' 0 cI 4 u (((bq bp.cs k.aH ys).set (j * 4+1) (.int .i64 z)).set (j * 4+2) (.int .i64 (if op=7 then dX else 0))):=h 4 _ rfl
     rw [e1,e2,List.set_set,List.set_set,Dt hq] at ho
     exact ho
    ·have h5:(aE.box fp fun w=>bw iz w ys k.aH).ok w':=h 5 _ rfl
     have hE':=h5.2 w' fun _ _=>rfl
     have:=bw.put hE' (i:=j) (x:=q) (a:=⟨v.n,z,if op=7 then dX else 0,v.aq⟩) (hE'.2 j q v hq ha:iz w' q v)
     rw [Dt hq] at this
     exact this
   refine ite_false rfl ?_
   by_cases h7:op=7
   ·rw [if_pos h7] at rest
    refine ite_false (by rw [decide_eq_true h7]; rfl) (jA fun jG iB=>?_)
    refine bU (fun hc=>?_) (fun hc=>?_)
    ·have hc:=of_decide_eq_true hc
     rw [if_pos ⟨h7,.inl hc⟩] at hC
     exact iB _ _ (ite_true rfl (no 2 H rfl (by decide) hC))
    ·have hc:=of_decide_eq_false hc
     refine aB (yR _ _ _ _) ?_
     rintro _ w8 ⟨rfl,hw⟩
     subst hw
     refine bu (iB _ _ ?_)
     cases hi:aP 1 1099511627776 dX with
     | false=>
      rw [if_pos ⟨h7,.inr hi⟩] at hC
      exact ite_true rfl (no 2 H rfl (by decide) hC)
     | true=>
      rw [if_neg (by rintro ⟨_,h | h⟩; exact hc h; rw [hi] at h; cases h)] at hC
      exact ite_false rfl (rest hC)
   ·rw [if_neg h7] at rest
    rw [if_neg (fun h=>h7 h.1)] at hC
    exact ite_true (by rw [decide_eq_false h7]; rfl) (rest hC)
end Go.Proofs.YtgjoehgomjgckaaGreatDoor
end
section
set_option linter.unusedVariables false
set_option linter.unusedSimpArgs false
namespace Go.Proofs.YtgjoehgomjgckaaGreatDoor
open Go Go.Ev
set_option maxRecDepth 20000
set_option linter.unusedVariables false
theorem _root_.Go.Ev.ak.al6 {w0 w:World} {S:List Nat} {L:List aE} (H:ak w0 S w L) (k:Nat) {s:ah} {vs:List bp} {xs:List ah} (hk:L[k]? = some (.row cI 4 s (bq bp.cs vs xs))) (jr:xs.length=vs.length) {i:Nat} (hi:i<vs.length) (v':bp) (x':ah) {K:World→Prop}
  (h:∀ w',ak w0 S w' (L.set k (.row cI 4 s (bq bp.cs (vs.set i v') (xs.set i x'))))→K w'):gu (Addr.add (base s.a) (i * 4)) v'.n v'.st v'.due x' w K:=by
 have bO:k<L.length:=(List.getElem?_eq_some_iff.1 hk).1
 obtain ⟨v,hv⟩:∃ v,vs[i]? = some v:=⟨_,List.getElem?_eq_getElem hi⟩
 obtain ⟨x,hx⟩:∃ x,xs[i]? = some x:=⟨_,List.getElem?_eq_getElem (by omega)⟩
 have Kj:=ir bp.ct vs xs jr
 have g:∀ {l:List Value} {w:World} {L':List aE},(L'.set k (.row cI 4 s l)).length=L'.length:=by simp
 have e0:(bq bp.cs vs xs).set (i * 4+0) (.int .i64 v'.n)=bq bp.cs (vs.set i ⟨v'.n,v.st,v.due,v.aq⟩) (xs.set i x):=s8 bp.ct vs xs i 0 v ⟨v'.n,v.st,v.due,v.aq⟩ x x _ hv hx (by omega) rfl
 have q1:(vs.set i ⟨v'.n,v.st,v.due,v.aq⟩)[i]? = some ⟨v'.n,v.st,v.due,v.aq⟩:=by rw [List.getElem?_set,if_pos rfl,if_pos hi]
 have p1:(xs.set i x)[i]? = some x:=by rw [Dt hx]; exact hx
 have e1:=s8 bp.ct _ _ i 1 _ ⟨v'.n,v'.st,v.due,v.aq⟩ x x (.int .i64 v'.st) q1 p1 (by omega) rfl
 rw [List.set_set,List.set_set] at e1
 have q2:(vs.set i ⟨v'.n,v'.st,v.due,v.aq⟩)[i]? = some ⟨v'.n,v'.st,v.due,v.aq⟩:=by rw [List.getElem?_set,if_pos rfl,if_pos hi]
 have e2:=s8 bp.ct _ _ i 2 _ ⟨v'.n,v'.st,v'.due,v.aq⟩ x x (.int .i64 v'.due) q2 p1 (by omega) rfl
 rw [List.set_set,List.set_set] at e2
 have q3:(vs.set i ⟨v'.n,v'.st,v'.due,v.aq⟩)[i]? = some ⟨v'.n,v'.st,v'.due,v.aq⟩:=by rw [List.getElem?_set,if_pos rfl,if_pos hi]
 have e3:=s8 bp.ct _ _ i 3 _ v' x x' x'.v q3 p1 (by omega) rfl
 rw [List.set_set,List.set_set] at e3
 have gk:∀ (r:aE) (M:List aE),k<M.length→(M.set k r)[k]? = some r:=fun r M h=>by rw [List.getElem?_set,if_pos rfl,if_pos h]
 refine H.qz k (i:=i * 4+0) hk (by rw [add_add]) (by omega) rfl fun w1 H1=>?_
 rw [e0] at H1
 refine H1.qz k (i:=i * 4+1) (gk _ _ bO) (by rw [add_add]) (by rw [ir bp.ct _ _ (by simp [jr])]; simp; omega) rfl fun w2 H2=>?_
 rw [e1,List.set_set] at H2
 refine H2.qz k (i:=i * 4+2) (gk _ _ bO) (by rw [add_add]) (by rw [ir bp.ct _ _ (by simp [jr])]; simp; omega) rfl fun w3 H3=>?_
 rw [e2,List.set_set] at H3
 refine H3.qz k (i:=i * 4+3) (v:=x'.v) (gk _ _ bO) (by rw [add_add]) (by rw [ir bp.ct _ _ (by simp [jr])]; simp; omega) rfl fun w4 H4=>?_
 rw [e3,List.set_set] at H4
 exact h w4 H4
def ql (clock:Int) (v:bp):bp:=if v.st=3∧v.due≤clock then ⟨v.n,4,0,[]⟩ else v
def x8 (clock:Int) (vs:List bp):Nat:=vs.countP fun v=>decide (v.st=3∧v.due≤clock)
def wh (k:aR) (clock:Int):aR:=if cR k=true then ⟨k.id,k.ten,k.set,k.aH.map (ql clock)⟩ else kz
def x9 (k:aR) (clock:Int):Nat:=if cR k=true then x8 clock k.aH else 0
theorem agA (k:aR) (x:ah) (clock:Int) (hl:k.aH.length≤1000000) (w:World) (hx:fO w x k.aH):Ok Pr NB [.agg ⟨k.cs x⟩,.int .i64 clock] w fun r w'=>∃ y:ah,r=.tuple ⟨[.agg ⟨(wh k clock).cs y⟩,.int .i64 (x9 k clock:Int)]⟩∧fJ w w' fun w=>j0 w y (wh k clock).aH:=by
 refine aeM ?_
 unfold Oh
 rw [o6,wZ]
 have bV:=hx.len
 refine (ak.start w).nw fun p w1 H _=>H.nw fun p1 w2 H _=>?_
 have H:ak w [] w2 [.av p (dA k.id k.ten k.set x) aV,.av p1 [.int .i64 0,.int .i64 0,.int .i64 0,.slice none 0 0] aV]:=H
 refine H.bz 0 rfl (aB (wK k x hl _ (hx.aG H.mod)) ?_)
 rintro _ w3 ⟨rfl,m3⟩
 have H:=H.frame m3
 refine bu ?_
 have hR:wh k clock=if cR k=true then ⟨k.id,k.ten,k.set,k.aH.map (ql clock)⟩ else kz:=rfl
 have hM:x9 k clock=if cR k=true then x8 clock k.aH else 0:=rfl
 generalize wh k clock=R at *
 generalize x9 k clock=M at *
 cases hm:cR k with
 | false=>
  rw [hm,if_neg (by decide)] at hR hM
  subst hR hM
  exact ite_true rfl (H.cA 1 rfl rfl fun w8 H=>H.bz 1 rfl ⟨⟨none,0,0⟩,rfl,Ek H.mod fun w=>j0.nil w⟩)
 | true=>
  rw [hm,if_pos rfl] at hR hM
  subst hR hM
  obtain ⟨b1,b2⟩:=Il hm
  refine ite_false rfl (H.bz 0 rfl (aB (HP k x (by omega) (fun v hv=>Nat.le_trans (b2 v hv) (by omega)) _ (hx.aG H.mod)) ?_))
  rintro _ w4 ⟨u,rfl,hu⟩
  have jE:=hu.box.now.aH.len
  obtain ⟨ys,fp,D⟩:=hu
  have hE:bw iz w4 ys k.aH:=D.box 1 rfl
  have H:=(H.join D)
  refine nZ (H.cA 0 rfl rfl fun w5 H=>H.ax 0 rfl (au p 3) rfl ?_)
  have H:ak w [] w5 [.av p (dA k.id k.ten k.set u) aV,.av p1 [.int .i64 0,.int .i64 0,.int .i64 0,.slice none 0 0] aV,.row cI 4 u (bq bp.cs k.aH ys),.box fp fun w=>bw iz w ys k.aH]:=H
  have Kl:∀ i,i<k.aH.length→x8 clock (k.aH.take (i+1))=x8 clock (k.aH.take i)+if (k.aH.getD i vz).st=3∧(k.aH.getD i vz).due≤clock then 1 else 0:=fun i hi=>by
   unfold x8
   rw [kW _ _ hi vz,List.countP_append]
   simp [List.countP_cons]
  refine k5 0 k.aH.length (fun i (n:Int) w'=>n=(x8 clock (k.aH.take i):Int)∧∃ zs,zs.length=k.aH.length∧ak w [] w' [.av p (dA k.id k.ten k.set u) aV,.av p1 [.int .i64 0,.int .i64 0,.int .i64 0,.slice none 0 0] aV,.row cI 4 u (bq bp.cs ((k.aH.take i).map (ql clock) ++ k.aH.drop i) zs),.box fp fun w=>bw iz w zs ((k.aH.take i).map (ql clock) ++ k.aH.drop i)]) rfl (by omega) ⟨rfl,ys,hE.1,H⟩ ?_ ?_
  ·rintro again i _ w6 _ hi ⟨rfl,zs,jR,H⟩ aM
   have hcN:=Kl i hi
   have hle:x8 clock (k.aH.take i)≤1000:=Nat.le_trans (List.countP_le_length) (by rw [List.length_take]; omega)
   have qF:=IY (ql clock) k.aH i hi vz
   have xL:=IZ (ql clock) k.aH i hi
   have arh:((k.aH.take i).map (ql clock) ++ k.aH.drop i).length=k.aH.length:=by simp; omega
   have ha:k.aH[i]? = some (k.aH.getD i vz):=by rw [List.getD_eq_getElem?_getD,List.getElem?_eq_getElem hi]; rfl
   rw [ha] at xL
   obtain ⟨q,hq⟩:∃ q,zs[i]? = some q:=⟨_,List.getElem?_eq_getElem (by omega)⟩
   rw [← qF,hcN] at aM
   generalize (k.aH.take i).map (ql clock) ++ k.aH.drop i=MS at *
   generalize k.aH.getD i vz=v at *
   have hc:∀ (j:Nat) (t:Value),(v.cs q)[j]? = some t→w6.cell? (Addr.add (Addr.add (base u.a) (Int.toNat (i:Int) * 4)) j)=some t:=fun j t ht=>by
    rw [Int.toNat_natCast]
    exact (H.fI 2 rfl).uX bp.ct xL hq ht
   refine ite_true (decide_eq_true (by omega)) ⟨⟨(H.fI 2 rfl).pre (by omega),by omega,by omega⟩,uD hc (H.nw fun p2 w7 H _=>H.gu 4 rfl rfl fun w8 H=>H.an 4 rfl (au p2 1) rfl (H.an 4 rfl (au p2 2) rfl ?_))⟩
   by_cases hs:v.st=3∧v.due≤clock
   ·have es:ql clock v=⟨v.n,4,0,[]⟩:=by unfold ql; rw [if_pos hs]
    rw [es,if_pos hs] at aM
    refine ite_true (by rw [decide_eq_true hs.1,decide_eq_true hs.2]; rfl) (H.ax 0 rfl (au p 3) rfl (H.an 4 rfl (au p2 0) rfl ⟨⟨(H.fI 2 rfl).pre (by omega),by omega,by omega⟩,?_⟩))
    rw [Int.toNat_natCast]
    refine H.al6 2 rfl (by omega) (by omega) ⟨v.n,4,0,[]⟩ ⟨none,0,0⟩ fun w9 H=>⟨⟨by omega,by omega⟩,⟨by omega,by omega⟩,aM _ w9 ⟨by omega,zs.set i ⟨none,0,0⟩,by rw [List.length_set]; exact jR,?_⟩⟩
    exact (H.Rv 3 rfl fun w h=>bw.put h (i:=i) (x:=⟨none,0,0⟩) (a:=⟨v.n,4,0,[]⟩) (Own.nil w 0 bh 1)).take 4
   ·have es:ql clock v=v:=by unfold ql; rw [if_neg hs]
    rw [es,if_neg hs,Dt xL] at aM
    refine ite_false ?_ ⟨⟨by omega,by omega⟩,aM _ w8 ⟨by omega,zs,jR,H.take 4⟩⟩
    show (decide (v.st=3) && decide (v.due≤clock))=false
    rw [Bool.and_eq_false_iff,decide_eq_false_iff_not,decide_eq_false_iff_not]
    by_cases h:v.st=3
    ·exact .inr fun h2=>hs ⟨h,h2⟩
    ·exact .inl h
  ·rintro again _ w6 ⟨rfl,zs,jR,H⟩
   rw [List.take_of_length_le (Nat.le_refl _),List.drop_of_length_le (Nat.le_refl _),List.append_nil] at H
   rw [List.take_of_length_le (Nat.le_refl _)]
   refine ite_false (decide_eq_false (by omega)) (H.bz 0 rfl (H.cA 1 rfl rfl fun w7 H=>H.bz 1 rfl ⟨u,rfl,?_⟩))
   refine H.boxed fun w' h=>⟨zs,h 2 _ rfl,?_⟩
   have h3:(aE.box fp fun w=>bw iz w zs (k.aH.map (ql clock))).ok w':=h 3 _ rfl
   exact h3.2 w' fun _ _=>rfl
end Go.Proofs.YtgjoehgomjgckaaGreatDoor
end
section
set_option linter.unusedVariables false
set_option linter.unusedSimpArgs false
namespace Go.Proofs.YtgjoehgomjgckaaGreatDoor
open Go Go.Ev
set_option maxRecDepth 20000
set_option linter.unusedVariables false
def Rw (g:Value) (us:Int→Bool):Prop:=∀ (s:Int) (w:World),lN Pr g [.int .i64 s] w fun v w'=>v=.bool (us s)∧w'=w
def mT (s:Int):Bool:=!decide (s=4)
def j4 (s:Int):Bool:=decide (s=1)
theorem ahM:jB Pr Dn=true:=by kernel_rfl
theorem aj9:jB Pr G5=true:=by kernel_rfl
theorem XH:Rw (.func (.func Dn) ⟨[]⟩ ⟨[]⟩) j4:=fun s w=>by
 refine y7 ahM (adF ?_)
 unfold ME
 exact ⟨rfl,rfl⟩
theorem ail:Rw (.func (.func G5) ⟨[]⟩ ⟨[]⟩) mT:=fun s w=>by
 refine y7 aj9 (ado ?_)
 unfold Mj
 exact ⟨rfl,rfl⟩
def jv (k:aR) (br:Int) (us:Int→Bool):Int:=if cR k=true then (match iT k br with | none=>9 | some v=>if us v.st=true then mG k.set v.aq.length else 11) else 2
def sL (k:aR) (br:Int) (us:Int→Bool):List B8:=if jv k br us=0 then ju k.set ((iT k br).getD vz).aq else []
def wj (k:aR) (br:Int) (us:Int→Bool):List B8:=if jv k br us=0 then uu k.set ((iT k br).getD vz).aq else []
theorem al7 {set:Int} {l:List B8} (h:mG set l.length≠0):ju set l=[]:=by unfold ju; rw [if_neg h]
theorem al8 {set:Int} {l:List B8} (h:mG set l.length≠0):uu set l=[]:=by unfold uu; rw [if_neg h]
theorem Ot (k:aR) (x:ah) (br:Int) (g:Value) (us:Int→Bool) (hg:Rw g us) (hl:k.aH.length≤1000000) (w:World) (hx:fO w x k.aH):Ok Pr DF [.agg ⟨k.cs x⟩,.int .i64 br,g] w fun r w'=>∃ (y z:ah) (er:Value),r=.tuple ⟨[.slice y.a y.n y.c,.slice z.a z.n z.c,er]⟩∧
  ak w [] w' [.row bh 1 y (bn (sL k br us)),.row bh 1 z (bn (wj k br us)),aE.err er (jv k br us)]:=by
 refine afD ?_
 unfold Po
 rw [wZ]
 have bV:=hx.len
 have hC:jv k br us=if cR k=true then (match iT k br with | none=>9 | some v=>if us v.st=true then mG k.set v.aq.length else 11) else 2:=rfl
 have hA:sL k br us=if jv k br us=0 then ju k.set ((iT k br).getD vz).aq else []:=rfl
 have hB:wj k br us=if jv k br us=0 then uu k.set ((iT k br).getD vz).aq else []:=rfl
 generalize jv k br us=C at *
 generalize sL k br us=A at *
 generalize wj k br us=B at *
 refine (ak.start w).nw fun p w1 H _=>?_
 have H:ak w [] w1 [.av p (dA k.id k.ten k.set x) aV]:=H
 refine H.bz 0 rfl (aB (wK k x hl _ (hx.aG H.mod)) ?_)
 rintro _ w2 ⟨rfl,m2⟩
 have H:=H.frame m2
 have no:∀ {L:List aE} {w3:World} (c:Int),ak w [] w3 L→c≠0→C=c→az Pr kX [.int .i64 c] w3 fun v w4=>∃ (y z:ah) (er:Value),Value.tuple ⟨[.slice none 0 0,.slice none 0 0,v]⟩=.tuple ⟨[.slice y.a y.n y.c,.slice z.a z.n z.c,er]⟩∧
   ak w [] w4 [.row bh 1 y (bn A),.row bh 1 z (bn B),aE.err er C]:=by
  intro L w3 c H hc g8
  rw [g8] at hA hB
  rw [if_neg hc] at hA hB
  subst hA hB
  refine aB (AX c hc w3) ?_
  rintro e w4 ⟨h,m4⟩
  rw [g8]
  exact ⟨⟨none,0,0⟩,⟨none,0,0⟩,e,rfl,((((ak.start w).jk bh 1).jk bh 1).frame H.mod).gD m4 h⟩
 refine bu ?_
 cases hm:cR k with
 | false=>
  rw [hm,if_neg (by decide)] at hC
  exact ite_true rfl (no 2 H (by decide) hC)
 | true=>
  rw [hm,if_pos rfl] at hC
  refine ite_false rfl (H.bz 0 rfl (aB (DC k x br hl _ (hx.aG H.mod)) ?_))
  rintro _ w4 ⟨y,rfl,hy⟩
  obtain ⟨f,H⟩:=H.iu hy
  refine ⟨_,rfl,wz ⟨_,rfl,rfl,H.nw fun p1 w5 H _=>H.gu 2 rfl rfl fun w6 H=>?_⟩⟩
  cases hf:iT k br with
  | none=>
   rw [hf] at hC
   exact ite_true rfl (no 9 H (by decide) hC)
  | some v=>
   rw [hf] at hC hA hB H
   change C=(if us v.st=true then mG k.set v.aq.length else 11) at hC
   change A=(if C=0 then ju k.set v.aq else []) at hA
   change B=(if C=0 then uu k.set v.aq else []) at hB
   refine ite_false rfl (H.an 2 rfl (au p1 1) rfl (DR (hg _ _) ?_))
   rintro _ w7 ⟨rfl,hw⟩
   subst hw
   refine bu ?_
   show aA (!us v.st) _ _
   cases hu:us v.st with
   | false=>
    rw [hu,if_neg (by decide)] at hC
    exact ite_true rfl (no 11 H (by decide) hC)
   | true=>
    rw [hu,if_pos rfl] at hC
    have hs:jM w7 y v:=H.box 1 rfl
    refine ite_false rfl (H.an 0 rfl (au p 2) rfl (H.ax 2 rfl (au p1 3) rfl (aB (ahH k.set y v.aq _ hs) ?_)))
    rintro _ w8 ⟨a,b,er,rfl,D⟩
    refine ⟨_,rfl,a,rfl,b,rfl,rfl,a,b,er,rfl,?_⟩
    have H:=(H.join D).drop 3
    have eA:A=ju k.set v.aq:=by
     rw [hA]
     by_cases h:C=0
     ·rw [if_pos h]
     ·rw [if_neg h,al7 (by rw [← hC]; exact h)]
    have eB:B=uu k.set v.aq:=by
     rw [hB]
     by_cases h:C=0
     ·rw [if_pos h]
     ·rw [if_neg h,al8 (by rw [← hC]; exact h)]
    rw [eA,eB,hC]
    exact H
theorem U6 (k:aR) (x:ah) (br:Int) (hl:k.aH.length≤1000000) (w:World) (hx:fO w x k.aH):Ok Pr Hh [.agg ⟨k.cs x⟩,.int .i64 br] w fun r w'=>∃ (y:ah) (er:Value),r=.tuple ⟨[.slice y.a y.n y.c,er]⟩∧
  ak w [] w' [.row bh 1 y (bn (sL k br mT)),aE.err er (jv k br mT)]:=by
 refine aea ?_
 unfold Nn
 refine (ak.start w).nw fun p w1 H _=>?_
 have H:ak w [] w1 [.av p (dA k.id k.ten k.set x) aV]:=H
 refine H.bz 0 rfl (aB (Ot k x br _ mT ail hl _ (hx.aG H.mod)) ?_)
 rintro _ w2 ⟨y,z,er,rfl,D⟩
 exact ⟨_,rfl,y,rfl,z,rfl,rfl,y,er,rfl,(H.join D).two 1 3 rfl rfl (by omega)⟩
theorem Wn {vs:List bp} {v:bp}:∀ n,xC vs n=some v→∃ i,i<n∧v=vs.getD i vz∧v.st=1
 | 0,h=>by cases h
 | n+1,h=>by
  change (if (vs.getD n vz).st=1 then some (vs.getD n vz) else xC vs n)=some v at h
  split at h
  ·rename_i hs
   cases h
   exact ⟨n,by omega,rfl,hs⟩
  ·obtain ⟨i,h1,h2⟩:=Wn n h
   exact ⟨i,by omega,h2⟩
theorem ajc {k:aR} {v:bp} (h:kD k=some v):cR k=true∧v.st=1∧iT k v.n=some v∧v.aq.length=64∧mG k.set v.aq.length=0∧jv k v.n j4=0∧sL k v.n j4=ju k.set v.aq:=by
 unfold kD at h
 split at h
 ·rename_i hm
  obtain ⟨i,h1,h2,h3⟩:=Wn _ h
  obtain ⟨_,_,_,h4,h5⟩:=xh hm
  have h6:=h5 i h1
  rw [← h2] at h6
  obtain ⟨q1,q2,q3,q4,q5,q6,q7⟩:=Ru h6
  have hf:iT k v.n=some v:=by
   unfold iT aP
   rw [if_pos (by rw [hm]; simp; omega),show (v.n - 1).toNat=i by omega,← h2]
  have gX:=q5 (by omega)
  have hk:mG k.set v.aq.length=0:=by unfold mG; rw [aj8 hm,if_pos rfl,if_pos gX]
  have hp:jv k v.n j4=0:=by
   unfold jv
   rw [if_pos hm,hf]
   show (if j4 v.st=true then mG k.set v.aq.length else 11)=0
   rw [if_pos (by unfold j4; rw [h3]; rfl),hk]
  refine ⟨hm,h3,hf,gX,hk,hp,?_⟩
  unfold sL
  rw [if_pos hp,hf]; rfl
 ·cases h
def kV (k:aR) (m:List B8):Int:=if cR k=true then (match kD k with | none=>11 | some v=>oO k.set (ju k.set v.aq) m) else 2
def wk (k:aR) (m:List B8):Int:=if kV k m=0 then ((kD k).getD vz).n else 0
def jP (k:aR) (m:List B8):List B8:=if kV k m=0 then AG k.set (ju k.set ((kD k).getD vz).aq) m else []
def sM (k:aR) (m:List B8):List B8:=if kV k m=0 then x5 k.set (ju k.set ((kD k).getD vz).aq) m else []
theorem aha (k:aR) (x xm:ah) (m:List B8) (hl:k.aH.length≤1000000) (w:World) (hx:fO w x k.aH) (Km:Bytes w xm m):Ok Pr OH [.agg ⟨k.cs x⟩,.slice xm.a xm.n xm.c] w fun r w'=>∃ (y z:ah) (er:Value),r=.tuple ⟨[.int .i64 (wk k m),.slice y.a y.n y.c,.slice z.a z.n z.c,er]⟩∧
  ak w [] w' [.row bh 1 y (bn (jP k m)),.cut z (sM k m),aE.err er (kV k m)]:=by
 refine afC ?_
 unfold Pn
 rw [wZ]
 have hC:kV k m=if cR k=true then (match kD k with | none=>11 | some v=>oO k.set (ju k.set v.aq) m) else 2:=rfl
 have hN:wk k m=if kV k m=0 then ((kD k).getD vz).n else 0:=rfl
 have hL:jP k m=if kV k m=0 then AG k.set (ju k.set ((kD k).getD vz).aq) m else []:=rfl
 have hS:sM k m=if kV k m=0 then x5 k.set (ju k.set ((kD k).getD vz).aq) m else []:=rfl
 generalize kV k m=C at *
 generalize wk k m=N at *
 generalize jP k m=V at *
 generalize sM k m=S at *
 refine (ak.start w).nw fun p w1 H _=>?_
 have H:ak w [] w1 [.av p (dA k.id k.ten k.set x) aV]:=H
 refine H.bz 0 rfl (aB (wK k x hl _ (hx.aG H.mod)) ?_)
 rintro _ w2 ⟨rfl,m2⟩
 have H:=H.frame m2
 have no:∀ {w3:World} (e:Value) (c:Int),c≠0→C=c→cO w w3 e c→Mod [] w w3→∃ (y z:ah) (er:Value),Value.tuple ⟨[.int .i64 0,.slice none 0 0,.slice none 0 0,e]⟩=.tuple ⟨[.int .i64 N,.slice y.a y.n y.c,.slice z.a z.n z.c,er]⟩∧
   ak w [] w3 [.row bh 1 y (bn V),.cut z S,aE.err er C]:=by
  intro w3 e c hc g8 h m
  rw [g8] at hN hL hS
  rw [if_neg hc] at hN hL hS
  subst hN hL hS
  rw [g8]
  have H1:=((ak.start w).jk bh 1).push (r:=.cut ⟨none,0,0⟩ []) (Mod.refl [] w) (.inl ⟨rfl,rfl⟩) (fun b hb=>by simp [aE.cut,ah.row] at hb)
  exact ⟨⟨none,0,0⟩,⟨none,0,0⟩,e,rfl,H1.gD m h⟩
 refine bu ?_
 cases hm:cR k with
 | false=>
  rw [hm,if_neg (by decide)] at hC
  refine ite_true rfl (aB (AX 2 (by decide) _) ?_)
  rintro e w3 ⟨h,m3⟩
  exact no e 2 (by decide) hC (BG h H.mod) (H.mod.trans m3)
 | true=>
  rw [hm,if_pos rfl] at hC
  refine ite_false rfl (H.bz 0 rfl (aB (aeT k x hl _ (hx.aG H.mod)) ?_))
  rintro _ w4 ⟨y,rfl,hy⟩
  obtain ⟨f,H⟩:=H.iu hy
  refine ⟨_,rfl,wz ⟨_,rfl,rfl,H.nw fun p1 w5 H _=>H.gu 2 rfl rfl fun w6 H=>?_⟩⟩
  cases hf:kD k with
  | none=>
   rw [hf] at hC
   refine ite_true rfl (aB (AX 11 (by decide) _) ?_)
   rintro e w3 ⟨h,m3⟩
   exact no e 11 (by decide) hC (BG h H.mod) (H.mod.trans m3)
  | some v=>
   rw [hf] at hC hN hL hS H
   change C=oO k.set (ju k.set v.aq) m at hC
   change N=(if C=0 then v.n else 0) at hN
   change V=(if C=0 then AG k.set (ju k.set v.aq) m else []) at hL
   change S=(if C=0 then x5 k.set (ju k.set v.aq) m else []) at hS
   obtain ⟨c1,c2,c3,c4,c5,c6,c7⟩:=ajc hf
   refine ite_false rfl (H.bz 0 rfl (H.an 2 rfl (au p1 0) rfl (aB (Ot k x v.n _ j4 XH hl _ (hx.aG H.mod)) ?_)))
   rw [c6,c7]
   rintro _ w8 ⟨a,b,er,rfl,D⟩
   have H:=H.join D
   have he:fZ w8 er 0:=H.err 5 rfl
   refine ⟨_,rfl,a,rfl,b,rfl,rfl,he.isNil (ite_false rfl (H.an 0 rfl (au p 2) rfl (aB (ahI k.set a xm _ m _ (H.bytes 3 rfl) (Km.aG H.mod)) ?_)))⟩
   rintro _ w9 ⟨c,d,e2,rfl,D2⟩
   have H:=H.join D2
   have yh:fZ w9 e2 (oO k.set (ju k.set v.aq) m):=H.err 8 rfl
   refine ⟨_,rfl,c,rfl,d,rfl,rfl,yh.isNil ?_⟩
   by_cases h0:oO k.set (ju k.set v.aq) m=0
   ·rw [h0] at hC
    rw [hC,if_pos rfl] at hN hL hS
    refine ite_false (by rw [decide_eq_true h0]; rfl) (H.an 2 rfl (au p1 0) rfl ⟨c,d,.nilIface,?_,?_⟩)
    ·rw [hN]; rfl
    ·rw [hL,hS,hC]
     exact ((H.two 6 7 rfl rfl (by omega))).gD (Mod.refl _ _) (qw _ _)
   ·refine ite_true (by rw [decide_eq_false h0]; rfl) (no e2 _ h0 hC ⟨yh,fun b hb=>?_⟩ H.mod)
    exact (H.own 8 (aE.err e2 (oO k.set (ju k.set v.aq) m)) rfl b hb).resolve_left (by simp)
def oC (k:aR) (br:Int) (c:List B8):Int:=if jv k br j4=0 then x6 k.set (wj k br j4) c else jv k br j4
def oL (k:aR) (br:Int) (c:List B8):List B8:=if oC k br c=0 then uw k.set (wj k br j4) c else []
theorem al9 {set:Int} {l c:List B8} (h:x6 set l c≠0):uw set l c=[]:=by unfold uw; rw [if_neg h]
theorem ahb (k:aR) (x xc:ah) (br:Int) (c:List B8) (hl:k.aH.length≤1000000) (w:World) (hx:fO w x k.aH) (hc:Bytes w xc c):Ok Pr OG [.agg ⟨k.cs x⟩,.int .i64 br,.slice xc.a xc.n xc.c] w fun r w'=>∃ (y:ah) (er:Value),r=.tuple ⟨[.slice y.a y.n y.c,er]⟩∧
  ak w [] w' [.cut y (oL k br c),aE.err er (oC k br c)]:=by
 refine afB ?_
 unfold Pm
 have hC:oC k br c=if jv k br j4=0 then x6 k.set (wj k br j4) c else jv k br j4:=rfl
 have hL:oL k br c=if oC k br c=0 then uw k.set (wj k br j4) c else []:=rfl
 generalize oC k br c=C at *
 generalize oL k br c=V at *
 refine (ak.start w).nw fun p w1 H _=>?_
 have H:ak w [] w1 [.av p (dA k.id k.ten k.set x) aV]:=H
 refine H.bz 0 rfl (aB (Ot k x br _ j4 XH hl _ (hx.aG H.mod)) ?_)
 rintro _ w2 ⟨y,z,er,rfl,D⟩
 have H:=H.join D
 have he:fZ w2 er (jv k br j4):=H.err 3 rfl
 refine ⟨_,rfl,y,rfl,z,rfl,rfl,he.isNil ?_⟩
 by_cases h0:jv k br j4=0
 ·rw [if_pos h0] at hC
  refine ite_false (by rw [decide_eq_true h0]; rfl) (H.an 0 rfl (au p 2) rfl (aB (ahJ k.set z xc _ c _ (H.bytes 2 rfl) (hc.aG H.mod)) ?_))
  rintro _ w3 ⟨u,e2,rfl,D2⟩
  refine ⟨_,rfl,u,rfl,rfl,u,e2,rfl,?_⟩
  have eV:V=uw k.set (wj k br j4) c:=by
   rw [hL]
   by_cases h:C=0
   ·rw [if_pos h]
   ·rw [if_neg h,al9 (by rw [← hC]; exact h)]
  rw [eV,hC]
  exact (H.join D2).drop 4
 ·rw [if_neg h0] at hC
  rw [hC,if_neg h0] at hL
  refine ite_true (by rw [decide_eq_false h0]; rfl) ⟨⟨none,0,0⟩,er,rfl,?_⟩
  have H1:=(ak.start w).push (r:=.cut ⟨none,0,0⟩ []) (Mod.refl [] w) (.inl ⟨rfl,rfl⟩) (fun b hb=>by simp [aE.cut,ah.row] at hb)
  rw [hL,hC]
  exact H1.gD H.mod ⟨he,fun b hb=>(H.own 3 (aE.err er (jv k br j4)) rfl b hb).resolve_left (by simp)⟩
end Go.Proofs.YtgjoehgomjgckaaGreatDoor
end
section
set_option linter.unusedVariables false
set_option linter.unusedSimpArgs false
namespace Go.Proofs.YtgjoehgomjgckaaGreatDoor
open Go Go.Ev
set_option maxRecDepth 20000
set_option linter.unusedVariables false
def bt (u:aI) (k:Nat):aI:=(u >>> k) &&& 1
def fP (high:Int) (u:aI):Bool:=if high<0∨1099511627776<high then false else if high=0 then decide (u=0) else decide (high<64→u >>> high.toNat=0) && decide (u &&& 1=1)
def mW (high:Int) (u:aI) (n:Int):Bool:=if fP high u=true∧1≤n∧n≤1099511627776∧high - n<64 then decide (high<n) || decide (bt u (high - n).toNat=0) else false
def mu (high:Int) (u:aI) (n:Int):Int:=if fP high u=true then (if mW high u n=true then 0 else 8) else 2
def tQ (high:Int) (u:aI) (n:Int):Int:=if mu high u n=0 then (if high<n then n else high) else 0
def xM (high:Int) (u:aI) (n:Int):aI:=if mu high u n=0 then (if high<n then (u <<< (min (n - high) 64).toNat) ||| 1 else u ||| ((1:aI) <<< (high - n).toNat)) else 0
theorem Rf {high:Int} {u:aI} (h:fP high u=true):0≤high∧high≤1099511627776:=by
 unfold fP at h
 split at h
 ·cases h
 ·omega
theorem BH {x y:aI}:((x.toNat:Int)=(y.toNat:Int))↔x=y:=by
 rw [Int.ofNat_inj]
 exact ⟨BitVec.eq_of_toNat_eq,fun h=>by rw [h]⟩
theorem Sz:(1:Int)=((1:aI).toNat:Int):=rfl
theorem ama:(0:Int)=((0:aI).toNat:Int):=rfl
theorem JM (u:aI):iA .u64 (u.toNat:Int) 1=((u &&& 1).toNat:Int):=by
 have:=Sm u 1
 rw [← Sz] at this
 exact this
theorem Np (high:Int) (u:aI) (w:World):Ok Pr Dx [.int .i64 high,.int .u64 (u.toNat:Int)] w fun r w'=>r=.bool (fP high u)∧w'=w:=by
 refine aeQ ?_
 unfold On
 refine jV fun go bY=>?_
 by_cases h:high<0∨1099511627776<high
 ·exact ite_true (by simpa using h) ⟨by unfold fP; rw [if_pos h],rfl⟩
 refine ite_false (by simpa using h) ?_
 by_cases h0:high=0
 ·refine ite_true (decide_eq_true h0) ⟨?_,rfl⟩
  unfold fP
  rw [if_neg h,if_pos h0]
  congr 1
  exact decide_eq_decide.2 (BH (y:=0))
 refine ite_false (decide_eq_false h0) ?_
 have last:fP high u=decide (u &&& 1=1)→go w:=fun e=>by
  refine bY _ ⟨?_,rfl⟩
  rw [e,JM]
  congr 1
  exact decide_eq_decide.2 (BH (y:=1))
 by_cases gX:high<64
 ·refine ite_true (decide_eq_true gX) (kL (by omega) ?_)
  obtain ⟨k,rfl⟩:∃ k:Nat,high=(k:Int):=⟨high.toNat,by omega⟩
  rw [zD]
  have hM:fP (k:Int) u=(decide (u >>> k=0) && decide (u &&& 1=1)):=by
   unfold fP
   rw [if_neg h,if_neg h0,Int.toNat_natCast]
   congr 1
   exact decide_eq_decide.2 ⟨fun f=>f gX,fun f _=>f⟩
  by_cases hz:u >>> k=0
  ·exact ite_false (by rw [decide_eq_true (show ((u >>> k).toNat:Int)=0 by rw [hz]; rfl)]; rfl) (last (by rw [hM,decide_eq_true hz]; rfl))
  ·exact ite_true (by rw [decide_eq_false (show ¬ ((u >>> k).toNat:Int)=0 from fun f=>hz (BH.1 (f.trans ama)))]; rfl) ⟨by rw [hM,decide_eq_false hz]; rfl,rfl⟩
 ·refine ite_false (decide_eq_false gX) (last ?_)
  unfold fP
  rw [if_neg h,if_neg h0,decide_eq_true (fun f=>absurd f gX),Bool.true_and]
theorem anC {a b:Int} (ha:0≤a∧a≤1099511627776) (hb:1≤b∧b≤1099511627776):IntKind.wrap .i64 (a - b)=a - b:=wrap_i64 (by omega) (by omega)
theorem aeU (high:Int) (u:aI) (n:Int) (w:World):Ok Pr Mo [.int .i64 high,.int .u64 (u.toNat:Int),.int .i64 n] w fun r w'=>r=.bool (mW high u n)∧w'=w:=by
 refine adD ?_
 unfold MC
 refine aB (Np high u w) ?_
 rintro _ w1 ⟨rfl,hw⟩
 subst hw
 refine bu ?_
 by_cases h:fP high u=true∧1≤n∧n≤1099511627776
 case neg=>
  have e:mW high u n=false:=by unfold mW; rw [if_neg fun f=>h ⟨f.1,f.2.1,f.2.2.1⟩]
  refine ite_true ?_ ⟨by rw [e],rfl⟩
  cases hm:fP high u with
  | false=>rfl
  | true=>
   rw [hm] at h
   by_cases h1:n<1
   ·rw [decide_eq_true h1]; rfl
   ·rw [decide_eq_true (show 1099511627776<n from Decidable.byContradiction fun f=>h ⟨rfl,by omega,by omega⟩)]; simp
 obtain ⟨hm,h1,h2⟩:=h
 rw [anC (Rf hm) ⟨h1,h2⟩]
 by_cases gX:high - n<64
 case neg=>
  have e:mW high u n=false:=by unfold mW; rw [if_neg fun f=>gX f.2.2.2]
  exact ite_true (by rw [decide_eq_true (show (64:Int)≤high - n by omega)]; simp) ⟨by rw [e],rfl⟩
 have e:mW high u n=(decide (high<n) || decide (bt u (high - n).toNat=0)):=by unfold mW; rw [if_pos ⟨hm,h1,h2,gX⟩]
 refine ite_false (by rw [hm,decide_eq_false (show ¬ n<1 by omega),decide_eq_false (show ¬ 1099511627776<n by omega),decide_eq_false (show ¬ (64:Int)≤high - n by omega)]; rfl) ?_
 by_cases hh:high<n
 ·exact ite_true (decide_eq_true hh) ⟨by rw [e,decide_eq_true hh]; rfl,rfl⟩
 ·refine ite_false (decide_eq_false hh) (kL (by omega) ⟨?_,rfl⟩)
  rw [e,decide_eq_false hh,Bool.false_or]
  obtain ⟨k,hk⟩:∃ k:Nat,high - n=(k:Int):=⟨(high - n).toNat,by omega⟩
  rw [hk,Int.toNat_natCast,zD,JM]
  congr 1
  exact decide_eq_decide.2 (BH (y:=0))
theorem agB (high:Int) (u:aI) (n:Int) (w:World):Ok Pr NF [.int .i64 high,.int .u64 (u.toNat:Int),.int .i64 n] w fun r w'=>∃ er:Value,r=.tuple ⟨[.int .i64 (tQ high u n),.int .u64 ((xM high u n).toNat:Int),er]⟩∧cO w w' er (mu high u n)∧Mod [] w w':=by
 refine aeP ?_
 unfold Om
 have hC:mu high u n=if fP high u=true then (if mW high u n=true then 0 else 8) else 2:=rfl
 have hH:tQ high u n=if mu high u n=0 then (if high<n then n else high) else 0:=rfl
 have hU:xM high u n=if mu high u n=0 then (if high<n then (u <<< (min (n - high) 64).toNat) ||| 1 else u ||| ((1:aI) <<< (high - n).toNat)) else 0:=rfl
 generalize mu high u n=C at *
 generalize tQ high u n=A at *
 generalize xM high u n=B at *
 have no:∀ c:Int,c≠0→C=c→nw oX [.int .i64 c,.string QX] w fun p w2=>∃ er:Value,Value.tuple ⟨[.int .i64 0,.int .u64 0,.iface jy (.pointer (some p))]⟩=.tuple ⟨[.int .i64 A,.int .u64 (B.toNat:Int),er]⟩∧cO w w2 er C∧Mod [] w w2:=by
  intro c hc g8
  rw [g8,if_neg hc] at hH hU
  subst hH hU
  rw [g8]
  exact qv fun b w' hb h1 h2 _=>⟨_,rfl,cO.mk h1 (by omega) hc,h2⟩
 refine aB (Np high u w) ?_
 rintro _ w1 ⟨rfl,hw⟩
 subst hw
 refine bu ?_
 cases hm:fP high u with
 | false=>
  rw [hm,if_neg (by decide)] at hC
  exact ite_true rfl (no 2 (by decide) hC)
 | true=>
  rw [hm,if_pos rfl] at hC
  refine ite_false rfl (aB (aeU high u n w1) ?_)
  rintro _ w2 ⟨rfl,hw⟩
  subst hw
  refine bu ?_
  cases hf:mW high u n with
  | false=>
   rw [hf,if_neg (by decide)] at hC
   exact ite_true rfl (no 8 (by decide) hC)
  | true=>
   rw [hf,if_pos rfl] at hC
   rw [hC,if_pos rfl] at hH hU
   subst hH hU
   rw [hC]
   have hr:=Rf hm
   have hn:1≤n∧n≤1099511627776:=by
    unfold mW at hf
    split at hf
    ·rename_i hc; exact ⟨hc.2.1,hc.2.2.1⟩
    ·cases hf
   refine ite_false rfl ?_
   by_cases hh:high<n
   ·rw [if_pos hh,if_pos hh]
    obtain ⟨k,hk⟩:∃ k:Nat,min (n - high) 64=(k:Int):=⟨(min (n - high) 64).toNat,by omega⟩
    rw [hk,Int.toNat_natCast]
    refine ite_true (decide_eq_true hh) ⟨⟨by omega,by omega⟩,kL (by omega) ⟨.nilIface,?_,cO.zero _ _,Mod.drew _ _⟩⟩
    rw [Jr,Sz,SN]
   ·rw [if_neg hh,if_neg hh]
    obtain ⟨k,hk⟩:∃ k:Nat,high - n=(k:Int):=⟨(high - n).toNat,by omega⟩
    rw [hk,Int.toNat_natCast]
    refine ite_false (decide_eq_false hh) ⟨⟨by omega,by omega⟩,kL (by omega) ⟨.nilIface,?_,cO.zero _ _,Mod.drew _ _⟩⟩
    rw [Sz,Jr,SN]
end Go.Proofs.YtgjoehgomjgckaaGreatDoor
end
section
set_option linter.unusedVariables false
set_option linter.unusedSimpArgs false
namespace Go.Proofs.YtgjoehgomjgckaaGreatDoor
open Go Go.Ev
set_option maxRecDepth 20000
set_option linter.unusedVariables false
structure ck where
 id:Int
 par:Int
 name:ByteArray
def tz:ck:=⟨0,0,ByteArray.empty⟩
def ck.cs (t:ck) (_:ah):List Value:=ku t.id t.par t.name
theorem ck.ct (t:ck) (x:ah):(t.cs x).length=3:=rfl
def NoE (_:World) (_:ah) (_:ck):Prop:=True
def fo (w:World) (s:ah) (ts:List ck):Prop:=Dv ck.cs 3 NoE w s ts
theorem fo.aG {w w':World} {s:ah} {ts:List ck} (h:fo w s ts) (m:Mod [] w w'):fo w' s ts:=Dv.aG (E:=NoE) (fun _ _=>trivial) h m
theorem fo.len {w:World} {s:ah} {ts:List ck} (h:fo w s ts):ts.length=s.n:=Dv.len ck.ct (by omega) h
theorem fo.at {w:World} {s:ah} {ts:List ck} (h:fo w s ts) {i:Nat} (hi:i<ts.length) :
  (s.a.isSome=true∧(0:Int)≤(i:Int)∧(i:Int)<(s.n:Int))∧∀ (j:Nat) (v:Value),(ku (ts.getD i tz).id (ts.getD i tz).par (ts.getD i tz).name)[j]? = some v→w.cell? (Addr.add (Addr.add (base s.a) (Int.toNat (i:Int) * 3)) j)=some v:=by
 have ha:ts[i]? = some (ts.getD i tz):=by rw [List.getD_eq_getElem?_getD,List.getElem?_eq_getElem hi]; rfl
 obtain ⟨h1,x,_,h2⟩:=Dv.at ck.ct (by omega) h ha
 exact ⟨h1,h2⟩
theorem aec (c:Int) (hc:c≠0) (w:World):Ok Pr wB [.int .i64 c] w fun v w'=>cO w w' v c∧Mod [] w w':=by
 refine adm ?_
 unfold L9
 exact qv fun b w' hb h1 h2 _=>⟨cO.mk h1 (by omega) hc,h2⟩
def qx (s:ByteArray):Bool:=aP 1 300 (s.size:Int)
theorem UJ (s:ByteArray) (w:World):Ok Pr G0 [.string s] w fun v w'=>v=.bool (qx s)∧w'=w:=by
 refine adj ?_
 unfold L6
 exact ⟨rfl,rfl⟩
theorem UK (x:ah) (ts:List ck) (id:Int) (w:World) (hx:fo w x ts):Ok Pr G4 [.slice x.a x.n x.c,.int .i64 id] w fun v w'=>v=.bool (aP 1 (ts.length:Int) id)∧w'=w:=by
 refine adn ?_
 unfold Mh
 have:=hx.len
 refine ⟨?_,rfl⟩
 rw [this]; rfl
def ZC (w:World) (g:Value) (p:ck→Bool):Prop:=∀ (t:ck) (w':World),Mod [] w w'→lN Pr g [.agg ⟨ku t.id t.par t.name⟩] w' fun v fu=>v=.bool (p t)∧Mod [] w' fu
theorem acr (g:Value) (p:ck→Bool) (x:ah) (ts:List ck) (hl:ts.length≤1000000000) (w:World) (hx:fo w x ts) (hg:ZC w g p) :
  Ok Pr KB [.slice x.a x.n x.c,g] w fun v w'=>∃ z:Int,v=.int .i64 z∧decide (0≤z)=ts.any p∧Mod [] w w':=by
 refine ab0 ?_
 unfold KC
 have bV:=hx.len
 refine cZ 0 ts.length (fun i w'=>(ts.take i).any p=false∧Mod [] w w') rfl (by omega) ⟨rfl,Mod.refl _ _⟩ ?_ ?_
 ·rintro again i w1 _ hi ⟨hn,m⟩ aM
  obtain ⟨dh,hc⟩:=(hx.aG m).at hi
  refine ite_true (decide_eq_true (by omega)) ⟨dh,C9 hc (DR (hg _ w1 m) ?_)⟩
  rintro _ w2 ⟨rfl,m2⟩
  refine bu (bU (fun hc=>?_) (fun hc=>?_))
  ·exact ⟨_,rfl,by rw [AW p ts i hi tz hc]; exact decide_eq_true (by omega),m.trans m2⟩
  ·exact ⟨⟨by omega,by omega⟩,aM w2 ⟨by rw [AV p ts i hi tz,hn,hc]; rfl,m.trans m2⟩⟩
 ·rintro again w1 ⟨hn,m⟩
  rw [List.take_of_length_le (Nat.le_refl _)] at hn
  exact ite_false (decide_eq_false (by omega)) ⟨_,rfl,by rw [hn]; rfl,m⟩
theorem aci (g:Value) (p:ck→Bool) (x:ah) (ts:List ck) (hl:ts.length≤1000000000) (w:World) (hx:fo w x ts) (hg:ZC w g p) :
  Ok Pr Kx [.slice x.a x.n x.c,g] w fun v w'=>v=.bool (ts.any p)∧Mod [] w w':=by
 refine abY ?_
 unfold Ky
 refine aB (acr g p x ts hl w hx hg) ?_
 rintro _ w1 ⟨z,rfl,hz,m⟩
 exact fm ⟨by rw [hz],m⟩
def k7 (par:Int) (name:ByteArray) (t:ck):Bool:=decide (t.par=par) && decide (t.name=name)
theorem aim:jB Pr Lx=true:=by kernel_rfl
theorem UL (x:ah) (ts:List ck) (hl:ts.length≤1000000000) (par:Int) (name:ByteArray) (w:World) (hx:fo w x ts):Ok Pr G1 [.slice x.a x.n x.c,.int .i64 par,.string name] w fun v w'=>v=.bool (ts.any (k7 par name))∧Mod [] w w':=by
 refine adk ?_
 unfold L7
 refine (ak.start w).nw fun p w1 H _=>H.nw fun p1 w2 H _=>?_
 refine aB (aci _ (k7 par name) x ts hl w2 (hx.aG H.mod) fun t w3 m=>?_) ?_
 ·refine y7 aim (acI ?_)
  unfold LA
  have b1:bX w3 p [.int .i64 par] bD:=(H.frame m).av 0 rfl
  have b2:bX w3 p1 [.string name] yZ:=(H.frame m).av 1 rfl
  have K:=((ak.start w3).frame (Mod.refl [] w3))
  refine K.nw fun q w4 K _=>?_
  have c1:=b1.aG K.mod
  have c2:=b2.aG K.mod
  exact K.an 0 rfl (au q 1) rfl (c1.an rfl rfl (K.fS 0 rfl (au q 2) rfl ⟨_,by rw [c2.cell]; rfl,rfl,K.mod⟩))
 ·rintro _ w3 ⟨rfl,m⟩
  exact bu ⟨rfl,H.mod.trans m⟩
end Go.Proofs.YtgjoehgomjgckaaGreatDoor
end
section
set_option linter.unusedVariables false
set_option linter.unusedSimpArgs false
namespace Go.Proofs.YtgjoehgomjgckaaGreatDoor
open Go Go.Ev
set_option maxRecDepth 20000
set_option linter.unusedVariables false
theorem YK:zc Pr dF=[.int .i64 0,.int .i64 0,.string ByteArray.empty]:=by kernel_rfl
def nD (ts:List ck) (i:Nat):Bool:=
 decide ((ts.getD i tz).id=(i:Int)+1) && (decide (min (i:Int) 1≤(ts.getD i tz).par) && (decide ((ts.getD i tz).par≤(i:Int)) && (qx (ts.getD i tz).name && !(ts.take i).any (k7 (ts.getD i tz).par (ts.getD i tz).name))))
def mH (ts:List ck):Nat→Bool
 | 0=>true
 | i+1=>mH ts i && nD ts i
def gG (ts:List ck):Bool:=decide (ts.length≤8) && mH ts ts.length
theorem RW {ts:List ck} {i:Nat} (h:nD ts i=false):∀ n,i<n→mH ts n=false
 | 0,hn=>by omega
 | n+1,hn=>by
  show (mH ts n && _)=false
  rcases Nat.lt_or_ge i n with h2 | h2
  ·rw [RW h n h2,Bool.false_and]
  ·rw [show n=i by omega,h,Bool.and_false]
theorem fo.S5 {w:World} {s:ah} {ts:List ck} (h:fo w s ts) (k:Nat) (hk:k≤ts.length):fo w ⟨s.a,k,s.c⟩ (ts.take k):=by
 have hn:=h.len
 obtain ⟨xs,h1,h2⟩:=h
 have bV:=h2.1
 refine ⟨xs.take k,?_,by simp [bV],fun i x t _ _=>trivial⟩
 have e:bq ck.cs (ts.take k) (xs.take k)=(bq ck.cs ts xs).take (k * 3):=by
  have:=yQ (C:=ck.cs) (ts.take k) (xs.take k) (by simp [bV]) (ts.drop k) (xs.drop k)
  rw [List.take_append_drop,List.take_append_drop] at this
  have hd:(bq ck.cs (ts.take k) (xs.take k)).length=k * 3:=by
   rw [ir ck.ct _ _ (by simp [bV]),List.length_take,Nat.min_eq_left hk]
  rw [this,List.take_append_of_le_length (by omega)]
  exact (List.take_of_length_le (by omega)).symm
 rw [e]
 have hc:=h1.cap
 have hl:=h1.len
 rw [ir ck.ct _ _ bV] at hl
 refine ⟨by rw [List.length_take,ir ck.ct _ _ bV]; show min (k * 3) _=k * 3; omega,by show k≤s.c; omega,fun h0=>h1.pre (by have:0<k:=h0; omega),fun i v hv=>?_⟩
 rw [List.getElem?_take] at hv
 split at hv
 ·exact h1.cell i v hv
 ·cases hv
theorem MG (x:ah) (ts:List ck) (hl:ts.length≤1000000) (w:World) (hx:fo w x ts):Ok Pr Dq [.slice x.a x.n x.c] w fun v w'=>v=.bool (gG ts)∧Mod [] w w':=by
 refine ad6 ?_
 unfold Nj
 rw [YK]
 have bV:=hx.len
 have tY:x.n≤x.c:=by obtain ⟨xs,h1,_⟩:=hx; exact h1.cap
 by_cases h8:ts.length≤8
 case neg=>exact ite_true (decide_eq_true (by omega)) ⟨by unfold gG; rw [decide_eq_false h8]; rfl,Mod.refl _ _⟩
 have eM:gG ts=mH ts ts.length:=by unfold gG; rw [decide_eq_true h8]; rfl
 refine ite_false (decide_eq_false (by omega)) ?_
 refine cZ 0 ts.length (fun i w'=>mH ts i=true∧Mod [] w w') rfl (by omega) ⟨rfl,Mod.refl _ _⟩ ?_ ?_
 ·rintro again i w1 _ hi ⟨dV,m⟩ aM
  obtain ⟨dh,hc⟩:=(hx.aG m).at hi
  have hs:mH ts (i+1)=(mH ts i && nD ts i):=rfl
  have hF:nD ts i=(decide ((ts.getD i tz).id=(i:Int)+1) && (decide (min (i:Int) 1≤(ts.getD i tz).par) && (decide ((ts.getD i tz).par≤(i:Int)) && (qx (ts.getD i tz).name && !(ts.take i).any (k7 (ts.getD i tz).par (ts.getD i tz).name))))):=rfl
  have no:∀ {w2:World},Mod [] w w2→nD ts i=false→(fun v w'=>v=Value.bool (gG ts)∧Mod [] w w') (.bool false) w2:=fun m h=>⟨by rw [eM,RW h _ hi],m⟩
  generalize ts.getD i tz=t at *
  refine ite_true (decide_eq_true (by omega)) ⟨dh,C9 hc ((ak.start w1).nw fun p w2 D _=>D.AU 0 rfl rfl fun w3 D=>?_)⟩
  have D:=D.drew
  refine D.an 0 rfl (au p 0) rfl ⟨⟨by omega,by omega⟩,D.an 0 rfl (au p 1) rfl (D.an 0 rfl (au p 1) rfl (D.fS 0 rfl (au p 2) rfl ?_))⟩
  by_cases hg:t.id=(i:Int)+1∧min (i:Int) 1≤t.par∧t.par≤(i:Int)
  case neg=>
   refine ite_true ?_ (no (m.trans D.mod) ?_)
   ·simp only [Bool.or_eq_true,Bool.not_eq_true',decide_eq_true_eq,decide_eq_false_iff_not]
    omega
   ·rw [hF]
    simp only [Bool.and_eq_false_iff,decide_eq_false_iff_not]
    by_cases q1:t.id=(i:Int)+1
    ·by_cases q2:min (i:Int) 1≤t.par
     ·exact .inr (.inr (.inl fun q3=>hg ⟨q1,q2,q3⟩))
     ·exact .inr (.inl q2)
    ·exact .inl q1
  obtain ⟨g1,g2,g3⟩:=hg
  rw [decide_eq_true g1,decide_eq_true g2,decide_eq_true g3,Bool.true_and,Bool.true_and,Bool.true_and] at hF
  refine ite_false ?_ (aB (UJ _ _) ?_)
  ·rw [decide_eq_true g1,decide_eq_false (show ¬ t.par<min (i:Int) 1 by omega),decide_eq_false (show ¬ (i:Int)<t.par by omega)]; rfl
  rintro _ w4 ⟨rfl,hw⟩
  subst hw
  refine bu ?_
  cases hn:qx t.name with
  | false=>exact ite_true rfl (no (m.trans D.mod) (by rw [hF,hn]; rfl))
  | true=>
   rw [hn,Bool.true_and] at hF
   refine ite_false rfl ⟨⟨by omega,by omega⟩,D.an 0 rfl (au p 1) rfl (D.fS 0 rfl (au p 2) rfl ?_)⟩
   rw [Int.toNat_natCast]
   refine aB (UL ⟨x.a,i,x.c⟩ (ts.take i) (by rw [List.length_take]; omega) t.par t.name _ ((hx.aG (m.trans D.mod)).S5 i (by omega))) ?_
   rintro _ w5 ⟨rfl,m5⟩
   refine bu ?_
   cases ht:(ts.take i).any (k7 t.par t.name) with
   | true=>exact ite_true rfl (no (m.trans (D.mod.trans m5)) (by rw [hF,ht]; rfl))
   | false=>exact ite_false rfl ⟨⟨by omega,by omega⟩,aM _ ⟨by rw [hs,dV,hF,ht]; rfl,m.trans (D.mod.trans m5)⟩⟩
 ·rintro again w1 ⟨dV,m⟩
  exact ite_false (decide_eq_false (by omega)) ⟨by rw [eM,dV],m⟩
end Go.Proofs.YtgjoehgomjgckaaGreatDoor
end
section
set_option linter.unusedVariables false
set_option linter.unusedSimpArgs false
namespace Go.Proofs.YtgjoehgomjgckaaGreatDoor
open Go Go.Ev
set_option maxRecDepth 20000
set_option linter.unusedVariables false
theorem Rx:fh Pr sU dF 3 32:=fh.of (by kernel_rfl)
theorem ck.lW (t:ck) (x:ah):∀ u∈t.cs x,ek u=true:=by
 intro u hu
 simp only [ck.cs,ku,List.mem_cons,List.not_mem_nil,or_false] at hu
 rcases hu with rfl | rfl | rfl <;> rfl
def gR (ts:List ck):List Value:=bq ck.cs ts (List.replicate ts.length ⟨none,0,0⟩)
theorem YL {ts:List ck} {xs:List ah} (h:xs.length=ts.length):bq ck.cs ts xs=gR ts:=by
 unfold gR
 induction ts generalizing xs with
 | nil=>simp [bq]
 | cons t r ih=>
  cases xs with
  | nil=>simp at h
  | cons x xs=>
   rw [List.length_cons,List.replicate_succ,rq,rq,ih (by simpa using h)]
   rfl
theorem fo.sl {w:World} {s:ah} {ts:List ck} (h:fo w s ts):Sl w s 3 (gR ts):=by
 obtain ⟨xs,h1,h2⟩:=h
 rw [YL h2.1] at h1
 exact h1
theorem fo.of {w:World} {s:ah} {ts:List ck} (h:Sl w s 3 (gR ts)):fo w s ts:=⟨_,h,by simp,fun _ _ _ _ _=>trivial⟩
theorem aka (ts:List ck) (t:ck):gR (ts ++ [t])=gR ts ++ ku t.id t.par t.name:=by
 have:=yQ (C:=ck.cs) ts (List.replicate ts.length ⟨none,0,0⟩) (by simp) [t] [⟨none,0,0⟩]
 rw [YL (by simp)] at this
 rw [this,wW]; rfl
theorem UA (x:ah) (ts:List ck) (hl:ts.length≤1000000) (w:World) (hx:fo w x ts):Ok Pr GI [.slice x.a x.n x.c] w fun v w'=>∃ y:ah,v=.slice y.a y.n y.c∧Own w' w.heap.size dF 3 y (gR ts)∧y.n=x.n∧Mod [] w w':=by
 refine ab2 ?_
 unfold KG
 have bV:=hx.len
 have hs:=hx.sl
 refine bU (fun h=>?_) (fun h=>?_)
 ·have h0:x.n=0:=by
   rcases Nat.eq_zero_or_pos x.n with e | e
   ·exact e
   ·have:=Sl.pre hs e
    cases ha:x.a with
    | none=>rw [ha] at this; cases this
    | some a=>rw [ha] at h; cases h
  obtain rfl:ts=[]:=List.eq_nil_of_length_eq_zero (by omega)
  exact ⟨⟨none,0,0⟩,rfl,Own.nil _ _ _ _,h0.symm,Mod.refl _ _⟩
 ·refine (ak.start w).nw fun p w1 H _=>?_
  have H:=H.rB 0 3 0 0 rfl rfl (Nat.le_refl _) (by simp only [maxLen]; omega)
  refine H.app (s:=⟨some ⟨p,0,none⟩,0,0⟩) (vs:=[]) 0 Rx rfl (hs.aG H.mod) (uP ck.lW _ _) (by show (0+x.n) * 32≤_; omega) (by show 0+x.n≤_; omega) fun y w2 H hy=>?_
  exact ⟨y,rfl,H.fN 0 rfl,by rw [hy]; exact Nat.zero_add _,H.mod⟩
def oF (ts:List ck) (par:Int) (name:ByteArray):Int:=if gG ts=true then (if aP 1 (ts.length:Int) par=true then (if qx name=true then (if ts.any (k7 par name)=true then 13 else if ts.length=8 then 12 else 0) else 2) else 9) else 2
def rQ (ts:List ck) (par:Int) (name:ByteArray):List ck:=if oF ts par name=0 then ts ++ [⟨(ts.length:Int)+1,par,name⟩] else []
def Fp (ts:List ck) (par:Int) (name:ByteArray):Int:=if oF ts par name=0 then (ts.length:Int)+1 else 0
theorem afG (x:ah) (ts:List ck) (hl:ts.length≤1000000) (par:Int) (name:ByteArray) (w:World) (hx:fo w x ts):Ok Pr MM [.slice x.a x.n x.c,.int .i64 par,.string name] w fun v w'=>∃ (y:ah) (er:Value),v=.tuple ⟨[.slice y.a y.n y.c,.int .i64 (Fp ts par name),er]⟩∧ak w [] w' [.row dF 3 y (gR (rQ ts par name)),aE.err er (oF ts par name)]:=by
 refine ad9 ?_
 unfold Nm
 have bV:=hx.len
 have hC:oF ts par name=if gG ts=true then (if aP 1 (ts.length:Int) par=true then (if qx name=true then (if ts.any (k7 par name)=true then 13 else if ts.length=8 then 12 else 0) else 2) else 9) else 2:=rfl
 have hT:rQ ts par name=if oF ts par name=0 then ts ++ [⟨(ts.length:Int)+1,par,name⟩] else []:=rfl
 have hI:Fp ts par name=if oF ts par name=0 then (ts.length:Int)+1 else 0:=rfl
 generalize oF ts par name=C at *
 generalize rQ ts par name=T at *
 generalize Fp ts par name=I at *
 have no:∀ {w3:World} (c:Int),Mod [] w w3→c≠0→C=c→az Pr wB [.int .i64 c] w3 fun v w4=>∃ (y:ah) (er:Value),Value.tuple ⟨[.slice none 0 0,.int .i64 0,v]⟩=.tuple ⟨[.slice y.a y.n y.c,.int .i64 I,er]⟩∧ak w [] w4 [.row dF 3 y (gR T),aE.err er C]:=by
  intro w3 c m hc g8
  rw [g8,if_neg hc] at hT hI
  subst hT hI
  rw [g8]
  refine aB (aec c hc w3) ?_
  rintro e w4 ⟨h,m4⟩
  exact ⟨⟨none,0,0⟩,e,rfl,(((ak.start w).jk dF 3).frame m).gD m4 h⟩
 refine aB (MG x ts hl w hx) ?_
 rintro _ w1 ⟨rfl,m1⟩
 refine bu ?_
 cases h1:gG ts with
 | false=>
  rw [h1,if_neg (by decide)] at hC
  exact ite_true rfl (no 2 m1 (by decide) hC)
 | true=>
  rw [h1,if_pos rfl] at hC
  refine ite_false rfl (aB (UK x ts par _ (hx.aG m1)) ?_)
  rintro _ w2 ⟨rfl,hw⟩
  subst hw
  refine bu ?_
  cases h2:aP 1 (ts.length:Int) par with
  | false=>
   rw [h2,if_neg (by decide)] at hC
   exact ite_true rfl (no 9 m1 (by decide) hC)
  | true=>
   rw [h2,if_pos rfl] at hC
   refine ite_false rfl (aB (UJ name _) ?_)
   rintro _ w3 ⟨rfl,hw⟩
   subst hw
   refine bu ?_
   cases h3:qx name with
   | false=>
    rw [h3,if_neg (by decide)] at hC
    exact ite_true rfl (no 2 m1 (by decide) hC)
   | true=>
    rw [h3,if_pos rfl] at hC
    refine ite_false rfl (aB (UL x ts (by omega) par name _ (hx.aG m1)) ?_)
    rintro _ w4 ⟨rfl,m4⟩
    have m4:=m1.trans m4
    refine bu ?_
    cases h4:ts.any (k7 par name) with
    | true=>
     rw [h4,if_pos rfl] at hC
     exact ite_true rfl (no 13 m4 (by decide) hC)
    | false=>
     rw [h4,if_neg (by decide)] at hC
     refine ite_false rfl ?_
     by_cases h8:ts.length=8
     ·rw [if_pos h8] at hC
      exact ite_true (decide_eq_true (by omega)) (no 12 m4 (by decide) hC)
     rw [if_neg h8] at hC
     rw [hC,if_pos rfl] at hT hI
     subst hT hI
     rw [hC]
     refine ite_false (decide_eq_false (by omega)) ⟨⟨by omega,by omega⟩,pn (aB (UA x ts hl _ (hx.aG m4)) ?_)⟩
     rintro _ w5 ⟨y,rfl,hy,xY,m5⟩
     have H:=((ak.start w).frame m4).cB m5 hy
     rw [show ((x.n:Nat):Int)+1=(ts.length:Int)+1 by omega]
     refine bW (H.Cm 0 Rx rfl rfl (by intro u hu; exact ck.lW ⟨(ts.length:Int)+1,par,name⟩ ⟨none,0,0⟩ u hu) (by omega) (by omega) fun y' w6 H _=>⟨y',.nilIface,rfl,?_⟩)
     rw [aka]
     exact H.gD (Mod.refl _ _) (cO.zero _ _)
end Go.Proofs.YtgjoehgomjgckaaGreatDoor
end
section
set_option linter.unusedVariables false
set_option linter.unusedSimpArgs false
namespace Go.Proofs.YtgjoehgomjgckaaGreatDoor
open Go Go.Ev
set_option maxRecDepth 20000
set_option linter.unusedVariables false
theorem ZD {ts:List ck}:∀ n,mH ts n=true→∀ i,i<n→nD ts i=true
 | 0,_,i,hi=>by omega
 | n+1,h,i,hi=>by
  change (mH ts n && nD ts n)=true at h
  rw [Bool.and_eq_true] at h
  rcases Nat.lt_or_ge i n with h2 | h2
  ·exact ZD n h.1 i h2
  ·rw [show i=n by omega]; exact h.2
theorem ale {ts:List ck} (h:gG ts=true):ts.length≤8∧∀ i,i<ts.length→(ts.getD i tz).id=(i:Int)+1∧0≤(ts.getD i tz).par∧(ts.getD i tz).par≤(i:Int):=by
 unfold gG at h
 rw [Bool.and_eq_true,decide_eq_true_eq] at h
 refine ⟨h.1,fun i hi=>?_⟩
 have:=ZD _ h.2 i hi
 unfold nD at this
 simp only [Bool.and_eq_true,decide_eq_true_eq] at this
 obtain ⟨a,b,c,_⟩:=this
 exact ⟨a,by omega,c⟩
def pF (ts:List ck):Nat→Int→List Int
 | 0,_=>[]
 | f+1,a=>if aP 1 (ts.length:Int) a=true then a :: pF ts f (ts.getD (a - 1).toNat tz).par else []
def xD (ts:List ck) (a:Int):List Int:=if gG ts=true then pF ts (ts.length+1) a else []
theorem QL (ts:List ck):∀ (f:Nat) (a:Int),(pF ts f a).length≤f
 | 0,_=>by simp [pF]
 | f+1,a=>by
  unfold pF
  split
  ·have:=QL ts f (ts.getD (a - 1).toNat tz).par
   rw [List.length_cons]; omega
  ·simp
theorem aeV (x:ah) (ts:List ck) (hl:ts.length≤1000000) (a:Int) (w:World) (hx:fo w x ts):Ok Pr Mp [.slice x.a x.n x.c,.int .i64 a] w fun v w'=>qA w w' v (xD ts a):=by
 refine adE ?_
 unfold MD
 have bV:=hx.len
 refine aB (MG x ts hl w hx) ?_
 rintro _ w1 ⟨rfl,m1⟩
 refine bu ?_
 cases hm:gG ts with
 | false=>exact ite_true rfl ⟨⟨none,0,0⟩,rfl,by unfold xD; rw [hm]; exact Own.nil _ _ _ _,m1⟩
 | true=>
  obtain ⟨h8,JI⟩:=ale hm
  have hP:xD ts a=pF ts (ts.length+1) a:=by unfold xD; rw [if_pos hm]
  have hPl:=QL ts (ts.length+1) a
  rw [hP]
  generalize anD:pF ts (ts.length+1) a=full at *
  refine ite_false rfl ?_
  refine wU (fun (b:Int) (out:ah) w'=>∃ (f:Nat) (pre:List Int),pre ++ pF ts f b=full∧(aP 1 (ts.length:Int) b=true→b.toNat<f)∧ak w [] w' [.row bD 1 out (cu pre)]) (fun b _ _=>b.toNat)
   ⟨ts.length+1,[],anD,fun h=>by unfold aP at h; simp only [Bool.and_eq_true,decide_eq_true_eq] at h; omega,by simpa [cu] using ((ak.start w).frame m1).jk bD 1⟩ ?_
  rintro again b out w2 ⟨f,pre,rO,hf,H⟩ aM
  refine aB (UK x ts b _ (hx.aG H.mod)) ?_
  rintro _ w3 ⟨rfl,hw⟩
  subst hw
  refine bu ?_
  cases ey:aP 1 (ts.length:Int) b with
  | false=>
   have e:pF ts f b=[]:=by
    cases f with
    | zero=>rfl
    | succ f=>unfold pF; rw [ey]; rfl
   rw [e,List.append_nil] at rO
   subst rO
   exact ite_false rfl ⟨out,rfl,H.fN 0 rfl,H.mod⟩
  | true=>
   have bZ:=hf ey
   obtain ⟨g,rfl⟩:∃ g,f=g+1:=⟨f - 1,by omega⟩
   have e:pF ts (g+1) b=b :: pF ts g (ts.getD (b - 1).toNat tz).par:=by
    show (if aP 1 (ts.length:Int) b=true then b :: pF ts g (ts.getD (b - 1).toNat tz).par else [])=_
    rw [if_pos ey]
   rw [e] at rO
   unfold aP at ey
   simp only [Bool.and_eq_true,decide_eq_true_eq] at ey
   obtain ⟨j,hj⟩:∃ j:Nat,b - 1=(j:Int):=⟨(b - 1).toNat,by omega⟩
   rw [hj,Int.toNat_natCast] at rO
   obtain ⟨q1,q2,q3⟩:=JI j (by omega)
   have nJ:=(H.dD 0 rfl).len
   have ari:pre.length≤full.length:=by rw [← rO]; simp
   refine ite_true rfl (H.Sq 0 BA rfl (by omega) fun k8 w4 H _=>⟨⟨by omega,by omega⟩,?_⟩)
   rw [hj]
   obtain ⟨dh,hc⟩:=(hx.aG H.mod).at (i:=j) (by omega)
   refine ⟨dh,_,hc 1 _ rfl,aM _ k8 w4 ⟨g,pre ++ [b],by rw [List.append_assoc]; exact rO,fun h=>?_,H⟩ ?_⟩
   ·omega
   ·show ((ts.getD j tz).par).toNat<b.toNat
    omega
end Go.Proofs.YtgjoehgomjgckaaGreatDoor
end
section
set_option linter.unusedVariables false
set_option linter.unusedSimpArgs false
namespace Go.Proofs.YtgjoehgomjgckaaGreatDoor
open Go Go.Ev
set_option maxRecDepth 20000
set_option linter.unusedVariables false
theorem acS (x:ah) (l:List Int) (hl:l.length≤1000000) (v:Int) (w:World) (hx:dS w x l):Ok Pr KV [.slice x.a x.n x.c,.int .i64 v] w fun r w'=>∃ z:Int,r=.int .i64 z∧decide (0≤z)=l.any (fun y=>decide (v=y))∧w'=w:=by
 refine ack ?_
 unfold KW
 have bV:=hx.len
 refine cZ 0 l.length (fun i w'=>(l.take i).any (fun y=>decide (v=y))=false∧w'=w) rfl (by omega) ⟨rfl,rfl⟩ ?_ ?_
 ·rintro again i w1 _ hi ⟨hn,rfl⟩ aM
  refine ite_true (decide_eq_true (by omega)) (hx.ld (i:=i) hi rfl (bU (fun hc=>?_) (fun hc=>?_)))
  ·exact ⟨_,rfl,by rw [AW (fun y=>decide (v=y)) l i hi 0 hc]; exact decide_eq_true (by omega),rfl⟩
  ·exact ⟨⟨by omega,by omega⟩,aM w1 ⟨by rw [AV (fun y=>decide (v=y)) l i hi 0,hn,hc]; rfl,rfl⟩⟩
 ·rintro again w1 ⟨hn,rfl⟩
  rw [List.take_of_length_le (Nat.le_refl _)] at hn
  exact ite_false (decide_eq_false (by omega)) ⟨_,rfl,by rw [hn]; rfl,rfl⟩
def BR (ts:List ck) (a b:Int):Bool:=(xD ts b).any fun y=>decide (a=y)
theorem ajd (ts:List ck) (a:Int) (h:ts.length≤1000):(xD ts a).length≤1001:=by
 unfold xD
 split
 ·have:=QL ts (ts.length+1) a; omega
 ·simp
theorem aed (x:ah) (ts:List ck) (hl:ts.length≤1000) (a b:Int) (w:World) (hx:fo w x ts):Ok Pr LO [.slice x.a x.n x.c,.int .i64 a,.int .i64 b] w fun v w'=>v=.bool (BR ts a b)∧Mod [] w w':=by
 refine adi ?_
 unfold L5
 refine aB (aeV x ts (by omega) b w hx) ?_
 rintro _ w1 ⟨y,rfl,hy,m1⟩
 have Ao:=ajd ts b hl
 refine bW (aB (R:=fun v w'=>v=.bool (BR ts a b)∧w'=w1) (ab8 ?_) ?_)
 ·unfold KN
  refine aB (acS y (xD ts b) (by omega) a w1 hy.dD) ?_
  rintro _ w2 ⟨z,rfl,hz,hw⟩
  subst hw
  exact fm ⟨by rw [hz]; rfl,rfl⟩
 ·rintro _ w2 ⟨rfl,hw⟩
  subst hw
  exact bu ⟨rfl,m1⟩
end Go.Proofs.YtgjoehgomjgckaaGreatDoor
end
section
set_option linter.unusedVariables false
set_option linter.unusedSimpArgs false
namespace Go.Proofs.YtgjoehgomjgckaaGreatDoor
open Go Go.Ev
set_option maxRecDepth 20000
set_option linter.unusedVariables false
def mw (l:List bP) (g:bP):bP:=⟨(l.length:Int)+1,g.n1,g.n2,g.n3,g.n4,false⟩
def oG (l:List bP) (g:bP):Int:=if gh l=true∧k6 g=true then (if l.length=8 then 12 else 0) else 2
def j5 (l:List bP) (g:bP):List bP:=if oG l g=0 then l ++ [mw l g] else []
def vv (l:List bP) (g:bP):Int:=if oG l g=0 then (l.length:Int)+1 else 0
def anE (e:TypeId) (sz:Nat) (w w':World) (v:Value) (vs:List Value) (n c:Int):Prop:=
 ∃ (y:ah) (er:Value),v=.tuple ⟨[.slice y.a y.n y.c,.int .i64 n,er]⟩∧Own w' w.heap.size e sz y vs∧cO w w' er c∧(c≠0→y=⟨none,0,0⟩)∧Mod [] w w'
theorem YM {l:List bP} (h:gh l=true):l.length≤8:=by
 unfold gh at h
 simp only [Bool.and_eq_true,decide_eq_true_eq] at h
 exact h.2
theorem alf (g:bP):dY [g]=g.cells:=by simp [dY]
theorem ZE {w0 w:World} {L:List aE} {K:ah→World→Prop} (i j:Nat) (y:ah) (p:Nat) (l:List bP) (g:bP) (H:ak w0 [] w L) (hi:L[i]? = some (.row cJ 6 y (dY l))) (hj:L[j]? = some (.av p g.cells cJ)) (hl:l.length≤100000)
  (h:∀ z w',ak w0 [] w' (L.set i (.row cJ 6 z (dY (l ++ [g]))))→z.n=l.length+1→K z w'):cG Pr [l8,l8] l8 [.slice y.a y.n y.c,.slice (some ⟨p,0,none⟩) 1 1] w K:=by
 have dP:=(H.av j hj).sl 6 1 1 (Nat.le_refl _) (Nat.le_refl _)
 have kS:=(H.fI i hi).len
 rw [Qk] at kS
 have dP:Sl w ⟨some ⟨p,0,none⟩,1,1⟩ 6 (dY [g]):=by rw [alf]; exact dP
 refine H.app (x:=⟨some ⟨p,0,none⟩,1,1⟩) i RU hi dP (Rc _) (by show (y.n+1) * 48≤_; omega) (by show y.n+1≤_; omega) fun z w' H' hz=>h z w' ?_ (by rw [hz]; show y.n+1=_; omega)
 rw [aik]
 exact H'
theorem agC (x:ah) (l:List bP) (g:bP) (hl:l.length≤100000) (w:World) (hx:gQ w x l):Ok Pr NG [.slice x.a x.n x.c,.agg ⟨g.cells⟩] w fun v w'=>anE cJ 6 w w' v (dY (j5 l g)) (vv l g) (oG l g):=by
 refine aeJ ?_
 unfold N7
 have bV:=hx.len
 rw [show ((x.n:Nat):Int)=((l.length:Nat):Int) by omega]
 obtain ⟨C,hC⟩:∃ C,C=oG l g:=⟨_,rfl⟩
 obtain ⟨Ls,hL⟩:∃ Ls,Ls=j5 l g:=⟨_,rfl⟩
 obtain ⟨N,hN⟩:∃ N,N=vv l g:=⟨_,rfl⟩
 rw [← hC,← hL,← hN]
 refine (ak.start w).nw fun p w1 H _=>jV fun go bY=>jA fun jG iB=>?_
 have bad:∀ w',Mod [] w1 w'→¬ (gh l=true∧k6 g=true)→jG true w':=by
  intro w' m dx
  have ec:C=2:=by rw [hC]; unfold oG; rw [if_neg dx]
  have el:Ls=[]:=by rw [hL]; unfold j5; rw [← hC,ec]; rfl
  have en:N=0:=by rw [hN]; unfold vv; rw [← hC,ec]; rfl
  subst ec el en
  refine iB true w' (ite_true rfl (aB (Dl 2 (by decide) _) ?_))
  rintro e w2 ⟨h2,m2⟩
  exact ⟨⟨none,0,0⟩,e,rfl,Own.nil _ _ _ _,h2.from (H.frame m).mod.size,fun _=>rfl,((H.frame m).frame m2).mod⟩
 have aJ:∀ w',Mod [] w1 w'→gh l=true→k6 g=true→jG false w':=by
  intro w' m hm jq
  have H:=H.frame m
  have h8:=YM hm
  refine iB false w' (ite_false rfl (bU (fun h=>?_) (fun h=>?_)))
  ·have h:=of_decide_eq_true h
   have ec:C=12:=by rw [hC]; unfold oG; rw [if_pos ⟨hm,jq⟩,if_pos (by omega)]
   have el:Ls=[]:=by rw [hL]; unfold j5; rw [← hC,ec]; rfl
   have en:N=0:=by rw [hN]; unfold vv; rw [← hC,ec]; rfl
   subst ec el en
   refine aB (Dl 12 (by decide) _) ?_
   rintro e w2 ⟨h2,m2⟩
   exact ⟨⟨none,0,0⟩,e,rfl,Own.nil _ _ _ _,h2.from H.mod.size,fun _=>rfl,(H.frame m2).mod⟩
  ·have h:=of_decide_eq_false h
   have ec:C=0:=by rw [hC]; unfold oG; rw [if_pos ⟨hm,jq⟩,if_neg (by omega)]
   have el:Ls=l ++ [mw l g]:=by rw [hL]; unfold j5; rw [← hC,if_pos ec]
   have en:N=(l.length:Int)+1:=by rw [hN]; unfold vv; rw [← hC,if_pos ec]
   subst ec el en
   refine bY w' ⟨⟨by omega,by omega⟩,H.st 0 rfl (au p 0) (by simp) rfl fun w2 H=>H.st 0 rfl (au p 5) (by simp) rfl fun w3 H=>?_⟩
   change ak w [] w3 [.av p (mw l g).cells cJ] at H
   have H:=H.drew
   refine H.iI 0 rfl (H.an 0 rfl (au p 0) rfl ⟨?_,?_⟩)
   ·refine aB (GX x l (by omega) _ (hx.aG H.mod)) ?_
    rintro _ w5 ⟨y,rfl,hy,xY,m5⟩
    have H5:=H.cB m5 hy
    refine bW ⟨kM (H.av 0 rfl) (H5.av 0 rfl) (jK _ _),kM (H.av 0 rfl) (H5.av 0 rfl) rfl,H5.nw fun p1 w6 H6 _=>⟨kM (H5.av 0 rfl) (H6.av 0 rfl) (jK _ _),?_⟩⟩
    refine ZE 1 2 y p1 l (mw l g) H6 rfl rfl (by omega) fun z w7 H7 _=>⟨kM (H6.av 0 rfl) (H7.av 0 rfl) (jK _ _),z,.nilIface,rfl,H7.fN 1 rfl,cO.zero _ _,fun h=>absurd rfl h,H7.mod⟩
   ·refine H.nw fun p1 w5 H5 _=>⟨kM (H.av 0 rfl) (H5.av 0 rfl) (jK _ _),aB (GX x l (by omega) _ (hx.aG H5.mod)) ?_⟩
    rintro _ w6 ⟨y,rfl,hy,xY,m6⟩
    have H6:=H5.cB m6 hy
    refine bW ⟨kM (H5.av 0 rfl) (H6.av 0 rfl) (jK _ _),kM (H5.av 0 rfl) (H6.av 0 rfl) rfl,?_⟩
    refine ZE 2 1 y p1 l (mw l g) H6 rfl rfl (by omega) fun z w7 H7 _=>⟨kM (H6.av 0 rfl) (H7.av 0 rfl) (jK _ _),z,.nilIface,rfl,H7.fN 2 rfl,cO.zero _ _,fun h=>absurd rfl h,H7.mod⟩
 refine aB (Hr x l (by omega) _ (hx.aG H.mod)) ?_
 rintro _ w2 ⟨rfl,m2⟩
 have H:=H.frame m2
 refine bu ?_
 cases hm:gh l with
 | false=>exact ite_true rfl (bad w2 m2 (by rw [hm]; simp))
 | true=>
  refine ite_false rfl (H.iI 0 rfl (aB (U5 g _) ?_))
  rintro _ w3 ⟨rfl,m3⟩
  refine bu ?_
  cases jq:k6 g with
  | false=>exact bad w3 (m2.trans m3) (by rw [jq]; simp)
  | true=>exact aJ w3 (m2.trans m3) hm jq
def vw (g:bP):bP:=⟨g.n0,g.n1,g.n2,g.n3,g.n4,true⟩
def nF (l:List bP) (id:Int):Int:=if gh l=true then (if 1≤id∧id≤(l.length:Int) then (if (l.getD (id - 1).toNat gz).rev=true then 11 else 0) else 9) else 2
def kF (l:List bP) (id:Int):List bP:=if nF l id=0 then l.set (id - 1).toNat (vw (l.getD (id - 1).toNat gz)) else []
theorem YN:∀ (l:List bP) (i:Nat),i<l.length→(dY l).set (i * 6+5) (.bool true)=dY (l.set i (vw (l.getD i gz)))
 | [],i,h=>by simp at h
 | a :: r,0,_=>by
  show (a.cells ++ dY r).set (0 * 6+5) _=(vw a).cells ++ dY r
  rw [List.set_append_left _ _ (by show 5<6; omega)]
  rfl
 | a :: r,i+1,h=>by
  show (a.cells ++ dY r).set ((i+1) * 6+5) _=a.cells ++ dY (r.set i (vw (r.getD i gz)))
  have hl:a.cells.length=6:=rfl
  rw [List.set_append_right _ _ (by omega),hl,show (i+1) * 6+5 - 6=i * 6+5 by omega,YN r i (by simpa using h)]
theorem amb {w0 w:World} {L:List aE} {K:World→Prop} (k:Nat) (y:ah) (l:List bP) (i:Nat) (x:Int) (H:ak w0 [] w L) (hk:L[k]? = some (.row cJ 6 y (dY l))) (hi:i<l.length) (hx:x=(i:Int))
  (h:∀ w',ak w0 [] w' (L.set k (.row cJ 6 y (dY (l.set i (vw (l.getD i gz))))))→K w'):aU y.a x y.n (Ev.st (Addr.add (Addr.add (base y.a) (Int.toNat x * 6)) 5) (.bool true) w K):=by
 subst hx
 have kS:l.length=y.n:=gQ.len (H.fI k hk)
 refine ⟨⟨Sl.pre (H.fI k hk) (by omega),by omega,by omega⟩,?_⟩
 refine H.qz k hk (i:=i * 6+5) (by rw [Int.toNat_natCast,add_add]) (by rw [Qk]; omega) rfl fun w' H'=>h w' ?_
 rw [← YN l i hi]
 exact H'
theorem aee (x:ah) (l:List bP) (id:Int) (hl:l.length≤100000) (w:World) (hx:gQ w x l):Ok Pr LQ [.slice x.a x.n x.c,.int .i64 id] w fun v w'=>jC cJ 6 w w' v (dY (kF l id)) (nF l id):=by
 refine adh ?_
 unfold L4
 have bV:=hx.len
 rw [show ((x.n:Nat):Int)=((l.length:Nat):Int) by omega]
 refine aB (Hr x l (by omega) _ hx) ?_
 rintro _ w1 ⟨rfl,m1⟩
 have H:=(ak.start w).frame m1
 refine bu ?_
 have no:∀ (c:Int) (w':World),Mod [] w w'→c≠0→nF l id=c→az Pr qn [.int .i64 c] w' fun v w2=>jC cJ 6 w w2 (.tuple ⟨[.slice none 0 0,v]⟩) (dY (kF l id)) (nF l id):=by
  intro c w' m hc ec
  have el:kF l id=[]:=by unfold kF; rw [ec,if_neg hc]
  rw [ec,el]
  refine aB (Dl c hc _) ?_
  rintro e w2 ⟨h2,m2⟩
  exact jC.no (h2.from m.size) (m.trans m2)
 cases hm:gh l with
 | false=>exact ite_true rfl (no 2 w1 m1 (by decide) (by unfold nF; rw [hm]; rfl))
 | true=>
  refine ite_false rfl (aB (DB _ _ _ _) ?_)
  rintro _ w2 ⟨rfl,hw⟩
  subst hw
  refine bu ?_
  by_cases wm:1≤id∧id≤(l.length:Int)
  ·have qT:aP 1 (l.length:Int) id=true:=by unfold aP; rw [decide_eq_true wm.1,decide_eq_true wm.2]; rfl
   rw [qT]
   obtain ⟨i,hi⟩:∃ i:Nat,id - 1=(i:Int):=⟨(id - 1).toNat,by omega⟩
   have Ko:i<l.length:=by omega
   have nh:=(hx.aG m1).cell (i:=i) (j:=5) Ko rfl
   have TW:(id - 1).toNat=i:=by omega
   refine ite_false rfl ⟨⟨by omega,by omega⟩,⟨⟨Sl.pre hx (by omega),by omega,by omega⟩,?_⟩⟩
   rw [hi]
   refine ⟨(l.getD i gz).rev,by rw [Int.toNat_natCast]; exact nh,?_⟩
   cases hr:(l.getD i gz).rev with
   | true=>exact ite_true rfl (no 11 _ m1 (by decide) (by unfold nF; rw [if_pos hm,if_pos wm,TW,hr]; rfl))
   | false=>
    have ec:nF l id=0:=by unfold nF; rw [if_pos hm,if_pos wm,TW,hr]; rfl
    have el:kF l id=l.set i (vw (l.getD i gz)):=by unfold kF; rw [if_pos ec,TW]
    rw [ec,el]
    refine ite_false rfl (aB (GX x l (by omega) _ (hx.aG m1)) ?_)
    rintro _ w3 ⟨y,rfl,hy,xY,m3⟩
    have H:=H.cB m3 hy
    refine bW ⟨⟨by omega,by omega⟩,amb 0 y l i _ H rfl Ko rfl fun w4 H=>?_⟩
    exact jC.yes (H.fN 0 rfl) H.mod
  ·have qT:aP 1 (l.length:Int) id=false:=by
    unfold aP
    rw [Bool.and_eq_false_iff,decide_eq_false_iff_not,decide_eq_false_iff_not]
    omega
   rw [qT]
   exact ite_true rfl (no 9 _ m1 (by decide) (by unfold nF; rw [if_pos hm,if_neg wm]))
end Go.Proofs.YtgjoehgomjgckaaGreatDoor
end
section
set_option linter.unusedVariables false
set_option linter.unusedSimpArgs false
namespace Go.Proofs.YtgjoehgomjgckaaGreatDoor
open Go Go.Ev
set_option maxRecDepth 20000
set_option linter.unusedVariables false
def bP.five (g:bP):List Int:=[g.n0,g.n1,g.n2,g.n3,g.n4]
@[irreducible] def tok (s:List B8) (g:bP):List B8:=BitVec.ofInt 8 g.n0 :: e9 136 31 (laid s ++ iX g.five) 32
theorem ahN (l:List B8):(e9 136 31 l 32).length=32:=by
 have:=s4 136 31 l 32 (by omega)
 exact this
theorem UW (x:ah) (s:List B8) (g:bP) (hs:s.length≤1000) (w:World) (hx:Bytes w x s):Ok Pr G7 [.slice x.a x.n x.c,.agg ⟨g.cells⟩] w fun v w'=>nC w w' v (tok s g):=by
 refine adA ?_
 unfold Mz
 have et:tok s g=[BitVec.ofInt 8 g.n0] ++ e9 136 31 (laid s ++ iX g.five) 32:=by unfold tok; rfl
 have kG:=ahN (laid s ++ iX g.five)
 rw [et]
 have dP:(laid s).length=s.length+8:=by unfold laid; rw [List.length_append,Iz]; omega
 have h5:(iX g.five).length=40:=Qj _
 refine (ak.start w).nw fun p w1 H _=>?_
 refine H.an 0 rfl (au p 0) rfl (H.an 0 rfl (au p 1) rfl (H.an 0 rfl (au p 2) rfl (H.an 0 rfl (au p 3) rfl (H.an 0 rfl (au p 4) rfl (H.nw fun p1 w2 H _=>?_)))))
 refine aB (U4 ⟨none,0,0⟩ [] ⟨some ⟨p1,0,none⟩,5,5⟩ g.five (by simp) (by show 5≤1000000; omega) _ (Bytes.nil _) (H.YE 1 (l:=g.five) rfl)) ?_
 rintro _ w3 ⟨f,rfl,hf,m3⟩
 rw [List.nil_append] at hf
 have H:=H.cB m3 hf
 have H:=H.drew
 refine bW (H.an 0 rfl (au p 0) rfl ?_)
 have k0:∀ {w' fu:World} {L L':List aE},ak w [] w' L→ak w [] fu L'→L[0]? = some (.av p g.cells cJ)→L'[0]? = some (.av p g.cells cJ)→kept (Addr.add ⟨p,0,none⟩ 0) 1 w' fu:=fun H H' h h'=>kM (H.av 0 h) (H'.av 0 h') (jK _ _)
 have cC:∀ {w':World} {L:List aE} {K:ah→World→Prop} (b p3:Nat),ak w [] w' L→L[b]? = some (.av p3 [x.v] bJ)→(∀ y fu,ak w [] fu (L ++ [.row bh 1 y (bn (laid s))])→K y fu)→az Pr AZ [.slice none 0 0,.slice (some ⟨p3,0,none⟩) 1 1] w' fun v fu=>aT v fun t=>K t fu:=by
  intro w' L K b p3 H hb hK
  refine aB (agt ⟨none,0,0⟩ [] ⟨some ⟨p3,0,none⟩,1,1⟩ [s] (by simp) (by simp) (fun q hq=>by rw [List.mem_singleton.1 hq]; omega) _ (Bytes.nil _) (e8.JT (H.av b hb) (by simp) (hx.aG H.mod) (jX _))) ?_
  rintro _ fu ⟨y,rfl,hy,m⟩
  rw [show [] ++ nq [s]=laid s by simp [nq]] at hy
  exact bW (hK y fu (H.cB m hy))
 have cE:∀ {w':World} {L:List aE} {K:ah→World→Prop} (b p4 c:Nat) (y:ah),ak w [] w' L→L[b]? = some (.av p4 [y.v,f.v] bJ)→L[c]? = some (.row bh 1 y (bn (laid s)))→L[2]? = some (.row bh 1 f (bn (iX g.five)))→
   (∀ z fu,ak w [] fu (L ++ [.row bh 1 z (bn (e9 136 31 (laid s ++ iX g.five) 32))])→K z fu)→az Pr sR [.int .i64 32,.slice (some ⟨p4,0,none⟩) 2 2] w' fun v fu=>aT v fun t=>K t fu:=by
  intro w' L K b p4 c y H hb hc h2 hK
  refine aB (Lo 32 ⟨some ⟨p4,0,none⟩,2,2⟩ [laid s,iX g.five] _ (e8.zM (H.av b hb) (by simp) (H.bytes c hc) (jX _) (H.bytes 2 h2) (jX _)) (zm rfl (by omega) (by omega))) ?_
  rintro _ fu ⟨z,rfl,hz,m⟩
  rw [show [laid s,iX g.five].flatten=laid s ++ iX g.five by simp] at hz
  exact bW (hK z fu (H.cB m hz))
 generalize e9 136 31 (laid s ++ iX g.five) 32=o at *
 have fin:∀ {w':World} {L:List aE} (a e p2:Nat) (z:ah),ak w [] w' L→L[a]? = some (.av p2 [.int .u8 (IntKind.wrap .u8 g.n0)] bh)→L[e]? = some (.row bh 1 z (bn o))→
   cG Pr [bJ,bJ] bJ [.slice (some ⟨p2,0,none⟩) 1 1,.slice z.a z.n z.c] w' fun t fu=>nC w fu (.slice t.a t.n t.c) ([BitVec.ofInt 8 g.n0] ++ o):=by
  intro w' L a e p2 z H ha he
  have hz:=H.bytes e he
  have pZ:=hz.len
  have sx:a<L.length:=(List.getElem?_eq_some_iff.1 ha).1
  have H:=H.rB a 1 1 1 ha rfl (Nat.le_refl _) (by simp only [maxLen]; omega)
  rw [yI] at H
  refine H.vp (s:=⟨some ⟨p2,0,none⟩,1,1⟩) (vs:=[BitVec.ofInt 8 g.n0]) a iJ (by rw [List.getElem?_set_self sx]; rfl) hz (by show 1+z.n≤_; omega) fun t fu H _=>⟨t,rfl,?_,H.mod⟩
  exact H.fN a (by rw [List.getElem?_set_self (by simpa using sx)])
 refine ⟨?_,?_⟩
 ·refine H.nw fun p2 w4 H4 _=>H4.nw fun p3 w5 H5 _=>⟨k0 H4 H5 rfl rfl,cC 4 p3 H5 rfl fun y w6 H6=>⟨k0 H5 H6 rfl rfl,H6.nw fun p4 w7 H7 _=>⟨k0 H6 H7 rfl rfl,cE 6 p4 5 y H7 rfl rfl rfl fun z w8 H8=>⟨k0 H7 H8 rfl rfl,?_⟩⟩⟩⟩
  exact fin 3 7 p2 z H8 rfl rfl
 ·refine H.nw fun p3 w4 H4 _=>⟨k0 H H4 rfl rfl,?_,?_⟩
  ·refine H4.nw fun p2 w5 H5 _=>cC 3 p3 H5 rfl fun y w6 H6=>⟨k0 H5 H6 rfl rfl,H6.nw fun p4 w7 H7 _=>⟨k0 H6 H7 rfl rfl,cE 6 p4 5 y H7 rfl rfl rfl fun z w8 H8=>⟨k0 H7 H8 rfl rfl,?_⟩⟩⟩
   exact fin 4 7 p2 z H8 rfl rfl
  ·refine cC 3 p3 H4 rfl fun y w5 H5=>⟨k0 H4 H5 rfl rfl,?_,?_⟩
   ·refine H5.nw fun p2 w6 H6 _=>H6.nw fun p4 w7 H7 _=>⟨k0 H6 H7 rfl rfl,cE 6 p4 4 y H7 rfl rfl rfl fun z w8 H8=>⟨k0 H7 H8 rfl rfl,?_⟩⟩
    exact fin 5 7 p2 z H8 rfl rfl
   ·refine H5.nw fun p4 w6 H6 _=>⟨k0 H5 H6 rfl rfl,?_,?_⟩
    ·refine H6.nw fun p2 w7 H7 _=>cE 5 p4 4 y H7 rfl rfl rfl fun z w8 H8=>⟨k0 H7 H8 rfl rfl,?_⟩
     exact fin 6 7 p2 z H8 rfl rfl
    ·refine cE 5 p4 4 y H6 rfl rfl rfl fun z w7 H7=>⟨k0 H6 H7 rfl rfl,H7.nw fun p2 w8 H8 _=>?_⟩
     exact fin 7 6 p2 z H8 rfl rfl
end Go.Proofs.YtgjoehgomjgckaaGreatDoor
end
section
set_option linter.unusedVariables false
set_option linter.unusedSimpArgs false
namespace Go.Proofs.YtgjoehgomjgckaaGreatDoor
open Go Go.Ev Go.RowKit
set_option maxRecDepth 20000
set_option linter.unusedVariables false
theorem WX:((Pr.fieldsOf cJ).toList.map fun f=>(f.type,f.offset,decide (f.name= "_")))=[(bD,0,false),(bD,1,false),(bD,2,false),(bD,3,false),(bD,4,false),(lJ,5,false)]:=by kernel_rfl
theorem ZF:Pr.underlying cJ=some (.struct (Pr.fieldsOf cJ)):=by kernel_rfl
theorem YO:Pr.stoodInHeld cJ=false:=by kernel_rfl
theorem akb:Pr.eqGuardType Pr.depth cJ=false:=by kernel_rfl
theorem Ry:Pr.underlying bD=some (.int .i64):=by kernel_rfl
theorem XI:Pr.underlying lJ=some .bool:=by kernel_rfl
theorem Nq {P:Program} (d:Nat) (xs ys:Array Value) (w:World):∀ (fs:List Field),(∀ f∈fs,∃ v,f.name≠ "_"∧(part f.type xs f.offset).run P w=.ok v w∧(part f.type ys f.offset).run P w=.ok v w∧(Op.equalIn d f.type v v).run P w=.ok true w)→(Op.eqFields d xs ys fs).run P w=.ok true w
 | [],_=>rfl
 | f :: fs,h=>by
  obtain ⟨v,hn,h1,h2,h3⟩:=h f List.mem_cons_self
  have ih:=Nq d xs ys w fs fun g hg=>h g (List.mem_cons_of_mem _ hg)
  unfold Op.eqFields
  rw [if_pos hn]
  simp only [Sem.run_bind,h1,h2,h3,Result.andThen]
  exact ih
theorem akc (g:bP) (w:World):(Op.equalIn 10000 cJ (.agg ⟨g.cells⟩) (.agg ⟨g.cells⟩)).run Pr w=.ok true w:=by
 rw [show 10000=9999+1 from rfl,run_equalIn_struct w 9999 cJ _ _ ZF YO]
 refine Nq _ _ _ _ _ fun f hf=>?_
 have hm:(f.type,f.offset,decide (f.name= "_"))∈((Pr.fieldsOf cJ).toList.map fun f=>(f.type,f.offset,decide (f.name= "_"))):=List.mem_map_of_mem hf
 rw [WX] at hm
 have hI:∀ z:Int,(Op.equalIn 9999 bD (.int .i64 z) (.int .i64 z)).run Pr w=.ok true w:=fun z=>by
  rw [show 9999=9998+1 from rfl,run_equalIn_int w 9998 bD .i64 .i64 z z Ry]
  simp
 have hB:∀ z:Bool,(Op.equalIn 9999 lJ (.bool z) (.bool z)).run Pr w=.ok true w:=fun z=>by
  rw [show 9999=9998+1 from rfl,run_equalIn_bool' w 9998 lJ z z XI]
  simp
 obtain ⟨n0,n1,n2,n3,n4,rv⟩:=g
 have q0:(part bD ⟨q8 n0 n1 n2 n3 n4 rv⟩ 0).run Pr w=.ok (.int .i64 n0) w:=by kernel_rfl
 have q1:(part bD ⟨q8 n0 n1 n2 n3 n4 rv⟩ 1).run Pr w=.ok (.int .i64 n1) w:=by kernel_rfl
 have q2:(part bD ⟨q8 n0 n1 n2 n3 n4 rv⟩ 2).run Pr w=.ok (.int .i64 n2) w:=by kernel_rfl
 have q3:(part bD ⟨q8 n0 n1 n2 n3 n4 rv⟩ 3).run Pr w=.ok (.int .i64 n3) w:=by kernel_rfl
 have q4:(part bD ⟨q8 n0 n1 n2 n3 n4 rv⟩ 4).run Pr w=.ok (.int .i64 n4) w:=by kernel_rfl
 have q5:(part lJ ⟨q8 n0 n1 n2 n3 n4 rv⟩ 5).run Pr w=.ok (.bool rv) w:=by kernel_rfl
 simp only [List.mem_cons,List.not_mem_nil,or_false,Prod.mk.injEq,decide_eq_false_iff_not] at hm
 rcases hm with ⟨h1,h2,h3⟩ | ⟨h1,h2,h3⟩ | ⟨h1,h2,h3⟩ | ⟨h1,h2,h3⟩ | ⟨h1,h2,h3⟩ | ⟨h1,h2,h3⟩
 ·rw [h1,h2]; exact ⟨_,h3,q0,q0,hI _⟩
 ·rw [h1,h2]; exact ⟨_,h3,q1,q1,hI _⟩
 ·rw [h1,h2]; exact ⟨_,h3,q2,q2,hI _⟩
 ·rw [h1,h2]; exact ⟨_,h3,q3,q3,hI _⟩
 ·rw [h1,h2]; exact ⟨_,h3,q4,q4,hI _⟩
 ·rw [h1,h2]; exact ⟨_,h3,q5,q5,hB _⟩
theorem adH (g:bP) (p q:Addr) (x y:ah) (s t:List B8) (hs:s.length≤1000) (w:World) (hp:w.cell? p=some x.v) (hq:w.cell? q=some y.v) (hx:Bytes w x s) (hy:Bytes w y t) :
  Ok Pr wA [.agg ⟨g.cells⟩,.pointer (some p),.pointer (some q)] w fun v w'=>v=.bool (decide (tok s g=t))∧Mod [] w w':=by
 refine acR ?_
 unfold LK
 refine (ak.start w).nw fun b w1 H _=>?_
 have H:=H.drew
 refine ⟨x,H.mod.o9 hp,H.iI 0 rfl ⟨y,H.mod.o9 hq,?_⟩⟩
 have hq1:=H.mod.o9 hq
 refine aB (UW x s g hs _ (hx.aG H.mod)) ?_
 rintro _ w2 ⟨z,rfl,hz,m2⟩
 have H:=H.cB m2 hz
 refine bW ⟨ank hq1 (H.mod.o9 hq),aB (Mx z y _ _ _ hz.bytes (hy.aG H.mod)) ?_⟩
 rintro _ w3 ⟨rfl,hw⟩
 subst hw
 exact bu ⟨rfl,H.mod⟩
theorem ahO:jB Pr wA=true:=by kernel_rfl
def anF (l:List bP) (s t:List B8) (n:Int):Prop:=(n = -1∧∀ j,j<l.length→tok s (l.getD j gz)≠t)∨∃ i:Nat,n=(i:Int)∧i<l.length∧tok s (l.getD i gz)=t∧∀ j,j<i→tok s (l.getD j gz)≠t
theorem aeW (l:List bP) (xl:ah) (p q:Addr) (x y:ah) (s t:List B8) (hs:s.length≤1000) (hl:l.length≤100000) (w:World) (hg:gQ w xl l) (hp:w.cell? p=some x.v) (hq:w.cell? q=some y.v) (hx:Bytes w x s) (hy:Bytes w y t) :
  Ok Pr C1 [.slice xl.a xl.n xl.c,.func (.func wA) ⟨[]⟩ ⟨[.pointer (some p),.pointer (some q)]⟩] w fun v w'=>∃ n:Int,v=.int .i64 n∧anF l s t n∧Mod [] w w':=by
 refine Uq ?_
 unfold GH
 have bV:=hg.len
 refine cZ 0 l.length (fun i w'=>Mod [] w w'∧∀ j,j<i→tok s (l.getD j gz)≠t) rfl (by omega) ⟨Mod.refl _ _,fun j h=>by omega⟩ ?_ ?_
 ·rintro again i w1 _ hi ⟨m,dx⟩ aM
  refine ite_true (decide_eq_true (by omega)) ((hg.aG m).ld hi rfl ?_)
  have anG:∀ {K:Value→World→Prop},az Pr wA [.agg ⟨(l.getD i gz).cells⟩,.pointer (some p),.pointer (some q)] w1 K→lN Pr (.func (.func wA) ⟨[]⟩ ⟨[.pointer (some p),.pointer (some q)]⟩) [.agg ⟨(l.getD i gz).cells⟩] w1 K:=by
   intro K h
   show cond (jB Pr wA) _ False
   rw [ahO]
   exact h
  refine anG ?_
  refine aB (adH (l.getD i gz) p q x y s t hs _ (m.o9 hp) (m.o9 hq) (hx.aG m) (hy.aG m)) ?_
  rintro _ w2 ⟨rfl,m2⟩
  refine bu (bU (fun h=>?_) (fun h=>?_))
  ·exact ⟨_,rfl,.inr ⟨i,rfl,hi,of_decide_eq_true h,dx⟩,m.trans m2⟩
  ·have h:=of_decide_eq_false h
   refine ⟨⟨by omega,by omega⟩,aM w2 ⟨m.trans m2,fun j hj=>?_⟩⟩
   rcases Nat.lt_or_ge j i with h1 | h1
   ·exact dx j h1
   ·have:j=i:=by omega
    rw [this]; exact h
 ·rintro again w1 ⟨m,dx⟩
  exact ite_false (decide_eq_false (by omega)) ⟨_,rfl,.inl ⟨rfl,dx⟩,m⟩
def Told (l:List bP) (s t:List B8) (g:bP) (c:Int):Prop:=
 (gh l=false∧g=gz∧c=2)∨(gh l=true∧(∀ j,j<l.length→tok s (l.getD j gz)≠t)∧g=gz∧c=15)∨(gh l=true∧(∃ i,i<l.length∧tok s (l.getD i gz)=t∧(∀ j,j<i→tok s (l.getD j gz)≠t)∧g=l.getD i gz)∧c=0)
theorem Told.unique {l:List bP} {s t:List B8} {g g':bP} {c c':Int} (h:Told l s t g c) (h':Told l s t g' c'):g=g'∧c=c':=by
 rcases h with ⟨h1,rfl,rfl⟩ | ⟨h1,h2,rfl,rfl⟩ | ⟨h1,⟨i,h2,h3,h4,rfl⟩,rfl⟩ <;> rcases h' with ⟨k1,rfl,rfl⟩ | ⟨k1,k2,rfl,rfl⟩ | ⟨k1,⟨j,k2,k3,k4,rfl⟩,rfl⟩
 ·exact ⟨rfl,rfl⟩
 ·rw [h1] at k1; cases k1
 ·rw [h1] at k1; cases k1
 ·rw [h1] at k1; cases k1
 ·exact ⟨rfl,rfl⟩
 ·exact absurd k3 (h2 j k2)
 ·rw [h1] at k1; cases k1
 ·exact absurd h3 (k2 i h2)
 ·have:i=j:=by
   rcases Nat.lt_trichotomy i j with h | h | h
   ·exact absurd h3 (k4 i h)
   ·exact h
   ·exact absurd k3 (h4 j h)
  subst this
  exact ⟨rfl,rfl⟩
theorem Z6:zc Pr cJ=gz.cells:=by kernel_rfl
theorem UX (l:List bP) (xl x y:ah) (s t:List B8) (hs:s.length≤1000) (hl:l.length≤100000) (w:World) (hg:gQ w xl l) (hx:Bytes w x s) (hy:Bytes w y t) :
  Ok Pr G6 [.slice xl.a xl.n xl.c,.slice x.a x.n x.c,.slice y.a y.n y.c] w fun v w'=>∃ g c er,v=.tuple ⟨[.agg ⟨g.cells⟩,er]⟩∧Told l s t g c∧cO w w' er c∧Mod [] w w':=by
 refine adz ?_
 unfold My
 rw [Z6]
 have bV:=hg.len
 refine (ak.start w).nw fun p w1 H _=>H.nw fun p1 w2 H _=>H.nw fun p2 w3 H _=>aB (Hr xl l (by omega) _ (hg.aG H.mod)) ?_
 rintro _ w4 ⟨rfl,m4⟩
 have H:=H.frame m4
 refine bu ?_
 have no:∀ (c:Int) (w':World),Mod [] w4 w'→c≠0→Told l s t gz c→az Pr qn [.int .i64 c] w' fun v w5=>oh ⟨p2,0,none⟩ 0 0 0 0 0 false w5 fun w6=>iI ⟨p2,0,none⟩ w6 fun r0 r1 r2 r3 r4 r5=>
   ∃ g c er,Value.tuple ⟨[.agg ⟨[.int .i64 r0,.int .i64 r1,.int .i64 r2,.int .i64 r3,.int .i64 r4,.bool r5]⟩,v]⟩=.tuple ⟨[.agg ⟨g.cells⟩,er]⟩∧Told l s t g c∧cO w w6 er c∧Mod [] w w6:=by
  intro c w' m hc ht
  have H:=H.frame m
  refine aB (Dl c hc _) ?_
  rintro e w5 ⟨h5,m5⟩
  have H:=H.gD m5 h5
  exact H.oh 2 rfl rfl fun w6 H=>H.iI 2 rfl ⟨gz,c,e,rfl,ht,⟨H.err 3 rfl,fun b hb=>(H.own 3 _ rfl b hb).resolve_left (by simp)⟩,H.mod⟩
 cases hm:gh l with
 | false=>exact ite_true rfl (no 2 w4 (Mod.refl _ _) (by decide) (.inl ⟨hm,rfl,rfl⟩))
 | true=>
  refine ite_false rfl (aB (aeW l xl ⟨p,0,none⟩ ⟨p1,0,none⟩ x y s t hs hl _ (hg.aG H.mod) (H.cell 0 rfl rfl rfl) (H.cell 1 rfl rfl rfl) (hx.aG H.mod) (hy.aG H.mod)) ?_)
  rintro _ w5 ⟨n,rfl,hn,m5⟩
  refine fm ?_
  rcases hn with ⟨rfl,dx⟩ | ⟨i,rfl,hi,qP,dx⟩
  ·exact ite_true rfl (no 15 w5 m5 (by decide) (.inr (.inl ⟨hm,dx,rfl,rfl⟩)))
  ·have H:=H.frame m5
   refine ite_false (decide_eq_false (by omega)) ((hg.aG H.mod).ld hi rfl (H.oh 2 rfl rfl fun w6 H=>H.iI 2 rfl ⟨l.getD i gz,0,.nilIface,rfl,.inr (.inr ⟨hm,⟨i,hi,qP,dx,rfl⟩,rfl⟩),cO.zero _ _,H.mod⟩))
def xw (g:bP) (key dM op clock:Int):Int:=if g.rev=true∨g.n1≠key∨g.n2≠dM∨op<1∨13<op∨iA .i64 (shr .i64 g.n3 op) 1=0∨g.n4<clock then 10 else 0
theorem aef (g:bP) (key dM op clock:Int) (w:World):Ok Pr LP [.agg ⟨g.cells⟩,.int .i64 key,.int .i64 dM,.int .i64 op,.int .i64 clock] w fun v w'=>cO w w' v (xw g key dM op clock)∧Mod [] w w':=by
 refine adg ?_
 unfold L3
 refine (ak.start w).nw fun p w1 H _=>jA fun go bY=>?_
 have yes:(g.rev=true∨g.n1≠key∨g.n2≠dM∨op<1∨13<op∨iA .i64 (shr .i64 g.n3 op) 1=0∨g.n4<clock)→go true w1:=by
  intro h
  have ec:xw g key dM op clock=10:=by unfold xw; rw [if_pos h]
  rw [ec] at bY
  refine bY true w1 (ite_true rfl (aB (Dl 10 (by decide) _) ?_))
  rintro e w2 ⟨h2,m2⟩
  exact ⟨h2.from H.mod.size,(H.frame m2).mod⟩
 refine H.lZ 0 rfl (au p 5) rfl (H.an 0 rfl (au p 1) rfl (H.an 0 rfl (au p 2) rfl (bU (fun h=>?_) (fun h=>?_))))
 ·refine H.an 0 rfl (au p 3) rfl (H.an 0 rfl (au p 4) rfl (yes ?_))
  simp only [Bool.or_eq_true,Bool.not_eq_true',decide_eq_false_iff_not] at h
  rcases h with (h | h) | h
  ·exact .inl h
  ·exact .inr (.inl h)
  ·exact .inr (.inr (.inl h))
 ·simp only [Bool.or_eq_false_iff,Bool.not_eq_false',decide_eq_true_eq] at h
  refine aB (DB _ _ _ _) ?_
  rintro _ w2 ⟨rfl,hw⟩
  subst hw
  refine bu (H.an 0 rfl (au p 3) rfl ?_)
  by_cases AA:1≤op∧op≤13
  ·have ey:aP 1 13 op=true:=by unfold aP; rw [decide_eq_true AA.1,decide_eq_true AA.2]; rfl
   rw [ey]
   refine ite_false rfl (kL (by omega) (H.an 0 rfl (au p 4) rfl ?_))
   cases hb:(decide (iA .i64 (shr .i64 g.n3 op) (1:Int)=(0:Int)) || decide (g.n4<clock)) with
   | true=>
    refine yes ?_
    simp only [Bool.or_eq_true,decide_eq_true_eq] at hb
    rcases hb with hb | hb
    ·exact .inr (.inr (.inr (.inr (.inr (.inl hb)))))
    ·exact .inr (.inr (.inr (.inr (.inr (.inr hb)))))
   | false=>
    simp only [Bool.or_eq_false_iff,decide_eq_false_iff_not] at hb
    have ec:xw g key dM op clock=0:=by
     unfold xw
     rw [if_neg]
     rintro (k | k | k | k | k | k | k)
     ·rw [h.1.1] at k; cases k
     ·exact k h.1.2
     ·exact k h.2
     ·omega
     ·omega
     ·exact hb.1 k
     ·exact hb.2 k
    rw [ec] at bY
    exact bY false _ (ite_false rfl ⟨cO.zero _ _,H.mod⟩)
  ·have ey:aP 1 13 op=false:=by
    unfold aP
    rw [Bool.and_eq_false_iff,decide_eq_false_iff_not,decide_eq_false_iff_not]
    omega
   rw [ey]
   refine ite_true rfl (H.an 0 rfl (au p 4) rfl (yes ?_))
   by_cases h1:op<1
   ·exact .inr (.inr (.inr (.inl h1)))
   ·exact .inr (.inr (.inr (.inr (.inl (by omega)))))
end Go.Proofs.YtgjoehgomjgckaaGreatDoor
end
section
set_option linter.unusedVariables false
set_option linter.unusedSimpArgs false
namespace Go.Proofs.YtgjoehgomjgckaaGreatDoor
open Go Go.Ev
set_option maxRecDepth 20000
set_option linter.unusedVariables false
structure cw where
 id:Int
 ten:Int
 key:List B8
 high:Int
 used:aI
def cH:cw:=⟨0,0,[],0,0⟩
def cw.cs (p:cw) (x:ah):List Value:=lE p.id p.ten x p.high (p.used.toNat:Int)
theorem cw.ct (p:cw) (x:ah):(p.cs x).length=5:=rfl
def yl (w:World) (x:ah) (p:cw):Prop:=Bytes w x p.key
theorem yl.aG {w w':World} {x:ah} {p:cw} (m:Mod [] w w') (h:yl w x p):yl w' x p:=Bytes.aG h m
def ym (w:World) (s:ah) (ps:List cw):Prop:=Dv cw.cs 5 yl w s ps
theorem ym.aG {w w':World} {s:ah} {ps:List cw} (h:ym w s ps) (m:Mod [] w w'):ym w' s ps:=Dv.aG (E:=yl) (fun m h=>yl.aG m h) h m
theorem ym.len {w:World} {s:ah} {ps:List cw} (h:ym w s ps):ps.length=s.n:=Dv.len cw.ct (by omega) h
def AH (w:World) (x:ah) (k:aR):Prop:=fO w x k.aH
theorem AH.aG {w w':World} {x:ah} {k:aR} (m:Mod [] w w') (h:AH w x k):AH w' x k:=fO.aG h m
def xN (w:World) (s:ah) (ks:List aR):Prop:=Dv aR.cs 4 AH w s ks
theorem xN.aG {w w':World} {s:ah} {ks:List aR} (h:xN w s ks) (m:Mod [] w w'):xN w' s ks:=Dv.aG (E:=AH) (fun m h=>AH.aG m h) h m
theorem xN.len {w:World} {s:ah} {ks:List aR} (h:xN w s ks):ks.length=s.n:=Dv.len aR.ct (by omega) h
structure aS where
 clock:Int
 bN:List B8
 bI:List ck
 aC:List cw
 keys:List aR
 aX:List bP
structure eu where
 sec:ah
 ten:ah
 aC:ah
 key:ah
 gr:ah
def aS.cs (t:aS) (s:eu):List Value:=kY t.clock s.sec s.ten s.aC s.key s.gr
structure iN (w:World) (s:eu) (t:aS):Prop where
 sec:Bytes w s.sec t.bN
 ten:fo w s.ten t.bI
 aC:ym w s.aC t.aC
 key:xN w s.key t.keys
 gr:gQ w s.gr t.aX
theorem iN.aG {w w':World} {s:eu} {t:aS} (h:iN w s t) (m:Mod [] w w'):iN w' s t:=⟨Bytes.aG h.sec m,h.ten.aG m,h.aC.aG m,h.key.aG m,h.gr.aG m⟩
structure aS.small (t:aS):Prop where
 sec:t.bN.length≤1000000
 ten:t.bI.length≤1000
 aC:t.aC.length≤1000
 key:t.keys.length≤1000
 gr:t.aX.length≤1000
 pk:∀ p∈t.aC,p.key.length≤1000000
 br:∀ k∈t.keys,k.aH.length≤1000
 aq:∀ k∈t.keys,∀ v∈k.aH,v.aq.length≤1000000
 gf:∀ g∈t.aX,g.fit
theorem Rz:fh Pr sV dJ 5 56:=fh.of (by kernel_rfl)
theorem RA:fh Pr sX aV 4 48:=fh.of (by kernel_rfl)
theorem cw.lW (p:cw) (x:ah):∀ u∈p.cs x,ek u=true:=by
 intro u hu
 simp only [cw.cs,lE,List.mem_cons,List.not_mem_nil,or_false] at hu
 rcases hu with rfl | rfl | rfl | rfl | rfl <;> rfl
theorem aR.lW (k:aR) (x:ah):∀ u∈k.cs x,ek u=true:=by
 intro u hu
 simp only [aR.cs,dA,List.mem_cons,List.not_mem_nil,or_false] at hu
 rcases hu with rfl | rfl | rfl | rfl <;> rfl
end Go.Proofs.YtgjoehgomjgckaaGreatDoor
end
section
set_option linter.unusedVariables false
set_option linter.unusedSimpArgs false
namespace Go.Proofs.YtgjoehgomjgckaaGreatDoor
open Go Go.Ev
set_option maxRecDepth 20000
set_option linter.unusedVariables false
theorem acT (x:ah) (ps:List cw) (xs:List ah) (jr:xs.length=ps.length) (hl:ps.length≤1000000) (w:World) (hx:Sl w x 5 (bq cw.cs ps xs)):Ok Pr KE [.slice x.a x.n x.c] w fun v w'=>∃ y:ah,v=.slice y.a y.n y.c∧Own w' w.heap.size dJ 5 y (bq cw.cs ps xs)∧y.n=x.n∧Mod [] w w':=by
 refine ab3 ?_
 unfold KH
 have bV:=hx.len
 rw [ir cw.ct ps xs jr] at bV
 refine bU (fun h=>?_) (fun h=>?_)
 ·have h0:x.n=0:=by
   rcases Nat.eq_zero_or_pos x.n with e | e
   ·exact e
   ·have:=Sl.pre hx e
    cases ha:x.a with
    | none=>rw [ha] at this; cases this
    | some a=>rw [ha] at h; cases h
  obtain rfl:ps=[]:=List.eq_nil_of_length_eq_zero (by omega)
  exact ⟨⟨none,0,0⟩,rfl,Own.nil _ _ _ _,h0.symm,Mod.refl _ _⟩
 ·refine (ak.start w).nw fun p w1 H _=>?_
  have H:=H.rB 0 5 0 0 rfl rfl (Nat.le_refl _) (by simp only [maxLen]; omega)
  refine H.app (s:=⟨some ⟨p,0,none⟩,0,0⟩) (vs:=[]) 0 Rz rfl (hx.aG H.mod) (uP cw.lW ps xs) (by show (0+x.n) * 56≤_; omega) (by show 0+x.n≤_; omega) fun y w2 H hy=>?_
  exact ⟨y,rfl,H.fN 0 rfl,by rw [hy]; exact Nat.zero_add _,H.mod⟩
theorem acU (x:ah) (ks:List aR) (xs:List ah) (jr:xs.length=ks.length) (hl:ks.length≤1000000) (w:World) (hx:Sl w x 4 (bq aR.cs ks xs)):Ok Pr KJ [.slice x.a x.n x.c] w fun v w'=>∃ y:ah,v=.slice y.a y.n y.c∧Own w' w.heap.size aV 4 y (bq aR.cs ks xs)∧y.n=x.n∧Mod [] w w':=by
 refine ab5 ?_
 unfold KK
 have bV:=hx.len
 rw [ir aR.ct ks xs jr] at bV
 refine bU (fun h=>?_) (fun h=>?_)
 ·have h0:x.n=0:=by
   rcases Nat.eq_zero_or_pos x.n with e | e
   ·exact e
   ·have:=Sl.pre hx e
    cases ha:x.a with
    | none=>rw [ha] at this; cases this
    | some a=>rw [ha] at h; cases h
  obtain rfl:ks=[]:=List.eq_nil_of_length_eq_zero (by omega)
  exact ⟨⟨none,0,0⟩,rfl,Own.nil _ _ _ _,h0.symm,Mod.refl _ _⟩
 ·refine (ak.start w).nw fun p w1 H _=>?_
  have H:=H.rB 0 4 0 0 rfl rfl (Nat.le_refl _) (by simp only [maxLen]; omega)
  refine H.app (s:=⟨some ⟨p,0,none⟩,0,0⟩) (vs:=[]) 0 RA rfl (hx.aG H.mod) (uP aR.lW ks xs) (by show (0+x.n) * 48≤_; omega) (by show 0+x.n≤_; omega) fun y w2 H hy=>?_
  exact ⟨y,rfl,H.fN 0 rfl,by rw [hy]; exact Nat.zero_add _,H.mod⟩
theorem HQ (n lo hi:Int) (w:World):Ok Pr Bm [.int .i64 n,.int .i64 lo,.int .i64 hi] w fun v w'=>v=.bool (aP lo hi n)∧w'=w:=by
 refine agu ?_
 unfold Ql
 exact ⟨rfl,rfl⟩
end Go.Proofs.YtgjoehgomjgckaaGreatDoor
end
section
set_option linter.unusedVariables false
set_option linter.unusedSimpArgs false
namespace Go.Proofs.YtgjoehgomjgckaaGreatDoor
open Go Go.Ev
set_option maxRecDepth 20000
set_option linter.unusedVariables false
theorem ZG (u:aI) (k:Nat):bt u k=1↔u.getLsbD k=true:=by
 unfold bt
 constructor
 ·intro h
  have:=congrArg (fun x=>x.getLsbD 0) h
  simpa using this
 ·intro h
  refine BitVec.eq_of_getLsbD_eq fun i hi=>?_
  by_cases h0:i=0
  ·subst h0; simpa using h
  ·simp [h0]
theorem XJ (u:aI) (k:Nat):u >>> k=0↔∀ i,k≤i→i<64→¬ bt u i=1:=by
 constructor
 ·intro h i h1 h2
  rw [ZG]
  have:=congrArg (fun x=>x.getLsbD (i - k)) h
  simp only [BitVec.getLsbD_ushiftRight] at this
  rw [show k+(i - k)=i by omega] at this
  rw [this]; simp
 ·intro h
  refine BitVec.eq_of_getLsbD_eq fun i hi=>?_
  rw [BitVec.getLsbD_ushiftRight]
  by_cases h2:k+i<64
  ·have:=h (k+i) (by omega) h2
   rw [ZG] at this
   simpa using this
  ·rw [BitVec.getLsbD_of_ge _ _ (by omega)]; simp
theorem ahc (high:Int) (u:aI) (w:World):Ok Pr OD [.int .i64 high,.int .u64 (u.toNat:Int)] w fun r w'=>r=.bool (fP high u)∧w'=w:=by
 refine afy ?_
 unfold Ph
 by_cases h:high<0∨1099511627776<high
 ·exact ite_true (by simpa using h) ⟨by unfold fP; rw [if_pos h],rfl⟩
 refine ite_false (by simpa using h) ?_
 obtain ⟨k,rfl⟩:∃ k:Nat,high=(k:Int):=⟨high.toNat,by omega⟩
 refine cZ 0 64 (fun i w'=>(∀ j,k≤j→j<i→¬ bt u j=1)∧w'=w) rfl (by omega) ⟨fun j h1 h2=>by omega,rfl⟩ ?_ ?_
 ·rintro again i w1 _ hi ⟨lV,rfl⟩ aM
  refine ite_true (decide_eq_true (by omega)) ?_
  by_cases hk:k≤i
  ·refine ite_true (decide_eq_true (by omega)) (kL (by omega) ?_)
   rw [zD,JM]
   by_cases hb:bt u i=1
   ·refine ite_true (decide_eq_true (show ((u >>> i &&& 1).toNat:Int)=1 by
     have:u >>> i &&& 1=1:=hb
     rw [this]; rfl)) ⟨?_,rfl⟩
    have hz:¬ u >>> k=0:=fun f=>(XJ u k).1 f i hk (by omega) hb
    have e:fP (k:Int) u=false:=by
     unfold fP
     rw [if_neg h]
     by_cases h0:(k:Int)=0
     ·rw [if_pos h0,decide_eq_false]
      intro f; exact hz (by rw [f]; simp)
     ·rw [if_neg h0,Int.toNat_natCast,decide_eq_false (fun f=>hz (f (by omega)))]; rfl
    rw [e]
   ·refine ite_false (decide_eq_false (show ¬ ((u >>> i &&& 1).toNat:Int)=1 from fun f=>hb (BH (y:=1) |>.1 f))) ⟨⟨by omega,by omega⟩,aM w1 ⟨fun j h1 h2=>?_,rfl⟩⟩
    rcases Nat.lt_or_ge j i with h3 | h3
    ·exact lV j h1 h3
    ·rw [show j=i by omega]; exact hb
  ·refine ite_false (decide_eq_false (by omega)) ⟨⟨by omega,by omega⟩,aM w1 ⟨fun j h1 h2=>?_,rfl⟩⟩
   omega
 ·rintro again w1 ⟨lV,rfl⟩
  have hz:k<64→u >>> k=0:=fun hk=>(XJ u k).2 fun i h1 h2=>lV i h1 h2
  refine ite_false (decide_eq_false (by omega)) ⟨?_,rfl⟩
  rw [JM]
  congr 1
  unfold fP
  rw [if_neg h]
  by_cases h0:(k:Int)=0
  ·have:k=0:=by omega
   subst this
   have:=hz (by omega)
   rw [if_pos h0,decide_eq_true h0,decide_eq_true (show u=0 by simpa using this)]; rfl
  ·rw [if_neg h0,decide_eq_false h0,Int.toNat_natCast,decide_eq_true (fun f=>hz (by omega)),Bool.true_and,Bool.false_or]
   exact (decide_eq_decide.2 (BH (y:=1)))
end Go.Proofs.YtgjoehgomjgckaaGreatDoor
end
section
set_option linter.unusedVariables false
set_option linter.unusedSimpArgs false
namespace Go.Proofs.YtgjoehgomjgckaaGreatDoor
open Go Go.Ev
set_option maxRecDepth 20000
set_option linter.unusedVariables false
theorem U7 (x:ah) (ts:List ck) (id:Int) (w:World) (hx:fo w x ts):Ok Pr Hg [.slice x.a x.n x.c,.int .i64 id] w fun v w'=>v=.bool (aP 1 (ts.length:Int) id)∧w'=w:=by
 refine ad8 ?_
 unfold Nl
 have:=hx.len
 refine ⟨?_,rfl⟩
 rw [this]; rfl
theorem ahd (x:ah) (ts:List ck) (hl:ts.length≤1000000) (w:World) (hx:fo w x ts):Ok Pr OB [.slice x.a x.n x.c] w fun v w'=>v=.bool (gG ts)∧Mod [] w w':=by
 refine afx ?_
 unfold Pg
 rw [YK]
 have bV:=hx.len
 by_cases h8:ts.length≤8
 case neg=>
  have eM:gG ts=false:=by unfold gG; rw [decide_eq_false h8]; rfl
  refine y6 (fun i w'=>w'=w) (fun _ _=>0) rfl ?_
  rintro again i _ rfl aM
  exact ite_false (by rw [decide_eq_false (show ¬ ((x.n:Nat):Int)≤8 by omega),Bool.and_false]) ⟨by rw [eM,decide_eq_false (show ¬ ((x.n:Nat):Int)≤8 by omega)],Mod.refl _ _⟩
 have eM:gG ts=mH ts ts.length:=by unfold gG; rw [decide_eq_true h8]; rfl
 refine cZ 0 ts.length (fun i w'=>mH ts i=true∧Mod [] w w') rfl (by omega) ⟨rfl,Mod.refl _ _⟩ ?_ ?_
 ·rintro again i w1 _ hi ⟨dV,m⟩ aM
  obtain ⟨dh,hc⟩:=(hx.aG m).at hi
  have hs:mH ts (i+1)=(mH ts i && nD ts i):=rfl
  have hF:nD ts i=(decide ((ts.getD i tz).id=(i:Int)+1) && (decide (min (i:Int) 1≤(ts.getD i tz).par) && (decide ((ts.getD i tz).par≤(i:Int)) && (qx (ts.getD i tz).name && !(ts.take i).any (k7 (ts.getD i tz).par (ts.getD i tz).name))))):=rfl
  have no:∀ {w2:World},Mod [] w w2→nD ts i=false→(fun v w'=>v=Value.bool (gG ts)∧Mod [] w w') (.bool false) w2:=fun m h=>⟨by rw [eM,RW h _ hi],m⟩
  generalize ts.getD i tz=t at *
  refine ite_true (by rw [decide_eq_true (show (i:Int)<((x.n:Nat):Int) by omega),decide_eq_true (show ((x.n:Nat):Int)≤8 by omega)]; rfl) ⟨dh,C9 hc ((ak.start w1).nw fun p w2 D _=>D.AU 0 rfl rfl fun w3 D=>?_)⟩
  refine D.an 0 rfl (au p 0) rfl ⟨⟨by omega,by omega⟩,D.fS 0 rfl (au p 2) rfl (D.fS 0 rfl (au p 2) rfl (D.an 0 rfl (au p 1) rfl (D.an 0 rfl (au p 1) rfl (D.an 0 rfl (au p 1) rfl ?_))))⟩
  have eN:qx t.name=true↔1≤t.name.size∧t.name.size≤300:=by
   unfold qx aP
   simp only [Bool.and_eq_true,decide_eq_true_eq]
   omega
  have eq:((decide (t.par=0)) == (decide ((i:Int)=0)))=decide (t.par=0↔(i:Int)=0):=by
   by_cases a:t.par=0 <;> by_cases b:(i:Int)=0 <;> simp [a,b]
  rw [eq]
  by_cases hg:t.id=(i:Int)+1∧min (i:Int) 1≤t.par∧t.par≤(i:Int)∧qx t.name=true
  case neg=>
   refine ite_true ?_ (no (m.trans D.mod) ?_)
   ·simp only [Bool.or_eq_true,Bool.not_eq_true',decide_eq_true_eq,decide_eq_false_iff_not]
    rw [eN] at hg
    omega
   ·rw [hF]
    cases hn:qx t.name with
    | false=>simp
    | true=>
     rw [hn] at hg
     simp only [Bool.and_eq_false_iff,decide_eq_false_iff_not]
     by_cases q1:t.id=(i:Int)+1
     ·by_cases q2:min (i:Int) 1≤t.par
      ·exact .inr (.inr (.inl fun q3=>hg ⟨q1,q2,q3,rfl⟩))
      ·exact .inr (.inl q2)
     ·exact .inl q1
  obtain ⟨g1,g2,g3,g4⟩:=hg
  rw [decide_eq_true g1,decide_eq_true g2,decide_eq_true g3,g4,Bool.true_and,Bool.true_and,Bool.true_and,Bool.true_and] at hF
  refine ite_false ?_ ?_
  ·simp only [Bool.or_eq_false_iff,Bool.not_eq_false',decide_eq_true_eq,decide_eq_false_iff_not]
   have:=eN.1 g4
   omega
  refine cZ 0 i (fun kv w'=>(ts.take kv).any (k7 t.par t.name)=false∧ak w1 [] w' [.av p (ku t.id t.par t.name) dF]) rfl (by omega) ⟨rfl,D⟩ ?_ ?_
  ·rintro mh kv w4 _ hkv ⟨hn,D⟩ jD
   have D:=D.drew
   obtain ⟨aaE,hck⟩:=(hx.aG (m.trans D.mod)).at (i:=kv) (by omega)
   have tL:=AV (k7 t.par t.name) ts kv (by omega) tz
   have anH:k7 t.par t.name (ts.getD kv tz)=true→(ts.take i).any (k7 t.par t.name)=true:=fun h=>by
    have h1:=AW (k7 t.par t.name) (ts.take i) kv (by rw [List.length_take]; omega) tz (by
     rw [List.getD_eq_getElem?_getD,List.getElem?_take,if_pos hkv,← List.getD_eq_getElem?_getD]; exact h)
    exact h1
   generalize ts.getD kv tz=q at *
   refine ite_true (decide_eq_true (by omega)) ⟨aaE,_,hck 1 _ rfl,D.an 0 rfl (au p 1) rfl ?_⟩
   by_cases hp:q.par=t.par
   ·refine ite_true (decide_eq_true hp) ⟨aaE,_,hck 2 _ rfl,D.fS 0 rfl (au p 2) rfl ?_⟩
    by_cases hq:q.name=t.name
    ·have hsm:k7 t.par t.name q=true:=by unfold k7; rw [decide_eq_true hp,decide_eq_true hq]; rfl
     exact ite_true (decide_eq_true hq) (no (m.trans D.mod) (by rw [hF,anH hsm]; rfl))
    ·exact ite_false (decide_eq_false hq) ⟨⟨by omega,by omega⟩,jD _ ⟨by rw [tL,hn]; unfold k7; rw [decide_eq_false hq,Bool.and_false]; rfl,D⟩⟩
   ·exact ite_false (decide_eq_false hp) ⟨⟨by omega,by omega⟩,jD _ ⟨by rw [tL,hn]; unfold k7; rw [decide_eq_false hp]; rfl,D⟩⟩
  ·rintro mh w4 ⟨hn,D⟩
   exact ite_false (decide_eq_false (by omega)) ⟨⟨by omega,by omega⟩,aM _ ⟨by rw [hs,dV,hF,hn]; rfl,m.trans D.mod⟩⟩
 ·rintro again w1 ⟨dV,m⟩
  exact ite_false (by rw [decide_eq_false (show ¬ ((ts.length:Nat):Int)<((x.n:Nat):Int) by omega)]; rfl) ⟨by rw [eM,dV,decide_eq_true (show ((x.n:Nat):Int)≤8 by omega)],m⟩
end Go.Proofs.YtgjoehgomjgckaaGreatDoor
end
section
set_option linter.unusedVariables false
set_option linter.unusedSimpArgs false
namespace Go.Proofs.YtgjoehgomjgckaaGreatDoor
open Go Go.Ev
set_option maxRecDepth 20000
set_option linter.unusedVariables false
theorem aeg (v:bp) (x:ah) (n:Int) (w:World) (hx:jM w x v):Ok Pr LU [.agg ⟨v.cs x⟩,.int .i64 n] w fun r w'=>r=.bool (gw v n)∧Mod [] w w':=by
 refine adl ?_
 unfold L8
 have bV:=Bytes.len hx
 refine (ak.start w).nw fun p w1 H _=>?_
 have H:ak w [] w1 [.av p (uG v.n v.st v.due x) cI]:=H
 refine H.an 0 rfl (au p 0) rfl (H.an 0 rfl (au p 1) rfl (H.an 0 rfl (au p 1) rfl ?_))
 have hM:gw v n=(decide (v.n=n) && (if v.st=3 then aP 1 1099511627776 v.due && decide (v.aq.length=64) else if v.st=4 then decide (v.due=0) && decide (v.aq.length=0) else if v.st=1∨v.st=2 then decide (v.due=0) && decide (v.aq.length=64) else false)):=rfl
 by_cases h1:v.n=n
 case neg=>
  rw [decide_eq_false h1,Bool.false_and] at hM
  exact ite_true (by rw [decide_eq_false h1]; rfl) ⟨by rw [hM],H.mod⟩
 rw [decide_eq_true h1,Bool.true_and] at hM
 by_cases hs:1≤v.st∧v.st≤4
 case neg=>
  rw [if_neg (by omega),if_neg (by omega),if_neg (by omega)] at hM
  refine ite_true ?_ ⟨by rw [hM],H.mod⟩
  by_cases h:v.st<1
  ·rw [decide_eq_true h,Bool.or_true,Bool.true_or]
  ·rw [decide_eq_true (show 4<v.st by omega),Bool.or_true]
 refine ite_false (by rw [decide_eq_true h1,decide_eq_false (show ¬ v.st<1 by omega),decide_eq_false (show ¬ 4<v.st by omega)]; rfl) (H.an 0 rfl (au p 1) rfl (H.ax 0 rfl (au p 3) rfl (H.an 0 rfl (au p 1) rfl (H.ax 0 rfl (au p 3) rfl ?_))))
 have TV:decide (((x.n:Nat):Int)=64)=decide (v.aq.length=64):=decide_eq_decide.2 (by omega)
 have e0:decide (((x.n:Nat):Int)=0)=decide (v.aq.length=0):=decide_eq_decide.2 (by omega)
 rw [TV,e0]
 by_cases h4:v.st=4
 ·rw [if_neg (by omega),if_pos h4] at hM
  by_cases h:v.aq.length=0
  ·rw [decide_eq_true h,Bool.and_true] at hM
   exact ite_false (by rw [decide_eq_true h4,decide_eq_true h]; rfl) (H.an 0 rfl (au p 1) rfl (ite_false (decide_eq_false (by omega)) (H.an 0 rfl (au p 2) rfl ⟨by rw [hM],H.mod⟩)))
  ·rw [decide_eq_false h,Bool.and_false] at hM
   exact ite_true (by rw [decide_eq_true h4,decide_eq_false h]; rfl) ⟨by rw [hM],H.mod⟩
 ·by_cases h:v.aq.length=64
  ·rw [decide_eq_true h,Bool.and_true,Bool.and_true] at hM
   refine ite_false (by rw [decide_eq_false h4,decide_eq_true h]; rfl) (H.an 0 rfl (au p 1) rfl ?_)
   by_cases h3:v.st=3
   ·rw [if_pos h3] at hM
    exact ite_true (decide_eq_true h3) (H.an 0 rfl (au p 2) rfl (H.an 0 rfl (au p 2) rfl ⟨by rw [hM]; rfl,H.mod⟩))
   ·rw [if_neg h3,if_neg h4,if_pos (by omega)] at hM
    exact ite_false (decide_eq_false h3) (H.an 0 rfl (au p 2) rfl ⟨by rw [hM],H.mod⟩)
  ·rw [decide_eq_false h,Bool.and_false,Bool.and_false,if_neg h4] at hM
   refine ite_true (by rw [decide_eq_false h4,decide_eq_false h]; rfl) ⟨?_,H.mod⟩
   rw [hM]
   split
   ·rfl
   ·split <;> rfl
theorem ahe (k:aR) (x:ah) (hl:k.aH.length≤1000000) (w:World) (hx:fO w x k.aH):Ok Pr OE [.agg ⟨k.cs x⟩] w fun r w'=>r=.bool (cR k)∧Mod [] w w':=by
 refine afz ?_
 unfold Pj
 have bV:=hx.len
 refine (ak.start w).nw fun p w1 H _=>?_
 have H:ak w [] w1 [.av p (dA k.id k.ten k.set x) aV]:=H
 refine H.an 0 rfl (au p 0) rfl (H.an 0 rfl (au p 0) rfl (H.an 0 rfl (au p 1) rfl (H.an 0 rfl (au p 1) rfl (H.an 0 rfl (au p 2) rfl (H.an 0 rfl (au p 2) rfl (H.ax 0 rfl (au p 3) rfl (H.ax 0 rfl (au p 3) rfl ?_)))))))
 by_cases h:(1≤k.id∧k.id≤6)∧(1≤k.ten∧k.ten≤8)∧(1≤k.set∧k.set≤3)∧(1≤k.aH.length∧k.aH.length≤5)
 case neg=>
  refine ite_true ?_ ⟨?_,H.mod⟩
  ·simp only [Bool.or_eq_true,decide_eq_true_eq]; omega
  ·have:cR k=false:=Bool.eq_false_iff.2 fun hm=>by
    obtain ⟨a,b,c,d,_⟩:=xh hm
    exact h ⟨a,b,c,d⟩
   rw [this]
 obtain ⟨h1,h2,h3,h4⟩:=h
 refine ite_false ?_ ?_
 ·simp only [Bool.or_eq_false_iff,decide_eq_false_iff_not]; omega
 have eK:cR k=l7 k.aH k.aH.length:=by
  unfold cR aP
  rw [decide_eq_true h1.1,decide_eq_true h1.2,decide_eq_true h2.1,decide_eq_true h2.2,decide_eq_true h3.1,decide_eq_true h3.2,decide_eq_true (show (1:Int)≤(k.aH.length:Int) by omega),decide_eq_true (show (k.aH.length:Int)≤5 by omega)]
  simp
 refine cZ 0 k.aH.length (fun i w'=>l7 k.aH i=true∧ak w [] w' [.av p (dA k.id k.ten k.set x) aV]) rfl (by omega) ⟨rfl,H⟩ ?_ ?_
 ·rintro again i w3 _ hi ⟨dV,H⟩ aM
  have ha:k.aH[i]? = some (k.aH.getD i vz):=by rw [List.getD_eq_getElem?_getD,List.getElem?_eq_getElem hi]; rfl
  obtain ⟨dh,y,hy,hc⟩:=Dv.at bp.ct (by omega) (hx.aG H.mod) ha
  have hs:l7 k.aH (i+1)=(l7 k.aH i && gw (k.aH.getD i vz) ((i:Int)+1)):=rfl
  have dx:=RV (vs:=k.aH) (i:=i)
  generalize k.aH.getD i vz=v at *
  refine H.ax 0 rfl (au p 3) rfl (ite_true (decide_eq_true (by omega)) (H.ax 0 rfl (au p 3) rfl ⟨dh,uD hc ⟨⟨by omega,by omega⟩,aB (aeg v y _ _ hy) ?_⟩⟩))
  rintro _ w6 ⟨rfl,m6⟩
  refine bu ?_
  cases hv:gw v ((i:Int)+1) with
  | false=>exact ite_true rfl ⟨by rw [eK,dx hv _ hi],H.mod.trans m6⟩
  | true=>exact ite_false rfl ⟨⟨by omega,by omega⟩,aM _ ⟨by rw [hs,dV,hv]; rfl,H.frame m6⟩⟩
 ·rintro again w3 ⟨dV,H⟩
  exact H.ax 0 rfl (au p 3) rfl (ite_false (decide_eq_false (by omega)) ⟨by rw [eK,dV],H.mod⟩)
theorem agD (k:aR) (x:ah) (hl:k.aH.length≤1000) (hs:∀ v∈k.aH,v.aq.length≤1000000) (w:World) (hx:fO w x k.aH):Ok Pr NC [.agg ⟨k.cs x⟩] w fun r w'=>∃ y:ah,r=.agg ⟨k.cs y⟩∧JL w w' y k.aH:=by
 refine aeN ?_
 unfold Oj
 rw [o6]
 have bV:=hx.len
 obtain ⟨xs,dP,cz⟩:=hx
 refine (ak.start w).nw fun p w1 H _=>H.nw fun p1 w2 H _=>?_
 have H:ak w [] w2 [.av p (dA k.id k.ten k.set x) aV,.av p1 [.int .i64 0,.int .i64 0,.int .i64 0,.slice none 0 0] aV]:=H
 refine H.ax 0 rfl (au p 3) rfl (H.clone Rt (dP.aG H.mod) (uP bp.lW k.aH xs) (by omega) (by omega) fun y w3 H xY=>?_)
 refine H.st 0 rfl (au p 3) (by show 3<4; omega) rfl fun w4 H=>?_
 have H:ak w [] w4 ([.av p (dA k.id k.ten k.set y) aV,.av p1 [.int .i64 0,.int .i64 0,.int .i64 0,.slice none 0 0] aV] ++ [.row cI 4 y (bq bp.cs k.aH xs)]):=H
 refine cZ 0 k.aH.length (fun i w'=>fW bp.cs 4 iz cI w [] [.av p (dA k.id k.ten k.set y) aV,.av p1 [.int .i64 0,.int .i64 0,.int .i64 0,.slice none 0 0] aV] w' y k.aH xs i) rfl (by omega) (fW.start H) ?_ ?_
 ·intro again i w5 _ hi R aM
  refine R.front.ax 0 rfl (au p 3) rfl (ite_true (decide_eq_true (by omega)) ?_)
  have R:=R.frame (Mod.drew [] w5)
  have ha:k.aH[i]? = some k.aH[i]:=List.getElem?_eq_getElem hi
  have dy:xs[i]? = some (xs[i]'(by rw [cz.1]; exact hi)):=List.getElem?_eq_getElem _
  have gl:=hs _ (List.getElem_mem hi)
  have sJ:=cz.2 i _ _ dy ha
  obtain ⟨dh,hc⟩:=R.at bp.ct (by omega) cz.1 ha dy
  generalize k.aH[i]=v at *
  generalize xs[i]'(by rw [cz.1]; exact hi)=z at *
  have F:=R.front
  have hb:jM w5.drew z v:=Bytes.aG sJ F.mod
  have pZ:=Bytes.len hb
  refine F.ax 0 rfl (au p 3) rfl (F.ax 0 rfl (au p 3) rfl ⟨dh,z,hc 3 z.v rfl,(ak.start w5.drew).RK iJ hb (by omega) fun u w6 U hu=>?_⟩)
  have Gk:fJ w5.drew w6 fun w=>iz w u v:=U.boxed fun w' h=>h 0 _ rfl
  exact ⟨F.jZ 0 rfl Gk.mod 3,dh,R.step bp.ct cz.1 ha dy Gk (by omega:3<4) (Re v z u) fun w7 R=>⟨⟨by omega,by omega⟩,aM w7 R⟩⟩
 ·intro again w5 R
  refine R.front.ax 0 rfl (au p 3) rfl (ite_false (decide_eq_false (by omega)) ?_)
  obtain ⟨ys,fp,H⟩:=R.done rfl cz.1
  exact H.bz 0 rfl (H.cA 1 rfl rfl fun w8 H=>H.bz 1 rfl ⟨y,rfl,ys,fp,H.drop 2⟩)
end Go.Proofs.YtgjoehgomjgckaaGreatDoor
end
section
set_option linter.unusedVariables false
set_option linter.unusedSimpArgs false
namespace Go.Proofs.YtgjoehgomjgckaaGreatDoor
open Go Go.Ev
set_option maxRecDepth 20000
set_option linter.unusedVariables false
theorem YP:zc Pr dJ=lE 0 0 ⟨none,0,0⟩ 0 0:=by kernel_rfl
theorem th:zc Pr aN=kY 0 ⟨none,0,0⟩ ⟨none,0,0⟩ ⟨none,0,0⟩ ⟨none,0,0⟩ ⟨none,0,0⟩:=by kernel_rfl
def pP (t:aS) (i:Nat) (p:cw):Bool:=decide (p.id=(i:Int)+1) && (aP 1 (t.bI.length:Int) p.ten && (decide (p.key.length=jH 1) && fP p.high p.used))
def lX (t:aS):Nat→Bool
 | 0=>true
 | i+1=>lX t i && pP t i (t.aC.getD i cH)
def kB (t:aS) (i:Nat) (k:aR):Bool:=decide (k.id=(i:Int)+1) && (aP 1 (t.bI.length:Int) k.ten && cR k)
def lY (t:aS):Nat→Bool
 | 0=>true
 | i+1=>lY t i && kB t i (t.keys.getD i kz)
def pQ (t:aS) (g:bP):Bool:=decide ((t.keys.length:Int)<g.n1) || decide ((t.aC.length:Int)<g.n2)
def zV (t:aS):Bool:=aP 0 1099511627776 t.clock && (decide (t.bN.length=32) && (decide (1≤t.bI.length) && (gG t.bI && (aP 1 6 (t.aC.length:Int) && (decide (t.keys.length≤6) && gh t.aX)))))
def fC (t:aS):Bool:=zV t && (lX t t.aC.length && (lY t t.keys.length && !t.aX.any (pQ t)))
theorem RB {t:aS} {i:Nat} (h:pP t i (t.aC.getD i cH)=false):∀ n,i<n→lX t n=false
 | 0,hn=>by omega
 | n+1,hn=>by
  show (lX t n && _)=false
  rcases Nat.lt_or_ge i n with h2 | h2
  ·rw [RB h n h2,Bool.false_and]
  ·rw [show n=i by omega,h,Bool.and_false]
theorem RC {t:aS} {i:Nat} (h:kB t i (t.keys.getD i kz)=false):∀ n,i<n→lY t n=false
 | 0,hn=>by omega
 | n+1,hn=>by
  show (lY t n && _)=false
  rcases Nat.lt_or_ge i n with h2 | h2
  ·rw [RC h n h2,Bool.false_and]
  ·rw [show n=i by omega,h,Bool.and_false]
theorem ym.at {w:World} {s:ah} {ps:List cw} (h:ym w s ps) {i:Nat} (hi:i<ps.length) :
  (s.a.isSome=true∧(0:Int)≤(i:Int)∧(i:Int)<(s.n:Int))∧∃ x:ah,Bytes w x (ps.getD i cH).key∧∀ (j:Nat) (v:Value),((ps.getD i cH).cs x)[j]? = some v→w.cell? (Addr.add (Addr.add (base s.a) (Int.toNat (i:Int) * 5)) j)=some v:=
 Dv.at cw.ct (by omega) h (by rw [List.getD_eq_getElem?_getD,List.getElem?_eq_getElem hi]; rfl)
theorem xN.at {w:World} {s:ah} {ks:List aR} (h:xN w s ks) {i:Nat} (hi:i<ks.length) :
  (s.a.isSome=true∧(0:Int)≤(i:Int)∧(i:Int)<(s.n:Int))∧∃ x:ah,fO w x (ks.getD i kz).aH∧∀ (j:Nat) (v:Value),((ks.getD i kz).cs x)[j]? = some v→w.cell? (Addr.add (Addr.add (base s.a) (Int.toNat (i:Int) * 4)) j)=some v:=
 Dv.at aR.ct (by omega) h (by rw [List.getD_eq_getElem?_getD,List.getElem?_eq_getElem hi]; rfl)
theorem xk {t:aS} (hs:t.small) {i:Nat} (hi:i<t.keys.length):(t.keys.getD i kz).aH.length≤1000:=by
 refine hs.br _ ?_
 rw [List.getD_eq_getElem?_getD,List.getElem?_eq_getElem hi]
 exact List.getElem_mem hi
def ZH (w:World) (g:Value) (p:bP→Bool):Prop:=∀ (t:bP) (w':World),Mod [] w w'→lN Pr g [.agg ⟨t.cells⟩] w' fun v fu=>v=.bool (p t)∧Mod [] w' fu
theorem acs (g:Value) (p:bP→Bool) (x:ah) (ts:List bP) (hl:ts.length≤1000000000) (w:World) (hx:gQ w x ts) (hg:ZH w g p) :
  Ok Pr C1 [.slice x.a x.n x.c,g] w fun v w'=>∃ z:Int,v=.int .i64 z∧decide (0≤z)=ts.any p∧Mod [] w w':=by
 refine Uq ?_
 unfold GH
 have bV:=hx.len
 refine cZ 0 ts.length (fun i w'=>(ts.take i).any p=false∧Mod [] w w') rfl (by omega) ⟨rfl,Mod.refl _ _⟩ ?_ ?_
 ·rintro again i w1 _ hi ⟨hn,m⟩ aM
  refine ite_true (decide_eq_true (by omega)) ((hx.aG m).ld hi rfl (DR (hg _ w1 m) ?_))
  rintro _ w2 ⟨rfl,m2⟩
  refine bu (bU (fun hc=>?_) (fun hc=>?_))
  ·exact ⟨_,rfl,by rw [AW p ts i hi gz hc]; exact decide_eq_true (by omega),m.trans m2⟩
  ·exact ⟨⟨by omega,by omega⟩,aM w2 ⟨by rw [AV p ts i hi gz,hn,hc]; rfl,m.trans m2⟩⟩
 ·rintro again w1 ⟨hn,m⟩
  rw [List.take_of_length_le (Nat.le_refl _)] at hn
  exact ite_false (decide_eq_false (by omega)) ⟨_,rfl,by rw [hn]; rfl,m⟩
theorem acj (g:Value) (p:bP→Bool) (x:ah) (ts:List bP) (hl:ts.length≤1000000000) (w:World) (hx:gQ w x ts) (hg:ZH w g p) :
  Ok Pr Kz [.slice x.a x.n x.c,g] w fun v w'=>v=.bool (ts.any p)∧Mod [] w w':=by
 refine abZ ?_
 unfold KA
 refine aB (acs g p x ts hl w hx hg) ?_
 rintro _ w1 ⟨z,rfl,hz,m⟩
 exact fm ⟨by rw [hz],m⟩
theorem ain:jB Pr MJ=true:=by kernel_rfl
theorem VG (s:eu) (t:aS) (hs:t.small) (w:World) (hx:iN w s t):Ok Pr HD [.agg ⟨t.cs s⟩] w fun v w'=>v=.bool (fC t)∧Mod [] w w':=by
 refine afw ?_
 unfold Pf
 rw [YP,o6]
 have TX:=hx.sec.len
 have wo:=hx.ten.len
 have qV:=hx.aC.len
 have ux:=hx.key.len
 have Kq:=hx.gr.len
 have AI:=hs.ten
 have CU:=hs.aC
 have yp:=hs.key
 have CV:=hs.gr
 refine (ak.start w).nw fun p w1 H _=>?_
 have H:ak w [] w1 [.av p (t.cs s) aN]:=H
 have no:∀ {w2:World},Mod [] w w2→fC t=false→(fun v w'=>v=Value.bool (fC t)∧Mod [] w w') (.bool false) w2:=fun m h=>⟨by rw [h],m⟩
 refine jV fun go bY=>?_
 have S8:∀ w2,Mod [] w1 w2→zV t=true→go w2:=by
  intro w2 m2 hp
  refine bY w2 (aB (Vs 1 w2) ?_)
  have eM:fC t=(lX t t.aC.length && (lY t t.keys.length && !t.aX.any (pQ t))):=by unfold fC; rw [hp]; rfl
  rintro _ w3 ⟨rfl,m3⟩
  have H:=H.frame (m2.trans m3)
  refine ⟨_,rfl,_,rfl,_,rfl,_,rfl,rfl,H.ax 0 rfl (au p 3) rfl ?_⟩
  refine cZ 0 t.aC.length (fun i w'=>lX t i=true∧ak w [] w' [.av p (t.cs s) aN]) rfl (by omega) ⟨rfl,H⟩ ?_ ?_
  ·rintro again i w4 _ hi ⟨dV,H⟩ aM
   obtain ⟨dh,x,uy,hc⟩:=(hx.aC.aG H.mod).at hi
   have hS:lX t (i+1)=(lX t i && pP t i (t.aC.getD i cH)):=rfl
   have hN:=RB (t:=t) (i:=i)
   have nn:∀ {w2:World},Mod [] w w2→pP t i (t.aC.getD i cH)=false→(fun v w'=>v=Value.bool (fC t)∧Mod [] w w') (.bool false) w2:=fun m h=>no m (by rw [eM,hN h _ hi]; rfl)
   have bO:=uy.len
   have hP:pP t i (t.aC.getD i cH)=(decide ((t.aC.getD i cH).id=(i:Int)+1) && (aP 1 (t.bI.length:Int) (t.aC.getD i cH).ten && (decide ((t.aC.getD i cH).key.length=jH 1) && fP (t.aC.getD i cH).high (t.aC.getD i cH).used))):=rfl
   generalize t.aC.getD i cH=q at *
   refine ite_true (decide_eq_true (by omega)) ⟨dh,GZ hc (H.nw fun p1 w5 D _=>D.nY 1 rfl rfl fun w6 D=>?_)⟩
   have D:ak w [] w6 [.av p (t.cs s) aN,.av p1 (q.cs x) dJ]:=D
   refine D.an 1 rfl (au p1 0) rfl ⟨⟨by omega,by omega⟩,D.an 1 rfl (au p1 1) rfl (D.ax 0 rfl (au p 2) rfl ?_)⟩
   by_cases e1:q.id=(i:Int)+1
   case neg=>
    refine ite_true (by rw [decide_eq_false e1]; rfl) (D.ax 1 rfl (au p1 2) rfl (D.an 1 rfl (au p1 3) rfl (D.an 1 rfl (au p1 4) rfl (nn D.mod ?_))))
    rw [hP,decide_eq_false e1]; rfl
   refine ite_false (by rw [decide_eq_true e1]; rfl) (aB (HQ _ _ _ _) ?_)
   rintro _ w7 ⟨rfl,sN⟩
   subst sN
   refine bu (D.ax 1 rfl (au p1 2) rfl (D.an 1 rfl (au p1 3) rfl (D.an 1 rfl (au p1 4) rfl ?_)))
   have e2:aP 1 (s.ten.n:Int) q.ten=aP 1 (t.bI.length:Int) q.ten:=by rw [wo]
   rw [e2]
   have e3:(decide ((x.n:Int)=(jH 1:Int)))=decide (q.key.length=jH 1):=by
    by_cases h:q.key.length=jH 1
    ·rw [decide_eq_true h]; exact decide_eq_true (by omega)
    ·rw [decide_eq_false h]; exact decide_eq_false (by omega)
   rw [e3]
   rw [decide_eq_true e1,Bool.true_and] at hP
   cases c1:aP 1 (t.bI.length:Int) q.ten with
   | false=>exact ite_true rfl (nn D.mod (by rw [hP,c1]; rfl))
   | true=>
    rw [c1,Bool.true_and] at hP
    cases c2:decide (q.key.length=jH 1) with
    | false=>exact ite_true rfl (nn D.mod (by rw [hP,c2]; rfl))
    | true=>
     rw [c2,Bool.true_and] at hP
     refine ite_false rfl (aB (Np _ _ _) ?_)
     rintro _ w8 ⟨rfl,Gl⟩
     subst Gl
     refine bu ?_
     cases c3:fP q.high q.used with
     | false=>exact ite_true rfl (nn D.mod (by rw [hP,c3]))
     | true=>exact ite_false rfl ⟨⟨by omega,by omega⟩,aM _ ⟨by rw [hS,dV,hP,c3]; rfl,D.front (L:=[_])⟩⟩
  ·rintro again w4 ⟨TY,H⟩
   rw [TY,Bool.true_and] at eM
   refine ite_false (decide_eq_false (by omega)) (H.ax 0 rfl (au p 4) rfl ?_)
   refine cZ 0 t.keys.length (fun i w'=>lY t i=true∧ak w [] w' [.av p (t.cs s) aN]) rfl (by omega) ⟨rfl,H⟩ ?_ ?_
   ·rintro again i w4 _ hi ⟨dV,H⟩ aM
    obtain ⟨dh,x,uy,hc⟩:=hx.key.at hi
    have hS:lY t (i+1)=(lY t i && kB t i (t.keys.getD i kz)):=rfl
    have hN:=RC (t:=t) (i:=i)
    have nn:∀ {w2:World},Mod [] w w2→kB t i (t.keys.getD i kz)=false→(fun v w'=>v=Value.bool (fC t)∧Mod [] w w') (.bool false) w2:=fun m h=>no m (by rw [eM,hN h _ hi]; rfl)
    have vS:=xk hs hi
    have hP:kB t i (t.keys.getD i kz)=(decide ((t.keys.getD i kz).id=(i:Int)+1) && (aP 1 (t.bI.length:Int) (t.keys.getD i kz).ten && cR (t.keys.getD i kz))):=rfl
    generalize t.keys.getD i kz=q at *
    refine ite_true (decide_eq_true (by omega)) ⟨dh,qo (fun j v h=>H.mod.o9 (hc j v h)) (H.nw fun p1 w5 D _=>D.cA 1 rfl rfl fun w6 D=>?_)⟩
    have D:ak w [] w6 [.av p (t.cs s) aN,.av p1 (dA q.id q.ten q.set x) aV]:=D
    refine D.an 1 rfl (au p1 0) rfl ⟨⟨by omega,by omega⟩,D.an 1 rfl (au p1 1) rfl (D.ax 0 rfl (au p 2) rfl ?_)⟩
    by_cases e1:q.id=(i:Int)+1
    case neg=>
     refine ite_true (by rw [decide_eq_false e1]; rfl) (D.bz 1 rfl (nn D.mod ?_))
     rw [hP,decide_eq_false e1]; rfl
    refine ite_false (by rw [decide_eq_true e1]; rfl) (aB (HQ _ _ _ _) ?_)
    rintro _ w7 ⟨rfl,sN⟩
    subst sN
    refine bu (D.bz 1 rfl ?_)
    have e2:aP 1 (s.ten.n:Int) q.ten=aP 1 (t.bI.length:Int) q.ten:=by rw [wo]
    rw [e2]
    rw [decide_eq_true e1,Bool.true_and] at hP
    cases c1:aP 1 (t.bI.length:Int) q.ten with
    | false=>exact ite_true rfl (nn D.mod (by rw [hP,c1]; rfl))
    | true=>
     rw [c1,Bool.true_and] at hP
     refine ite_false rfl (aB (wK q x (by omega) _ (uy.aG D.mod)) ?_)
     rintro _ w8 ⟨rfl,m8⟩
     refine bu ?_
     cases c3:cR q with
     | false=>exact ite_true rfl (nn (D.mod.trans m8) (by rw [hP,c3]))
     | true=>exact ite_false rfl ⟨⟨by omega,by omega⟩,aM _ ⟨by rw [hS,dV,hP,c3]; rfl,(D.front (L:=[_])).frame m8⟩⟩
   ·rintro again w4 ⟨TZ,H⟩
    rw [TZ,Bool.true_and] at eM
    refine ite_false (decide_eq_false (by omega)) (H.ax 0 rfl (au p 5) rfl (aB (acj _ (pQ t) s.gr t.aX (by omega) w4 (hx.gr.aG H.mod) fun g w5 m=>?_) ?_))
    ·refine y7 ain (ad7 ?_)
     unfold Nk
     have b1:bX w5 p (t.cs s) aN:=(H.frame m).av 0 rfl
     refine (ak.start w5).nw fun q w6 K _=>?_
     have c1:=b1.aG K.mod
     refine K.an 0 rfl (au q 1) rfl (c1.ax rfl rfl (K.an 0 rfl (au q 2) rfl (c1.ax rfl rfl ⟨?_,K.mod⟩)))
     unfold pQ
     rw [ux,qV]
    ·rintro _ w5 ⟨rfl,m⟩
     exact bu ⟨by rw [eM],H.mod.trans m⟩
 refine H.an 0 rfl (au p 0) rfl (aB (HQ _ _ _ _) ?_)
 rintro _ w2 ⟨rfl,qT⟩
 subst qT
 refine bu (H.ax 0 rfl (au p 1) rfl (H.ax 0 rfl (au p 2) rfl (H.ax 0 rfl (au p 2) rfl ?_)))
 have eP:zV t=(aP 0 1099511627776 t.clock && (decide (t.bN.length=32) && (decide (1≤t.bI.length) && (gG t.bI && (aP 1 6 (t.aC.length:Int) && (decide (t.keys.length≤6) && gh t.aX)))))):=rfl
 have AJ:∀ {w2:World},Mod [] w w2→zV t=false→(fun v w'=>v=Value.bool (fC t)∧Mod [] w w') (.bool false) w2:=fun m h=>no m (by unfold fC; rw [h]; rfl)
 have e1:decide ((s.sec.n:Int)=32)=decide (t.bN.length=32):=by
  by_cases h:t.bN.length=32
  ·rw [decide_eq_true h]; exact decide_eq_true (by omega)
  ·rw [decide_eq_false h]; exact decide_eq_false (by omega)
 have e2:decide ((s.ten.n:Int)=0)=!decide (1≤t.bI.length):=by
  by_cases h:1≤t.bI.length
  ·rw [decide_eq_true h]; exact decide_eq_false (by omega)
  ·rw [decide_eq_false h]; exact decide_eq_true (by omega)
 rw [e1,e2]
 cases c1:aP 0 1099511627776 t.clock with
 | false=>exact ite_true rfl (H.ax 0 rfl (au p 3) rfl (H.ax 0 rfl (au p 4) rfl (H.ax 0 rfl (au p 5) rfl (AJ H.mod (by rw [eP,c1]; rfl)))))
 | true=>
 cases c2:decide (t.bN.length=32) with
 | false=>exact ite_true rfl (H.ax 0 rfl (au p 3) rfl (H.ax 0 rfl (au p 4) rfl (H.ax 0 rfl (au p 5) rfl (AJ H.mod (by rw [eP,c1,c2]; rfl)))))
 | true=>
 cases c3:decide (1≤t.bI.length) with
 | false=>exact ite_true rfl (H.ax 0 rfl (au p 3) rfl (H.ax 0 rfl (au p 4) rfl (H.ax 0 rfl (au p 5) rfl (AJ H.mod (by rw [eP,c1,c2,c3]; rfl)))))
 | true=>
 rw [c1,c2,c3,Bool.true_and,Bool.true_and,Bool.true_and] at eP
 refine ite_false rfl (aB (MG s.ten t.bI (by omega) _ (hx.ten.aG H.mod)) ?_)
 rintro _ w3 ⟨rfl,m3⟩
 have H:=H.frame m3
 refine bu (H.ax 0 rfl (au p 3) rfl ?_)
 cases c4:gG t.bI with
 | false=>exact ite_true rfl (H.ax 0 rfl (au p 4) rfl (H.ax 0 rfl (au p 5) rfl (AJ H.mod (by rw [eP,c4]; rfl))))
 | true=>
 rw [c4,Bool.true_and] at eP
 refine ite_false rfl (aB (HQ _ _ _ _) ?_)
 rintro _ w4 ⟨rfl,T1⟩
 subst T1
 refine bu (H.ax 0 rfl (au p 4) rfl (H.ax 0 rfl (au p 5) rfl ?_))
 have e3:aP 1 6 (s.aC.n:Int)=aP 1 6 (t.aC.length:Int):=by rw [qV]
 have e4:decide (6<(s.key.n:Int))=!decide (t.keys.length≤6):=by
  by_cases h:t.keys.length≤6
  ·rw [decide_eq_true h]; exact decide_eq_false (by omega)
  ·rw [decide_eq_false h]; exact decide_eq_true (by omega)
 rw [e3,e4]
 cases c5:aP 1 6 (t.aC.length:Int) with
 | false=>exact ite_true rfl (AJ H.mod (by rw [eP,c5]; rfl))
 | true=>
 cases c6:decide (t.keys.length≤6) with
 | false=>exact ite_true rfl (AJ H.mod (by rw [eP,c5,c6]; rfl))
 | true=>
 rw [c5,c6,Bool.true_and,Bool.true_and] at eP
 refine ite_false rfl (aB (Hr s.gr t.aX (by omega) _ (hx.gr.aG H.mod)) ?_)
 rintro _ w5 ⟨rfl,m5⟩
 refine bu ?_
 cases c7:gh t.aX with
 | false=>exact ite_true rfl (AJ (H.mod.trans m5) (by rw [eP,c7]))
 | true=>exact ite_false rfl (S8 _ (m3.trans m5) (by rw [eP,c7]))
end Go.Proofs.YtgjoehgomjgckaaGreatDoor
end
section
set_option linter.unusedVariables false
set_option linter.unusedSimpArgs false
namespace Go.Proofs.YtgjoehgomjgckaaGreatDoor
open Go Go.Ev
set_option maxRecDepth 20000
set_option linter.unusedVariables false
def T3 (a x:Int):Int:=if a / 2<x % a then x % a - a else x % a
def GG (g:Int):Prop:=g=95232∨g=261888
def aaF (g x:Int):Int:=if x % 8380417 - T3 (2 * g) (x % 8380417)=8380416 then T3 (2 * g) (x % 8380417) - 1 else T3 (2 * g) (x % 8380417)
end Go.Proofs.YtgjoehgomjgckaaGreatDoor
end
section
set_option linter.unusedVariables false
set_option linter.unusedSimpArgs false
namespace Go.Proofs.YtgjoehgomjgckaaGreatDoor
open Go Go.Ev
set_option maxRecDepth 20000
set_option linter.unusedVariables false
def part (G:Nat→Int) (n i:Nat):List Int:=(List.range i).map G ++ List.replicate (n - i) 0
end Go.Proofs.YtgjoehgomjgckaaGreatDoor
end
section
set_option linter.unusedVariables false
set_option linter.unusedSimpArgs false
namespace Go.Proofs.YtgjoehgomjgckaaGreatDoor
open Go Go.Ev
set_option maxRecDepth 20000
set_option linter.unusedVariables false
structure anI (s:pK):Prop where
 k0:0<s.k
 k:s.k≤8
 l0:0<s.l
 l:s.l≤7
 eta:(s.eta:Int)=2∨(s.eta:Int)=4
 c:s.c≤64
theorem anJ {set:Int} (h:isSet set=true):anI (dN set):=by
 unfold isSet at h
 simp only [Bool.or_eq_true,decide_eq_true_eq] at h
 rcases h with rfl | rfl | rfl
 ·exact ⟨by decide,by decide,by decide,by decide,.inl rfl,by decide⟩
 ·exact ⟨by decide,by decide,by decide,by decide,.inr rfl,by decide⟩
 ·exact ⟨by decide,by decide,by decide,by decide,.inl rfl,by decide⟩
end Go.Proofs.YtgjoehgomjgckaaGreatDoor
end
section
set_option linter.unusedVariables false
set_option linter.unusedSimpArgs false
namespace Go.Proofs.YtgjoehgomjgckaaGreatDoor
open Go Go.Ev
set_option maxRecDepth 20000
set_option linter.unusedVariables false
def wid (s:pK):Nat:=if s.eta=2 then 3 else 4
end Go.Proofs.YtgjoehgomjgckaaGreatDoor
end
section
set_option linter.unusedVariables false
set_option linter.unusedSimpArgs false
namespace Go.Proofs.YtgjoehgomjgckaaGreatDoor
open Go Go.Ev
set_option maxRecDepth 20000
set_option linter.unusedVariables false
def Below (b:Int) (fs:List (List Int)):Prop:=∀ f∈fs,f.length=256∧∀ x∈f,0≤x∧x<b
structure anK (s:pK):Prop where
 g2:GG (s.g2:Int)
 g1:s.g1=131072∨s.g1=524288
 omega:s.omega≤80
 beta:s.beta≤196
theorem anL {set:Int} (h:isSet set=true):anK (dN set):=by
 unfold isSet at h
 simp only [Bool.or_eq_true,decide_eq_true_eq] at h
 rcases h with rfl | rfl | rfl
 ·exact ⟨.inl rfl,.inl rfl,by decide,by decide⟩
 ·exact ⟨.inr rfl,.inr rfl,by decide,by decide⟩
 ·exact ⟨.inr rfl,.inr rfl,by decide,by decide⟩
def amc (f:List Int) (n:Nat):List B8:=(List.range n).flatMap fun j=>if f.getD j 0=1 then [BitVec.ofNat 8 j] else []
def plc (fs:List (List Int)) (n:Nat):List B8:=(List.range n).flatMap fun j=>amc (fs.getD j []) 256
def anM (s:pK) (fs:List (List Int)):Int:=if (plc fs fs.length).length≤s.omega then 0 else 5
end Go.Proofs.YtgjoehgomjgckaaGreatDoor
end
section
set_option linter.unusedVariables false
set_option linter.unusedSimpArgs false
namespace Go.Proofs.YtgjoehgomjgckaaGreatDoor
open Go Go.Ev
set_option maxRecDepth 20000
set_option linter.unusedVariables false
def aot (g:Int) (m:Int) (f:List Int):Int:=f.foldl (fun m v=>max (max m (aaF g v)) (0 - aaF g v)) m
def aou (g:Int) (X:List (List Int)):Int:=X.foldl (aot g) 0
def JK (s:pK) (Z X T H:List (List Int)):Bool:=decide (Z3 Z<(s.g1:Int) - s.beta) && (decide (aou s.g2 X<(s.g2:Int) - s.beta) && (decide (Z3 T<(s.g2:Int)) && decide (anM s H=0)))
end Go.Proofs.YtgjoehgomjgckaaGreatDoor
end
section
set_option linter.unusedVariables false
set_option linter.unusedSimpArgs false
namespace Go.Proofs.YtgjoehgomjgckaaGreatDoor
open Go Go.Ev
set_option maxRecDepth 20000
set_option linter.unusedVariables false
theorem akd {set:Int} (cD:isSet set=true):32+320 * (dN set).k=jH set∧128+32 * (((dN set).k+(dN set).l) * wid (dN set)+13 * (dN set).k)=CL set∧(dN set).c+32 * (dN set).l * tH (dN set)+(dN set).omega+(dN set).k=CM set:=by
 unfold isSet at cD
 simp only [Bool.or_eq_true,decide_eq_true_eq] at cD
 rcases cD with rfl | rfl | rfl <;> decide
theorem afH (set:Int) (cD:isSet set=true) (w:World):Ok Pr MK [.int .i64 set] w fun v w'=>v=.tuple ⟨[.int .i64 (jH set),.int .i64 (CL set),.int .i64 (CM set)]⟩∧Mod [] w w':=by
 refine adP ?_
 unfold MW
 rw [WQ]
 obtain ⟨e1,e2,e3⟩:=akd cD
 have hG:=anJ cD
 have hX:=anL cD
 have hg1:=alS cD
 refine aB (ahs set w) ?_
 rintro _ w1 ⟨rfl,m1⟩
 rw [cD]
 generalize dN set=s at *
 have hk8:=hG.k
 have hl7:=hG.l
 have hc:=hG.c
 have hom:=hX.omega
 have hwi:(if s.eta=2 then (3:Int) else 4)=((wid s:Nat):Int):=by unfold wid; split <;> rfl
 have T1:wid s≤4:=by unfold wid; split <;> omega
 have aov:tH s≤20:=by unfold tH; split <;> omega
 refine ⟨_,rfl,akX ⟨_,rfl,rfl,((ak.start w).frame m1).nw fun p w2 H _=>H.qp 0 rfl rfl fun w3 H=>ite_false rfl (H.oV 0 rfl (aB (af6 hg1 _) ?_))⟩⟩
 rintro _ w4 ⟨rfl,m4⟩
 have H:=(H.frame m4).drew
 rw [hwi]
 have h1:((s.k:Int)+(s.l:Int)) * ((wid s:Nat):Int)=(((s.k+s.l) * wid s:Nat):Int):=by push_cast; rfl
 have h2:(32:Int) * (s.l:Int) * ((tH s:Nat):Int)=((32 * s.l * tH s:Nat):Int):=by push_cast; rfl
 have b1:(s.k+s.l) * wid s≤15 * 4:=Nat.mul_le_mul (by omega) T1
 have b2:32 * s.l * tH s≤224 * 20:=Nat.mul_le_mul (by omega) aov
 generalize (s.k+s.l) * wid s=A at *
 generalize 32 * s.l * tH s=B at *
 refine ⟨_,rfl,_,rfl,_,rfl,rfl,H.an 0 rfl (au p 0) rfl ⟨⟨by omega,by omega⟩,⟨by omega,by omega⟩,H.an 0 rfl (au p 0) rfl (H.an 0 rfl (au p 1) rfl ⟨⟨by omega,by omega⟩,⟨by omega,by omega⟩,H.an 0 rfl (au p 0) rfl ⟨⟨by omega,by omega⟩,⟨by omega,by omega⟩,⟨by omega,by omega⟩,⟨by omega,by omega⟩,H.an 0 rfl (au p 8) rfl (H.an 0 rfl (au p 1) rfl ⟨⟨by omega,by omega⟩,⟨by omega,by omega⟩,⟨by omega,by omega⟩,H.an 0 rfl (au p 5) rfl ⟨⟨by omega,by omega⟩,H.an 0 rfl (au p 0) rfl ⟨⟨by omega,by omega⟩,?_,H.mod⟩⟩⟩)⟩⟩)⟩⟩
 rw [h1,h2,← e1,← e2,← e3]
 push_cast
 rfl
end Go.Proofs.YtgjoehgomjgckaaGreatDoor
end
section
set_option linter.unusedVariables false
set_option linter.unusedSimpArgs false
namespace Go.Proofs.YtgjoehgomjgckaaGreatDoor
open Go Go.Ev
set_option maxRecDepth 20000
set_option linter.unusedVariables false
theorem aeX (s:eu) (t:aS) (hs:t.small) (w:World) (hx:iN w s t):Ok Pr Mn [.agg ⟨t.cs s⟩] w fun v w'=>v=.bool (aP 1 6 (t.aC.length:Int) && lX t t.aC.length)∧Mod [] w w':=by
 refine adC ?_
 unfold MB
 rw [YP]
 have wo:=hx.ten.len
 have qV:=hx.aC.len
 have CU:=hs.aC
 refine (ak.start w).nw fun p w1 H _=>?_
 have H:ak w [] w1 [.av p (t.cs s) aN]:=H
 refine aB (afH 1 rfl w1) ?_
 rintro _ w3 ⟨rfl,m3⟩
 have H:=H.frame m3
 refine ⟨_,rfl,_,rfl,_,rfl,_,rfl,rfl,?_⟩
 by_cases h6:t.aC.length≤6
 case neg=>
  refine y6 (fun x w'=>ak w [] w' [.av p (t.cs s) aN]) (fun _ _=>0) H ?_
  intro again i w4 H aM
  refine H.ax 0 rfl (au p 3) rfl (H.ax 0 rfl (au p 3) rfl (ite_false ?_ (H.ax 0 rfl (au p 3) rfl (H.ax 0 rfl (au p 3) rfl ⟨?_,H.mod⟩))))
  ·rw [show decide ((s.aC.n:Int)≤6)=false from decide_eq_false (by omega),Bool.and_false]
  ·have e:aP 1 6 (t.aC.length:Int)=false:=by unfold aP; rw [show decide ((t.aC.length:Int)≤6)=false from decide_eq_false (by omega),Bool.and_false]
   rw [e,show decide ((s.aC.n:Int)≤6)=false from decide_eq_false (by omega),Bool.and_false]; rfl
 have CW:decide ((s.aC.n:Int)≤6)=true:=decide_eq_true (by omega)
 refine cZ 0 t.aC.length (fun i w'=>lX t i=true∧ak w [] w' [.av p (t.cs s) aN]) rfl (by omega) ⟨rfl,H⟩ ?_ ?_
 ·rintro again i w4 _ hi ⟨dV,H⟩ aM
  obtain ⟨dh,x,uy,hc⟩:=(hx.aC.aG H.mod).at hi
  have hS:lX t (i+1)=(lX t i && pP t i (t.aC.getD i cH)):=rfl
  have hN:=RB (t:=t) (i:=i)
  have nn:∀ {w2:World},Mod [] w w2→pP t i (t.aC.getD i cH)=false→(fun v w'=>v=Value.bool (aP 1 6 (t.aC.length:Int) && lX t t.aC.length)∧Mod [] w w') (.bool false) w2:=fun m h=>⟨by rw [hN h _ hi,Bool.and_false],m⟩
  have bO:=uy.len
  have hP:pP t i (t.aC.getD i cH)=(decide ((t.aC.getD i cH).id=(i:Int)+1) && (aP 1 (t.bI.length:Int) (t.aC.getD i cH).ten && (decide ((t.aC.getD i cH).key.length=jH 1) && fP (t.aC.getD i cH).high (t.aC.getD i cH).used))):=rfl
  generalize t.aC.getD i cH=q at *
  refine H.ax 0 rfl (au p 3) rfl (H.ax 0 rfl (au p 3) rfl (ite_true (by rw [CW,Bool.and_true]; exact decide_eq_true (by omega)) (H.ax 0 rfl (au p 3) rfl ⟨dh,GZ hc (H.nw fun p1 w5 D _=>D.nY 1 rfl rfl fun w6 D=>?_)⟩)))
  have D:ak w [] w6 [.av p (t.cs s) aN,.av p1 (q.cs x) dJ]:=D
  refine D.an 1 rfl (au p1 0) rfl ⟨⟨by omega,by omega⟩,D.ax 0 rfl (au p 2) rfl (D.an 1 rfl (au p1 1) rfl ?_)⟩
  by_cases e1:q.id=(i:Int)+1
  case neg=>
   refine ite_true (by rw [decide_eq_false e1]; rfl) (D.ax 1 rfl (au p1 2) rfl (D.an 1 rfl (au p1 3) rfl (D.an 1 rfl (au p1 4) rfl (nn D.mod ?_))))
   rw [hP,decide_eq_false e1]; rfl
  refine ite_false (by rw [decide_eq_true e1]; rfl) (aB (U7 s.ten t.bI q.ten w6 (hx.ten.aG D.mod)) ?_)
  rintro _ w7 ⟨rfl,sN⟩
  subst sN
  refine bu (D.ax 1 rfl (au p1 2) rfl (D.an 1 rfl (au p1 3) rfl (D.an 1 rfl (au p1 4) rfl ?_)))
  have e3:(decide ((x.n:Int)=(jH 1:Int)))=decide (q.key.length=jH 1):=by
   by_cases h:q.key.length=jH 1
   ·rw [decide_eq_true h]; exact decide_eq_true (by omega)
   ·rw [decide_eq_false h]; exact decide_eq_false (by omega)
  rw [e3]
  rw [decide_eq_true e1,Bool.true_and] at hP
  cases c1:aP 1 (t.bI.length:Int) q.ten with
  | false=>exact ite_true rfl (nn D.mod (by rw [hP,c1]; rfl))
  | true=>
   rw [c1,Bool.true_and] at hP
   cases c2:decide (q.key.length=jH 1) with
   | false=>exact ite_true rfl (nn D.mod (by rw [hP,c2]; rfl))
   | true=>
    rw [c2,Bool.true_and] at hP
    refine ite_false rfl (aB (ahc _ _ _) ?_)
    rintro _ w8 ⟨rfl,Gl⟩
    subst Gl
    refine bu ?_
    cases c3:fP q.high q.used with
    | false=>exact ite_true rfl (nn D.mod (by rw [hP,c3]))
    | true=>exact ite_false rfl ⟨⟨by omega,by omega⟩,aM _ ⟨by rw [hS,dV,hP,c3]; rfl,D.front (L:=[_])⟩⟩
 ·rintro again w4 ⟨TY,H⟩
  refine H.ax 0 rfl (au p 3) rfl (H.ax 0 rfl (au p 3) rfl (ite_false (by rw [CW,Bool.and_true]; exact decide_eq_false (by omega)) (H.ax 0 rfl (au p 3) rfl (H.ax 0 rfl (au p 3) rfl ⟨?_,H.mod⟩))))
  rw [TY,Bool.and_true,qV]; rfl
theorem agE (s:eu) (t:aS) (hs:t.small) (w:World) (hx:iN w s t):Ok Pr ND [.agg ⟨t.cs s⟩] w fun v w'=>v=.bool (decide (t.keys.length≤6) && lY t t.keys.length)∧Mod [] w w':=by
 refine aeO ?_
 unfold Ol
 rw [o6]
 have ux:=hx.key.len
 have yp:=hs.key
 refine (ak.start w).nw fun p w1 H _=>?_
 have H:ak w [] w1 [.av p (t.cs s) aN]:=H
 by_cases h6:t.keys.length≤6
 case neg=>
  refine y6 (fun x w'=>ak w [] w' [.av p (t.cs s) aN]) (fun _ _=>0) H ?_
  intro again i w4 H aM
  refine H.ax 0 rfl (au p 4) rfl (H.ax 0 rfl (au p 4) rfl (ite_false ?_ (H.ax 0 rfl (au p 4) rfl ⟨?_,H.mod⟩)))
  ·rw [show decide ((s.key.n:Int)≤6)=false from decide_eq_false (by omega),Bool.and_false]
  ·rw [decide_eq_false h6,show decide ((s.key.n:Int)≤6)=false from decide_eq_false (by omega)]; rfl
 have CW:decide ((s.key.n:Int)≤6)=true:=decide_eq_true (by omega)
 refine cZ 0 t.keys.length (fun i w'=>lY t i=true∧ak w [] w' [.av p (t.cs s) aN]) rfl (by omega) ⟨rfl,H⟩ ?_ ?_
 ·rintro again i w4 _ hi ⟨dV,H⟩ aM
  obtain ⟨dh,x,uy,hc⟩:=hx.key.at hi
  have hS:lY t (i+1)=(lY t i && kB t i (t.keys.getD i kz)):=rfl
  have hN:=RC (t:=t) (i:=i)
  have nn:∀ {w2:World},Mod [] w w2→kB t i (t.keys.getD i kz)=false→(fun v w'=>v=Value.bool (decide (t.keys.length≤6) && lY t t.keys.length)∧Mod [] w w') (.bool false) w2:=fun m h=>⟨by rw [hN h _ hi,Bool.and_false],m⟩
  have vS:=xk hs hi
  have hP:kB t i (t.keys.getD i kz)=(decide ((t.keys.getD i kz).id=(i:Int)+1) && (aP 1 (t.bI.length:Int) (t.keys.getD i kz).ten && cR (t.keys.getD i kz))):=rfl
  generalize t.keys.getD i kz=q at *
  refine H.ax 0 rfl (au p 4) rfl (H.ax 0 rfl (au p 4) rfl (ite_true (by rw [CW,Bool.and_true]; exact decide_eq_true (by omega)) (H.ax 0 rfl (au p 4) rfl ⟨dh,qo (fun j v h=>H.mod.o9 (hc j v h)) (H.nw fun p1 w5 D _=>D.cA 1 rfl rfl fun w6 D=>?_)⟩)))
  have D:ak w [] w6 [.av p (t.cs s) aN,.av p1 (dA q.id q.ten q.set x) aV]:=D
  refine D.an 1 rfl (au p1 0) rfl ⟨⟨by omega,by omega⟩,D.bz 1 rfl ?_⟩
  by_cases e1:q.id=(i:Int)+1
  case neg=>
   refine ite_true (by rw [decide_eq_false e1]; rfl) (D.ax 0 rfl (au p 2) rfl (D.an 1 rfl (au p1 1) rfl (nn D.mod ?_)))
   rw [hP,decide_eq_false e1]; rfl
  refine ite_false (by rw [decide_eq_true e1]; rfl) (aB (ahe q x (by omega) _ (uy.aG D.mod)) ?_)
  rintro _ w7 ⟨rfl,m7⟩
  have D:=D.frame m7
  refine bu (D.ax 0 rfl (au p 2) rfl (D.an 1 rfl (au p1 1) rfl ?_))
  rw [decide_eq_true e1,Bool.true_and] at hP
  cases c3:cR q with
  | false=>exact ite_true rfl (nn D.mod (by rw [hP,c3,Bool.and_false]))
  | true=>
   rw [c3,Bool.and_true] at hP
   refine ite_false rfl (aB (U7 s.ten t.bI q.ten _ (hx.ten.aG D.mod)) ?_)
   rintro _ w8 ⟨rfl,Gl⟩
   subst Gl
   refine bu ?_
   cases c1:aP 1 (t.bI.length:Int) q.ten with
   | false=>exact ite_true rfl (nn D.mod (by rw [hP,c1]))
   | true=>exact ite_false rfl ⟨⟨by omega,by omega⟩,aM _ ⟨by rw [hS,dV,hP,c1]; rfl,D.front (L:=[_])⟩⟩
 ·rintro again w4 ⟨TZ,H⟩
  refine H.ax 0 rfl (au p 4) rfl (H.ax 0 rfl (au p 4) rfl (ite_false (by rw [CW,Bool.and_true]; exact decide_eq_false (by omega)) (H.ax 0 rfl (au p 4) rfl ⟨?_,H.mod⟩)))
  rw [TZ,Bool.and_true,CW,decide_eq_true h6]
theorem ahf (s:eu) (t:aS) (hs:t.small) (w:World) (hx:iN w s t):Ok Pr OA [.agg ⟨t.cs s⟩] w fun v w'=>v=.bool (fC t)∧Mod [] w w':=by
 refine afv ?_
 unfold Pe
 have TX:=hx.sec.len
 have wo:=hx.ten.len
 have qV:=hx.aC.len
 have ux:=hx.key.len
 have Kq:=hx.gr.len
 have AI:=hs.ten
 have CU:=hs.aC
 have yp:=hs.key
 have CV:=hs.gr
 refine (ak.start w).nw fun p w1 H _=>?_
 have H:ak w [] w1 [.av p (t.cs s) aN]:=H
 have no:∀ {w2:World},Mod [] w w2→fC t=false→(fun v w'=>v=Value.bool (fC t)∧Mod [] w w') (.bool false) w2:=fun m h=>⟨by rw [h],m⟩
 have eT:fC t=(aP 0 1099511627776 t.clock && (decide (t.bN.length=32) && (decide (1≤t.bI.length) && (gG t.bI && (aP 1 6 (t.aC.length:Int) && (decide (t.keys.length≤6) && gh t.aX))))) && (lX t t.aC.length && (lY t t.keys.length && !t.aX.any (pQ t)))):=rfl
 refine jV fun go bY=>?_
 have S8:∀ w2,Mod [] w1 w2→(fC t=!t.aX.any (pQ t))→go w2:=by
  intro w2 m2 hp
  refine bY w2 ?_
  have H:=H.frame m2
  refine cZ 0 t.aX.length (fun i w'=>(t.aX.take i).any (pQ t)=false∧ak w [] w' [.av p (t.cs s) aN]) rfl (by omega) ⟨rfl,H⟩ ?_ ?_
  ·rintro again i w3 _ hi ⟨dV,H⟩ aM
   have hS:=AV (pQ t) t.aX i hi gz
   have hT:pQ t (t.aX.getD i gz)=true→fC t=false:=fun h=>by rw [hp,AW (pQ t) t.aX i hi gz h]; rfl
   have D:=H.drew
   have hg:=hx.gr.aG D.mod
   have hb:pQ t (t.aX.getD i gz)=(decide ((t.keys.length:Int)<(t.aX.getD i gz).n1) || decide ((t.aC.length:Int)<(t.aX.getD i gz).n2)):=rfl
   have dh:s.gr.a.isSome=true∧(0:Int)≤(i:Int)∧(i:Int)<(s.gr.n:Int):=⟨hg.pre (by omega),by omega,by omega⟩
   have nh:∀ (j:Nat) (v:Value),(t.aX.getD i gz).cells[j]? = some v→w3.drew.cell? (Addr.add (Addr.add (base s.gr.a) (Int.toNat (i:Int) * 6)) j)=some v:=fun j v hv=>by
    rw [Int.toNat_natCast]; exact gQ.cell hg hi hv
   generalize t.aX.getD i gz=g at *
   refine H.ax 0 rfl (au p 5) rfl (ite_true (decide_eq_true (by omega)) (D.ax 0 rfl (au p 5) rfl ⟨dh,_,nh 1 _ rfl,D.ax 0 rfl (au p 4) rfl (D.ax 0 rfl (au p 5) rfl ?_)⟩))
   show aA (decide ((s.key.n:Int)<g.n1)) _ _
   rw [← ux]
   cases c1:decide ((t.keys.length:Int)<g.n1) with
   | true=>exact ite_true rfl (no D.mod (hT (by rw [hb,c1]; rfl)))
   | false=>
    refine ite_false rfl ⟨dh,_,nh 2 _ rfl,D.ax 0 rfl (au p 3) rfl ?_⟩
    show aA (decide ((s.aC.n:Int)<g.n2)) _ _
    rw [← qV]
    cases c2:decide ((t.aC.length:Int)<g.n2) with
    | true=>exact ite_true rfl (no D.mod (hT (by rw [hb,c2,Bool.or_true])))
    | false=>exact ite_false rfl ⟨⟨by omega,by omega⟩,aM _ ⟨by rw [hS,dV,hb,c1,c2]; rfl,D⟩⟩
  ·rintro again w3 ⟨dV,H⟩
   rw [List.take_of_length_le (Nat.le_refl _)] at dV
   exact H.ax 0 rfl (au p 5) rfl (ite_false (decide_eq_false (by omega)) ⟨by rw [hp,dV]; rfl,H.mod⟩)
 refine H.an 0 rfl (au p 0) rfl (H.an 0 rfl (au p 0) rfl (H.ax 0 rfl (au p 1) rfl (H.ax 0 rfl (au p 2) rfl (H.ax 0 rfl (au p 2) rfl ?_))))
 by_cases hf:(0≤t.clock∧t.clock≤1099511627776)∧t.bN.length=32∧1≤t.bI.length
 case neg=>
  refine ite_true ?_ (H.bT 0 rfl (H.bT 0 rfl (H.ax 0 rfl (au p 5) rfl (no H.mod ?_))))
  ·simp only [Bool.or_eq_true,decide_eq_true_eq,Bool.not_eq_true',decide_eq_false_iff_not]; omega
  ·refine Bool.eq_false_iff.2 fun h=>hf ?_
   rw [eT] at h
   simp only [Bool.and_eq_true,decide_eq_true_eq,aP] at h
   exact ⟨h.1.1,h.1.2.1,h.1.2.2.1⟩
 refine ite_false ?_ ?_
 ·simp only [Bool.or_eq_false_iff,decide_eq_false_iff_not,Bool.not_eq_false',decide_eq_true_eq]; omega
 have e0:aP 0 1099511627776 t.clock=true:=by unfold aP; rw [decide_eq_true hf.1.1,decide_eq_true hf.1.2]; rfl
 rw [e0,decide_eq_true hf.2.1,decide_eq_true hf.2.2,Bool.true_and,Bool.true_and,Bool.true_and] at eT
 refine aB (ahd s.ten t.bI (by omega) _ (hx.ten.aG H.mod)) ?_
 rintro _ w3 ⟨rfl,m3⟩
 have H3:=H.frame m3
 refine bu (H3.bT 0 rfl ?_)
 cases c4:gG t.bI with
 | false=>exact ite_true rfl (H3.bT 0 rfl (H3.ax 0 rfl (au p 5) rfl (no H3.mod (by rw [eT,c4]; rfl))))
 | true=>
 rw [c4,Bool.true_and] at eT
 refine ite_false rfl (aB (aeX s t hs _ (hx.aG H3.mod)) ?_)
 rintro _ w4 ⟨rfl,m4⟩
 have H4:=H3.frame m4
 refine bu (H4.bT 0 rfl ?_)
 cases c5:(aP 1 6 (t.aC.length:Int) && lX t t.aC.length) with
 | false=>
  refine ite_true rfl (H4.ax 0 rfl (au p 5) rfl (no H4.mod ?_))
  rw [eT]
  rcases Bool.and_eq_false_iff.1 c5 with h | h <;> rw [h] <;> simp
 | true=>
 rw [Bool.and_eq_true] at c5
 rw [c5.1,c5.2,Bool.true_and,Bool.true_and] at eT
 refine ite_false rfl (aB (agE s t hs _ (hx.aG H4.mod)) ?_)
 rintro _ w5 ⟨rfl,m5⟩
 have H5:=H4.frame m5
 refine bu (H5.ax 0 rfl (au p 5) rfl ?_)
 cases c6:(decide (t.keys.length≤6) && lY t t.keys.length) with
 | false=>
  refine ite_true rfl (no H5.mod ?_)
  rw [eT]
  rcases Bool.and_eq_false_iff.1 c6 with h | h <;> rw [h] <;> simp
 | true=>
 rw [Bool.and_eq_true] at c6
 rw [c6.1,c6.2,Bool.true_and,Bool.true_and] at eT
 refine ite_false rfl (aB (ag7 s.gr t.aX hs.gf (by omega) _ (hx.gr.aG H5.mod)) ?_)
 rintro _ w6 ⟨rfl,m6⟩
 refine bu ?_
 cases c7:gh t.aX with
 | false=>exact ite_true rfl (no (H5.mod.trans m6) (by rw [eT,c7]; rfl))
 | true=>exact ite_false rfl (S8 _ (((m3.trans m4).trans m5).trans m6) (by rw [eT,c7]; rfl))
end Go.Proofs.YtgjoehgomjgckaaGreatDoor
end
section
set_option linter.unusedVariables false
set_option linter.unusedSimpArgs false
namespace Go.Ev
open Go Go.RowKit
set_option linter.unusedVariables false
theorem ak.cS {w0 w:World} {S:List Nat} {L L':List aE} (H:ak w0 S w L) (idx:List Nat) (hn:idx.Nodup) (h:idx.map (fun i=>L[i]?)=L'.map some):ak w0 S w L':=by
 have hl:idx.length=L'.length:=by have:=congrArg List.length h; simpa using this
 have key:∀ (k:Nat) (r:aE),L'[k]? = some r→∃ i,idx[k]? = some i∧L[i]? = some r:=fun k r hk=>by
  have fE:k<idx.length:=by rw [hl]; exact (List.getElem?_eq_some_iff.1 hk).1
  refine ⟨idx[k],List.getElem?_eq_getElem fE,?_⟩
  have:=congrArg (·[k]?) h
  simp only [List.getElem?_map,List.getElem?_eq_getElem fE,hk,Option.map_some] at this
  exact Option.some.inj this
 refine ⟨H.mod,fun k r hk=>?_,fun k r hk=>?_,fun j k r s lp hj hk=>?_⟩
 ·obtain ⟨i,_,hi⟩:=key k r hk
  exact H.ok i r hi
 ·obtain ⟨i,_,hi⟩:=key k r hk
  exact H.own i r hi
 ·obtain ⟨i,hi1,hi⟩:=key j r hj
  obtain ⟨i',aow,At⟩:=key k s hk
  refine H.apart i i' r s (fun e=>lp ?_) hi At
  subst e
  exact (List.getElem?_inj (List.getElem?_eq_some_iff.1 hi1).1 hn).1 (hi1.trans aow.symm)
theorem ak.amd {w0 w:World} {S:List Nat} {L:List aE} {te:TypeId} {sz:Nat} {y:ah} {vs:List Value} {fq:List Nat} {Q:World→Prop} (H:ak w0 S w (L ++ [.row te sz y vs,.box fq Q])):∃ fp,ak w0 S w (L ++ [.box fp fun w=>Own w 0 te sz y vs∧Q w]):=by
 have H2:=H.merge L.length (L.length+1) (t:=.box (y.row ++ fq) fun w=>Own w 0 te sz y vs∧Q w) zN SS (by omega) (fun h1 h2=>?_) (fun b hb=>List.mem_append.1 hb)
 ·refine ⟨y.row ++ fq,?_⟩
  have e:((L ++ [aE.row te sz y vs,aE.box fq Q]).set (L.length+1) aE.no).set L.length (.box (y.row ++ fq) fun w=>Own w 0 te sz y vs∧Q w)=(L ++ [.box (y.row ++ fq) fun w=>Own w 0 te sz y vs∧Q w]) ++ [aE.no]:=by
   rw [List.set_append_right _ _ (by omega),Nat.add_sub_cancel_left,List.set_append_right _ _ (Nat.le_refl _),Nat.sub_self,List.append_assoc]; rfl
  rw [e] at H2
  exact H2.front
 ·refine ⟨fun b hb=>?_,fun w2 h3=>⟨?_,h2.2 w2 fun b hb=>h3 b (List.mem_append_right _ hb)⟩⟩
  ·rcases List.mem_append.1 hb with h | h
   ·exact (Own.Er h1 b h).2
   ·exact h2.1 b h
  ·exact (aE.row te sz y vs).kC w w2 (fun b hb=>h3 b (List.mem_append_left _ hb)) h1
section
variable {A:Type} {C:A→ah→List Value} {sz:Nat} {E:World→ah→A→Prop} {te:TypeId} {w0 w w':World} {S:List Nat} {L M:List aE} {s:ah} {ls:List A} {xs ys:List ah} {i:Nat}
theorem A8 {A:Type} {l:List A} {i:Nat} {a:A} (h:l[i]? = some a):l.set i a=l:=by
 refine List.ext_getElem? fun k=>?_
 rw [List.getElem?_set]
 by_cases e:i=k
 ·subst e; rw [if_pos rfl,if_pos (List.getElem?_eq_some_iff.1 h).1,h]
 ·rw [if_neg e]
theorem ak.anN (H:ak w0 S w (L ++ .row te sz s (bq C ls (ys ++ xs.drop i)) :: M)) (hC:∀ a x,(C a x).length=sz) (hy:ys.length=i) (hx:xs.length=ls.length) {a:A} {x z:ah} (ha:ls[i]? = some a) (dy:xs[i]? = some x) {j:Nat} (hj:j<sz) (hz:C a z=(C a x).set j z.v) {K:World→Prop}
  (hk:∀ w2,ak w0 S w2 (L ++ .row te sz s (bq C ls (ys ++ z :: xs.drop (i+1))) :: M)→K w2):Ev.st (Addr.add (Addr.add (base s.a) (Int.toNat (i:Int) * sz)) j) (.slice z.a z.n z.c) w K:=by
 have hi:=(List.getElem?_eq_some_iff.1 ha).1
 have FT:(ys ++ xs.drop i).length=ls.length:=by rw [List.length_append,List.length_drop]; omega
 have SW:(ys ++ xs.drop i)[i]? = some x:=by rw [List.getElem?_append_right (by omega),hy,Nat.sub_self,List.getElem?_drop,Nat.add_zero]; exact dy
 have qF:(ys ++ xs.drop i).set i z=ys ++ z :: xs.drop (i+1):=by
  rw [List.set_append_right _ _ (by omega),hy,Nat.sub_self,List.drop_eq_getElem_cons (by omega),List.set_cons_zero]
 refine H.qz L.length (i:=i * sz+j) (v:=z.v) zN (by rw [add_add,Int.toNat_natCast]) ?_ rfl fun w2 H4=>hk w2 ?_
 ·rw [ir hC _ _ FT]
  have:=Nat.mul_le_mul_right sz (show i+1≤ls.length from hi)
  rw [Nat.succ_mul] at this
  omega
 ·rw [List.set_append_right _ _ (Nat.le_refl _),Nat.sub_self,List.set_cons_zero,s8 hC ls (ys ++ xs.drop i) i j a a x z z.v ha SW hj hz,qF,A8 ha] at H4
  exact H4
theorem fW.close (hy:ys.length=i) {a:A} {z:ah} (ha:ls[i]? = some a) {fp dU:List Nat} (H:ak w0 S w (L ++ [.row te sz s (bq C ls (ys ++ z :: xs.drop (i+1))),.box fp fun w=>bw E w ys (ls.take i),.box dU fun w=>E w z a])):fW C sz E te w0 S L w s ls xs (i+1):=by
 have Tx:ls.take (i+1)=ls.take i ++ [a]:=by rw [List.take_add_one,ha]; rfl
 have H2:=H.merge (L.length+1) (L.length+2) (t:=.box (fp ++ dU) fun w=>bw E w (ys ++ [z]) (ls.take (i+1))) SS aax (by omega) (fun h1 h2=>?_) (fun b hb=>List.mem_append.1 hb)
 ·have e:(((L ++ [aE.row te sz s (bq C ls (ys ++ z :: xs.drop (i+1))),aE.box fp fun w=>bw E w ys (ls.take i),aE.box dU fun w=>E w z a]).set (L.length+2) aE.no).set (L.length+1) (aE.box (fp ++ dU) fun w=>bw E w (ys ++ [z]) (ls.take (i+1)))) =
    (L ++ [aE.row te sz s (bq C ls (ys ++ z :: xs.drop (i+1))),aE.box (fp ++ dU) fun w=>bw E w (ys ++ [z]) (ls.take (i+1))]) ++ [aE.no]:=by
   rw [List.set_append_right _ _ (by omega),Nat.add_sub_cancel_left,List.set_append_right _ _ (by omega),Nat.add_sub_cancel_left,List.append_assoc]
   rfl
  rw [e] at H2
  refine ⟨ys ++ [z],fp ++ dU,by simp [hy],?_⟩
  have H3:=H2.front
  rw [show ys ++ z :: xs.drop (i+1)=(ys ++ [z]) ++ xs.drop (i+1) by simp] at H3
  exact H3
 ·refine ⟨fun b hb=>?_,fun w2 h3=>?_⟩
  ·rcases List.mem_append.1 hb with h | h
   ·exact h1.1 b h
   ·exact h2.1 b h
  ·rw [Tx]
   exact bw.snoc (h1.2 w2 fun b hb=>h3 b (List.mem_append_left _ hb)) (h2.2 w2 fun b hb=>h3 b (List.mem_append_right _ hb))
end
end Go.Ev
end
section
set_option linter.unusedVariables false
set_option linter.unusedSimpArgs false
namespace Go.Proofs.YtgjoehgomjgckaaGreatDoor
open Go Go.Ev
set_option maxRecDepth 20000
set_option linter.unusedVariables false
def iY (w:World) (x:ah) (p:cw):Prop:=Own w 0 bh 1 x (bn p.key)
def gq (w:World) (x:ah) (k:aR):Prop:=j0 w x k.aH
def iW (s:eu) (t:aS) (ys zs:List ah) (fp fq:List Nat):List aE:=
 [.row bh 1 s.sec (bn t.bN),.row dF 3 s.ten (gR t.bI),.row cJ 6 s.gr (dY t.aX),.row dJ 5 s.aC (bq cw.cs t.aC ys),.box fp fun w=>bw iY w ys t.aC,.row aV 4 s.key (bq aR.cs t.keys zs),.box fq fun w=>bw gq w zs t.keys]
theorem XK {w:World} {ys:List ah} {l:List cw} (h:bw iY w ys l):bw yl w ys l:=⟨h.1,fun i x v hx hv=>Own.bytes (h.2 i x v hx hv)⟩
theorem XL {w:World} {ys:List ah} {l:List aR} (h:bw gq w ys l):bw AH w ys l:=⟨h.1,fun i x v hx hv=>(h.2 i x v hx hv).aH⟩
theorem o8 {w0 w:World} {S:List Nat} {L:List aE} {s:eu} {t:aS} {ys zs:List ah} {fp fq:List Nat} (H:ak w0 S w (L ++ iW s t ys zs fp fq)):iN w s t:=by
 have H:=H.drop L.length
 rw [List.drop_left] at H
 exact ⟨Own.bytes (H.qE 0 rfl),fo.of (H.fI 1 rfl),⟨ys,H.fI 3 rfl,XK (H.box 4 rfl)⟩,⟨zs,H.fI 5 rfl,XL (H.box 6 rfl)⟩,H.fI 2 rfl⟩
theorem YQ (p:cw) (x z:ah):p.cs z=(p.cs x).set 2 z.v:=rfl
theorem alg (k:aR) (x z:ah):k.cs z=(k.cs x).set 3 z.v:=rfl
theorem Nr (s:eu) (t:aS) (hs:t.small) (w:World) (hx:iN w s t):Ok Pr Dw [.agg ⟨t.cs s⟩] w fun r w'=>∃ s' ys zs fp fq,r=.agg ⟨t.cs s'⟩∧ak w [] w' (iW s' t ys zs fp fq):=by
 refine aeL ?_
 unfold N9
 rw [th]
 have CR:=hs.sec
 have AI:=hs.ten
 have CU:=hs.aC
 have yp:=hs.key
 have CV:=hs.gr
 have F4:=hs.pk
 have T4:=hs.br
 have gl:=hs.aq
 obtain ⟨h1,h2,⟨xs,h3,nU⟩,⟨us,h4,mJ⟩,h5⟩:=hx
 have TX:=h1.len
 refine (ak.start w).nw fun p w1 H _=>H.nw fun p1 w2 H _=>?_
 have H:ak w [] w2 [.av p (t.cs s) aN,.av p1 (kY 0 ⟨none,0,0⟩ ⟨none,0,0⟩ ⟨none,0,0⟩ ⟨none,0,0⟩ ⟨none,0,0⟩) aN]:=H
 have H:=H.drew
 refine H.ax 0 rfl (au p 1) rfl (H.ax 0 rfl (au p 2) rfl (H.ax 0 rfl (au p 3) rfl (H.ax 0 rfl (au p 4) rfl (H.ax 0 rfl (au p 5) rfl (aB (C4 s.sec t.bN CR _ (h1.aG H.mod)) ?_)))))
 rintro _ w3 ⟨y1,rfl,sy,m3⟩
 have H3:=H.cB m3 sy
 refine bW ⟨H.kept m3 0 rfl (au p 5) 1,H.kept m3 0 rfl (au p 4) 1,H.kept m3 0 rfl (au p 3) 1,H.kept m3 0 rfl (au p 2) 1,aB (UA s.ten t.bI (by omega) _ (h2.aG H3.mod)) ?_⟩
 rintro _ w4 ⟨y2,rfl,sA,_,m4⟩
 have H4:=H3.cB m4 sA
 refine bW ⟨H3.kept m4 0 rfl (au p 5) 1,H3.kept m4 0 rfl (au p 4) 1,H3.kept m4 0 rfl (au p 3) 1,aB (acT s.aC t.aC xs nU.1 (by omega) _ (h3.aG H4.mod)) ?_⟩
 rintro _ w5 ⟨y3,rfl,F7,Av,m5⟩
 have H5:=H4.cB m5 F7
 refine bW ⟨H4.kept m5 0 rfl (au p 5) 1,H4.kept m5 0 rfl (au p 4) 1,aB (acU s.key t.keys us mJ.1 (by omega) _ (h4.aG H5.mod)) ?_⟩
 rintro _ w6 ⟨y4,rfl,TN,FU,m6⟩
 have H6:=H5.cB m6 TN
 refine bW ⟨H5.kept m6 0 rfl (au p 5) 1,aB (GX s.gr t.aX (by omega) _ (h5.aG H6.mod)) ?_⟩
 rintro _ w7 ⟨y5,rfl,F8,hn5,m7⟩
 have H7:=H6.cB m7 F8
 refine bW ?_
 refine H7.st 0 rfl (au p 1) (by show 1<6; omega) rfl fun w8 H8=>H8.st 0 rfl (au p 2) (by show 2<6; omega) rfl fun w9 H9=>H9.st 0 rfl (au p 3) (by show 3<6; omega) rfl fun cL J0=>J0.st 0 rfl (au p 4) (by show 4<6; omega) rfl fun cX J1=>J1.st 0 rfl (au p 5) (by show 5<6; omega) rfl fun fR J6=>?_
 have H:ak w [] fR [.av p (t.cs ⟨y1,y2,y3,y4,y5⟩) aN,.av p1 (kY 0 ⟨none,0,0⟩ ⟨none,0,0⟩ ⟨none,0,0⟩ ⟨none,0,0⟩ ⟨none,0,0⟩) aN,.row bh 1 y1 (bn t.bN),.row dF 3 y2 (gR t.bI),.row dJ 5 y3 (bq cw.cs t.aC xs),.row aV 4 y4 (bq aR.cs t.keys us),.row cJ 6 y5 (dY t.aX)]:=J6
 have CP:=(H.fI 4 rfl).len
 rw [ir cw.ct _ _ nU.1] at CP
 have Az:=(H.fI 5 rfl).len
 rw [ir aR.ct _ _ mJ.1] at Az
 have e3:t.aC.length=y3.n:=by omega
 have e4:t.keys.length=y4.n:=by omega
 have H:=H.cS (L':=[.av p (t.cs ⟨y1,y2,y3,y4,y5⟩) aN,.av p1 (kY 0 ⟨none,0,0⟩ ⟨none,0,0⟩ ⟨none,0,0⟩ ⟨none,0,0⟩ ⟨none,0,0⟩) aN,.row bh 1 y1 (bn t.bN),.row dF 3 y2 (gR t.bI),.row cJ 6 y5 (dY t.aX),.row aV 4 y4 (bq aR.cs t.keys us)] ++ [.row dJ 5 y3 (bq cw.cs t.aC xs)]) [0,1,2,3,6,5,4] (by decide) rfl
 refine H.ax 0 rfl (au p 3) rfl ?_
 refine cZ 0 t.aC.length (fun i w'=>fW cw.cs 5 iY dJ w [] [.av p (t.cs ⟨y1,y2,y3,y4,y5⟩) aN,.av p1 (kY 0 ⟨none,0,0⟩ ⟨none,0,0⟩ ⟨none,0,0⟩ ⟨none,0,0⟩ ⟨none,0,0⟩) aN,.row bh 1 y1 (bn t.bN),.row dF 3 y2 (gR t.bI),.row cJ 6 y5 (dY t.aX),.row aV 4 y4 (bq aR.cs t.keys us)] w' y3 t.aC xs i) rfl (by omega) (fW.start H) ?_ ?_
 ·intro again i fF _ hi R aM
  have R:=R.frame (Mod.drew [] fF)
  have ha:t.aC[i]? = some t.aC[i]:=List.getElem?_eq_getElem hi
  have dy:xs[i]? = some (xs[i]'(by rw [nU.1]; exact hi)):=List.getElem?_eq_getElem _
  have gl:=F4 _ (List.getElem_mem hi)
  have sJ:=nU.2 i _ _ dy ha
  obtain ⟨dh,hc⟩:=R.at cw.ct (by omega) nU.1 ha dy
  generalize t.aC[i]=v at *
  generalize xs[i]'(by rw [nU.1]; exact hi)=z at *
  have F:=R.front
  refine ite_true (decide_eq_true (show (i:Int)<(y3.n:Int) by omega)) (F.ax 0 rfl (au p 3) rfl (F.ax 0 rfl (au p 3) rfl ⟨dh,z,hc 2 z.v rfl,aB (C4 z v.key gl _ (Bytes.aG sJ F.mod)) ?_⟩))
  rintro _ fX xZ
  obtain ⟨u,rfl,hu⟩:=xZ.S7
  exact bW ⟨F.kept hu.mod 0 rfl (au p 3) 1,dh,R.step cw.ct nU.1 ha dy (hu:fJ _ _ fun w=>iY w u v) (by omega:2<5) (YQ v z u) fun kH R=>⟨⟨by omega,by omega⟩,aM kH R⟩⟩
 ·intro again fF R
  obtain ⟨ys,fp,H⟩:=R.done rfl nU.1
  have H:=H.cS (L':=[.av p (t.cs ⟨y1,y2,y3,y4,y5⟩) aN,.av p1 (kY 0 ⟨none,0,0⟩ ⟨none,0,0⟩ ⟨none,0,0⟩ ⟨none,0,0⟩ ⟨none,0,0⟩) aN,.row bh 1 y1 (bn t.bN),.row dF 3 y2 (gR t.bI),.row cJ 6 y5 (dY t.aX),.row dJ 5 y3 (bq cw.cs t.aC ys),.box fp fun w=>bw iY w ys t.aC] ++ [.row aV 4 y4 (bq aR.cs t.keys us)]) [0,1,2,3,4,6,7,5] (by decide) rfl
  refine ite_false (decide_eq_false (by show ¬ ((t.aC.length:Int)<(y3.n:Int)); omega)) (H.ax 0 rfl (au p 4) rfl ?_)
  obtain ⟨L,hL⟩:∃ L,L=[aE.av p (t.cs ⟨y1,y2,y3,y4,y5⟩) aN,.av p1 (kY 0 ⟨none,0,0⟩ ⟨none,0,0⟩ ⟨none,0,0⟩ ⟨none,0,0⟩ ⟨none,0,0⟩) aN,.row bh 1 y1 (bn t.bN),.row dF 3 y2 (gR t.bI),.row cJ 6 y5 (dY t.aX),.row dJ 5 y3 (bq cw.cs t.aC ys),.box fp fun w=>bw iY w ys t.aC]:=⟨_,rfl⟩
  rw [← hL] at H
  have gS:L[0]? = some (.av p (t.cs ⟨y1,y2,y3,y4,y5⟩) aN):=by rw [hL]; rfl
  refine cZ 0 t.keys.length (fun i w'=>fW aR.cs 4 gq aV w [] L w' y4 t.keys us i) rfl (by omega) (fW.start H) ?_ ?_
  ·intro again i kJ _ hi R aM
   have ha:t.keys[i]? = some t.keys[i]:=List.getElem?_eq_getElem hi
   have dy:us[i]? = some (us[i]'(by rw [mJ.1]; exact hi)):=List.getElem?_eq_getElem _
   have hv1:=T4 _ (List.getElem_mem hi)
   have T5:=gl _ (List.getElem_mem hi)
   have sJ:=mJ.2 i _ _ dy ha
   obtain ⟨dh,hc⟩:=R.at aR.ct (by omega) mJ.1 ha dy
   generalize t.keys[i]=k at *
   generalize us[i]'(by rw [mJ.1]; exact hi)=z at *
   have F:=R.front
   obtain ⟨vs,vN,yq⟩:=sJ
   refine ite_true (decide_eq_true (show (i:Int)<(y4.n:Int) by omega)) (F.ax 0 gS (au p 4) rfl ⟨dh,z,hc 3 z.v rfl,aB (Uz z k.aH vs yq.1 (by omega) _ (vN.aG F.mod)) ?_⟩)
   rintro _ sB ⟨u,rfl,hu,FV,TT⟩
   have jE:=(Own.sl hu).len
   rw [ir bp.ct _ _ yq.1] at jE
   have arx:k.aH.length=u.n:=by omega
   obtain ⟨qs,fq,hq,D⟩:=R
   have D:=D.cB TT hu
   rw [List.append_assoc] at D
   refine bW (D.anN aR.ct hq mJ.1 ha dy (by omega:3<4) (alg k z u) fun j8 D=>?_)
   have D:ak w [] j8 ((L ++ [.row aV 4 y4 (bq aR.cs t.keys (qs ++ u :: us.drop (i+1))),.box fq fun w=>bw gq w qs (t.keys.take i)]) ++ [.row cI 4 u (bq bp.cs k.aH vs)]):=by rw [List.append_assoc]; exact D
   have hqu:(qs ++ u :: us.drop (i+1))[i]? = some u:=by rw [List.getElem?_append_right (by omega),hq,Nat.sub_self]; rfl
   have cell:∀ {w2:World},ak w [] w2 (L ++ [.row aV 4 y4 (bq aR.cs t.keys (qs ++ u :: us.drop (i+1))),.box fq fun w=>bw gq w qs (t.keys.take i)])→w2.cell? (Addr.add (Addr.add (base y4.a) (Int.toNat (i:Int) * 4)) 3)=some u.v:=fun G=>by
    rw [Int.toNat_natCast]
    exact (G.fI L.length zN).uX aR.ct ha hqu (j:=3) rfl
   refine ⟨u,cell D.front,?_⟩
   refine cZ 0 k.aH.length (fun n w'=>fW bp.cs 4 iz cI w [] (L ++ [.row aV 4 y4 (bq aR.cs t.keys (qs ++ u :: us.drop (i+1))),.box fq fun w=>bw gq w qs (t.keys.take i)]) w' u k.aH vs n) rfl (by omega) (fW.start D) ?_ ?_
   ·intro zx n qS _ hn R2 Fl
    have R2:=R2.frame (Mod.drew [] qS)
    have hb:k.aH[n]? = some k.aH[n]:=List.getElem?_eq_getElem hn
    have T6:vs[n]? = some (vs[n]'(by rw [yq.1]; exact hn)):=List.getElem?_eq_getElem _
    have CR:=T5 _ (List.getElem_mem hn)
    have oK:=yq.2 n _ _ T6 hb
    obtain ⟨Jv,hc2⟩:=R2.at bp.ct (by omega) yq.1 hb T6
    generalize k.aH[n]=v at *
    generalize vs[n]'(by rw [yq.1]; exact hn)=x at *
    have F2:=R2.front
    refine ite_true (decide_eq_true (by omega)) ⟨u,cell F2,u,cell F2,Jv,x,hc2 3 x.v rfl,aB (C4 x v.aq CR _ (Bytes.aG oK F2.mod)) ?_⟩
    rintro _ AB h20
    obtain ⟨y,rfl,hy⟩:=h20.S7
    exact bW ⟨yY hy.mod (cell F2),Jv,R2.step bp.ct yq.1 hb T6 (hy:fJ _ _ fun w=>iz w y v) (by omega:3<4) (Re v x y) fun Gm R2=>⟨⟨by omega,by omega⟩,Fl Gm R2⟩⟩
   ·intro zx qS R2
    obtain ⟨zs,f2,G⟩:=R2.done rfl yq.1
    obtain ⟨f3,G⟩:=G.amd
    have G:=G.Rv (Q':=fun w=>gq w u k) (L ++ [aE.row aV 4 y4 (bq aR.cs t.keys (qs ++ u :: us.drop (i+1))),.box fq fun w=>bw gq w qs (t.keys.take i)]).length zN fun w h=>⟨zs,h.1,h.2⟩
    rw [List.set_append_right _ _ (Nat.le_refl _),Nat.sub_self,List.set_cons_zero,List.append_assoc] at G
    exact ite_false (decide_eq_false (by omega)) ⟨⟨by omega,by omega⟩,aM _ (fW.close hq ha G)⟩
  ·intro again kJ R
   obtain ⟨zs,fq,H⟩:=R.done rfl mJ.1
   subst hL
   refine ite_false (decide_eq_false (show ¬ ((t.keys.length:Int)<(y4.n:Int)) by omega)) (H.bT 0 rfl (H.bM 1 rfl rfl fun sB H=>H.bT 1 rfl ?_))
   exact ⟨⟨y1,y2,y3,y4,y5⟩,ys,zs,fp,fq,rfl,H.drop 2⟩
end Go.Proofs.YtgjoehgomjgckaaGreatDoor
end
section
set_option linter.unusedVariables false
set_option linter.unusedSimpArgs false
namespace Go.Ev
open Go Go.RowKit
set_option linter.unusedVariables false
def ov (vs:List Value) (p:Nat) (l:List Value):List Value:=vs.take p ++ (l ++ vs.drop (p+l.length))
theorem ZI (vs:List Value) (p:Nat):ov vs p []=vs:=by unfold ov; simp
theorem YS (vs:List Value) (p:Nat) (v:Value) (l:List Value) (h:p<vs.length):ov (vs.set p v) (p+1) l=ov vs p (v :: l):=by
 unfold ov
 rw [List.length_cons,List.drop_set_of_lt (by omega),show p+(l.length+1)=p+1+l.length by omega,List.take_set,List.take_add_one,List.getElem?_eq_getElem h,List.set_append_right _ _ (by rw [List.length_take]; omega),List.length_take,Nat.min_eq_left (by omega),Nat.sub_self]
 simp
theorem ak.o5 {w0:World} {S:List Nat} {k:Nat} {e:TypeId} {sz:Nat} {s:ah} {o:Nat} {K:World→Prop}:∀ (l:List Value) {i:Nat} {vs:List Value} {L:List aE} {w:World},ak w0 S w L→L[k]? = some (.row e sz s vs)→o+i+l.length≤vs.length→(∀ v∈l,ek v=true)→
  (∀ w',ak w0 S w' (L.set k (.row e sz s (ov vs (o+i) l)))→K w')→Ev.o5 l (Addr.add (base s.a) o) i w K
 | [],i,vs,L,w,H,hk,hl,h1,h=>by
  refine h w ?_
  rw [ZI,A8 hk]
  exact H
 | v :: r,i,vs,L,w,H,hk,hl,h1,h=>by
  rw [List.length_cons] at hl
  refine H.qz k (i:=o+i) hk (by rw [add_add]) (by omega) (h1 v (List.mem_cons_self ..)) fun w1 H1=>?_
  have bO:k<L.length:=(List.getElem?_eq_some_iff.1 hk).1
  refine ak.o5 r H1 (by rw [List.getElem?_set,if_pos rfl,if_pos bO]) (by rw [List.length_set]; omega) (fun u hu=>h1 u (List.mem_cons_of_mem _ hu)) fun w' H'=>h w' ?_
  rw [List.set_set,show o+(i+1)=o+i+1 by omega,YS _ _ _ _ (by omega)] at H'
  exact H'
section
variable {A:Type} {C:A→ah→List Value} {sz:Nat} {te:TypeId} {w0 w:World} {S:List Nat} {L:List aE} {s:ah} {ls:List A} {xs:List ah} {i:Nat}
theorem WY {a:A} {x:ah} (hx:xs.length=ls.length) (ha:ls[i]? = some a) (dy:xs[i]? = some x):bq C ls xs=bq C (ls.take i) (xs.take i) ++ (C a x ++ bq C (ls.drop (i+1)) (xs.drop (i+1))):=by
 have hi:=(List.getElem?_eq_some_iff.1 ha).1
 have h1:=yQ (C:=C) (ls.take i) (xs.take i) (by simp [hx]) (ls.drop i) (xs.drop i)
 rw [List.take_append_drop,List.take_append_drop] at h1
 rw [h1,List.drop_eq_getElem_cons hi,List.drop_eq_getElem_cons (show i<xs.length by omega),rq]
 congr 3
 ·exact Option.some.inj ((List.getElem?_eq_getElem hi).symm.trans ha)
 ·exact Option.some.inj ((List.getElem?_eq_getElem (by omega)).symm.trans dy)
theorem ame (hC:∀ a x,(C a x).length=sz) (hx:xs.length=ls.length) (hi:i<ls.length) (a':A) (x':ah):ov (bq C ls xs) (i * sz) (C a' x')=bq C (ls.set i a') (xs.set i x'):=by
 obtain ⟨a,ha⟩:∃ a,ls[i]? = some a:=⟨_,List.getElem?_eq_getElem hi⟩
 obtain ⟨x,dy⟩:∃ x,xs[i]? = some x:=⟨_,List.getElem?_eq_getElem (by omega)⟩
 have e2:=WY (C:=C) (ls:=ls.set i a') (xs:=xs.set i x') (i:=i) (a:=a') (x:=x') (by simp [hx]) (by rw [List.getElem?_set,if_pos rfl,if_pos hi]) (by rw [List.getElem?_set,if_pos rfl,if_pos (by omega)])
 rw [List.take_set_of_le (Nat.le_refl _),List.take_set_of_le (Nat.le_refl _),List.drop_set_of_lt (by omega),List.drop_set_of_lt (by omega)] at e2
 have hl:(bq C (ls.take i) (xs.take i)).length=i * sz:=by
  rw [ir hC _ _ (by simp [hx]),List.length_take,Nat.min_eq_left (by omega)]
 rw [e2]
 unfold ov
 rw [WY hx ha dy,List.take_append_of_le_length (by omega),List.take_of_length_le (by omega),List.drop_append,List.drop_of_length_le (by omega),List.nil_append,hl,hC,Nat.add_sub_cancel_left,List.drop_append,List.drop_of_length_le (by rw [hC]; omega),hC,Nat.sub_self]
 rfl
theorem ak.putAt (H:ak w0 S w L) (k:Nat) (hk:L[k]? = some (.row te sz s (bq C ls xs))) (hC:∀ a x,(C a x).length=sz) (hx:xs.length=ls.length) (hi:i<ls.length) (a':A) (x':ah) (h1:∀ v∈C a' x',ek v=true) {K:World→Prop}
  (h:∀ w',ak w0 S w' (L.set k (.row te sz s (bq C (ls.set i a') (xs.set i x'))))→K w'):Ev.o5 (C a' x') (Addr.add (base s.a) (Int.toNat (i:Int) * sz)) 0 w K:=by
 rw [Int.toNat_natCast]
 refine ak.o5 (C a' x') H hk ?_ h1 fun w' H'=>h w' ?_
 ·rw [ir hC _ _ hx,hC]
  have:=Nat.mul_le_mul_right sz (show i+1≤ls.length from hi)
  rw [Nat.succ_mul] at this
  omega
 ·rw [Nat.add_zero,ame hC hx hi] at H'
  exact H'
end
end Go.Ev
end
section
set_option linter.unusedVariables false
set_option linter.unusedSimpArgs false
namespace Go.Proofs.YtgjoehgomjgckaaGreatDoor
open Go Go.Ev
set_option maxRecDepth 20000
set_option linter.unusedVariables false
theorem agF (s:eu) (t:aS) (hs:t.small) (w:World) (hx:iN w s t):Ok Pr NA [.agg ⟨t.cs s⟩] w fun r w'=>∃ s' ys zs fp fq,r=.agg ⟨t.cs s'⟩∧ak w [] w' (iW s' t ys zs fp fq):=by
 refine aeK ?_
 unfold N8
 rw [th]
 have CR:=hs.sec
 have AI:=hs.ten
 have CU:=hs.aC
 have yp:=hs.key
 have CV:=hs.gr
 have F4:=hs.pk
 have T4:=hs.br
 have gl:=hs.aq
 have CP:=hx.aC.len
 have Az:=hx.key.len
 obtain ⟨h1,h2,⟨xs,h3,nU⟩,⟨us,h4,mJ⟩,h5⟩:=hx
 have TX:=h1.len
 have wo:=(fo.len h2)
 have Kq:=gQ.len h5
 refine (ak.start w).nw fun p w1 H _=>H.nw fun p1 w2 H _=>?_
 have H:ak w [] w2 [.av p (t.cs s) aN,.av p1 (kY 0 ⟨none,0,0⟩ ⟨none,0,0⟩ ⟨none,0,0⟩ ⟨none,0,0⟩ ⟨none,0,0⟩) aN]:=H
 refine H.ax 0 rfl (au p 1) rfl (H.RK iJ (h1.aG H.mod) (by omega) fun y1 w3 H _=>H.st 0 rfl (au p 1) (by show 1<6; omega) rfl fun w4 H=>H.ax 0 rfl (au p 2) rfl ?_)
 refine H.clone Rx ((fo.sl h2).aG H.mod) (uP (C:=ck.cs) (fun a x v hv=>ck.lW a x v hv) _ _) (by show s.ten.n * 32≤_; omega) (by show s.ten.n≤_; omega) fun y2 w5 H _=>H.st 0 rfl (au p 2) (by show 2<6; omega) rfl fun w6 H=>H.ax 0 rfl (au p 3) rfl ?_
 refine H.clone Rz (h3.aG H.mod) (uP cw.lW _ _) (by show s.aC.n * 56≤_; omega) (by show s.aC.n≤_; omega) fun y3 w7 H Av=>H.st 0 rfl (au p 3) (by show 3<6; omega) rfl fun w8 H=>?_
 have H:ak w [] w8 ([.av p (t.cs ⟨y1,y2,y3,s.key,s.gr⟩) aN,.av p1 (kY 0 ⟨none,0,0⟩ ⟨none,0,0⟩ ⟨none,0,0⟩ ⟨none,0,0⟩ ⟨none,0,0⟩) aN,.row bh 1 y1 (bn t.bN),.row dF 3 y2 (gR t.bI)] ++ [.row dJ 5 y3 (bq cw.cs t.aC xs)]):=H
 have e3:t.aC.length=y3.n:=by rw [Av]; exact CP
 refine cZ 0 t.aC.length (fun i w'=>fW cw.cs 5 iY dJ w [] [.av p (t.cs ⟨y1,y2,y3,s.key,s.gr⟩) aN,.av p1 (kY 0 ⟨none,0,0⟩ ⟨none,0,0⟩ ⟨none,0,0⟩ ⟨none,0,0⟩ ⟨none,0,0⟩) aN,.row bh 1 y1 (bn t.bN),.row dF 3 y2 (gR t.bI)] w' y3 t.aC xs i) rfl (by omega) (fW.start H) ?_ ?_
 ·intro again i fF _ hi R aM
  have F0:=R.front
  have R:=R.frame (Mod.drew [] fF)
  have ha:t.aC[i]? = some t.aC[i]:=List.getElem?_eq_getElem hi
  have dy:xs[i]? = some (xs[i]'(by rw [nU.1]; exact hi)):=List.getElem?_eq_getElem _
  have gl:=F4 _ (List.getElem_mem hi)
  have sJ:=nU.2 i _ _ dy ha
  obtain ⟨dh,hc⟩:=R.at cw.ct (by omega) nU.1 ha dy
  generalize t.aC[i]=v at *
  generalize xs[i]'(by rw [nU.1]; exact hi)=z at *
  have F:=R.front
  have hb:Bytes fF.drew z v.key:=Bytes.aG sJ F.mod
  have pZ:=Bytes.len hb
  refine F0.ax 0 rfl (au p 3) rfl (ite_true (decide_eq_true (show (i:Int)<(y3.n:Int) by omega)) (F.ax 0 rfl (au p 3) rfl (F.ax 0 rfl (au p 3) rfl ⟨dh,z,hc 2 z.v rfl,(ak.start fF.drew).RK iJ hb (by omega) fun u fX U _=>?_⟩)))
  have hu:fJ fF.drew fX fun w=>iY w u v:=U.boxed fun w' h=>h 0 _ rfl
  exact ⟨F.kept hu.mod 0 rfl (au p 3) 1,dh,R.step cw.ct nU.1 ha dy hu (by omega:2<5) (YQ v z u) fun kH R=>⟨⟨by omega,by omega⟩,aM kH R⟩⟩
 ·intro again fF R
  have F0:=R.front
  obtain ⟨ys,fp,H⟩:=R.done rfl nU.1
  refine F0.ax 0 rfl (au p 3) rfl (ite_false (decide_eq_false (show ¬ ((t.aC.length:Int)<(y3.n:Int)) by omega)) (H.ax 0 rfl (au p 4) rfl ?_))
  refine H.clone RA (h4.aG H.mod) (uP aR.lW _ _) (by show s.key.n * 48≤_; omega) (by show s.key.n≤_; omega) fun y4 fX H FU=>H.st 0 rfl (au p 4) (by show 4<6; omega) rfl fun kH H=>?_
  have e4:t.keys.length=y4.n:=by rw [FU]; exact Az
  obtain ⟨L,hL⟩:∃ L,L=[aE.av p (t.cs ⟨y1,y2,y3,y4,s.gr⟩) aN,.av p1 (kY 0 ⟨none,0,0⟩ ⟨none,0,0⟩ ⟨none,0,0⟩ ⟨none,0,0⟩ ⟨none,0,0⟩) aN,.row bh 1 y1 (bn t.bN),.row dF 3 y2 (gR t.bI),.row dJ 5 y3 (bq cw.cs t.aC ys),.box fp fun w=>bw iY w ys t.aC]:=⟨_,rfl⟩
  have H:ak w [] kH (L ++ [.row aV 4 y4 (bq aR.cs t.keys us)]):=by rw [hL]; exact H
  have gS:L[0]? = some (.av p (t.cs ⟨y1,y2,y3,y4,s.gr⟩) aN):=by rw [hL]; rfl
  refine cZ 0 t.keys.length (fun i w'=>fW aR.cs 4 gq aV w [] L w' y4 t.keys us i) rfl (by omega) (fW.start H) ?_ ?_
  ·intro again i kJ _ hi R aM
   have F0:=R.front
   have R:=R.frame (Mod.drew [] kJ)
   have ha:t.keys[i]? = some t.keys[i]:=List.getElem?_eq_getElem hi
   have dy:us[i]? = some (us[i]'(by rw [mJ.1]; exact hi)):=List.getElem?_eq_getElem _
   have hv1:=T4 _ (List.getElem_mem hi)
   have T5:=gl _ (List.getElem_mem hi)
   have sJ:=mJ.2 i _ _ dy ha
   obtain ⟨dh,hc⟩:=R.at aR.ct (by omega) mJ.1 ha dy
   have qF:t.keys.set i t.keys[i]=t.keys:=A8 ha
   generalize t.keys[i]=k at *
   generalize us[i]'(by rw [mJ.1]; exact hi)=z at *
   have F:=R.front
   refine F0.ax 0 gS (au p 4) rfl (ite_true (decide_eq_true (show (i:Int)<(y4.n:Int) by omega)) (F.ax 0 gS (au p 4) rfl (F.ax 0 gS (au p 4) rfl ⟨dh,qo hc (aB (agD k z hv1 T5 _ (fO.aG sJ F.mod)) ?_)⟩)))
   rintro _ sB ⟨u,rfl,hu⟩
   have Gk:=hu.box
   obtain ⟨qs,fq,hq,D⟩:=R
   obtain ⟨f2,D⟩:=D.iu Gk
   refine nZ ⟨yY Gk.mod (F.cell 0 gS (au p 4) rfl),dh,?_⟩
   have FT:(qs ++ us.drop i).length=t.keys.length:=by rw [List.length_append,List.length_drop,mJ.1]; omega
   have Ks:(qs ++ us.drop i).set i u=qs ++ u :: us.drop (i+1):=by
    rw [List.set_append_right _ _ (by omega),hq,Nat.sub_self,List.drop_eq_getElem_cons (by rw [mJ.1]; exact hi),List.set_cons_zero]
   rw [List.append_assoc] at D
   show o5 (k.cs u) _ 0 _ _
   refine D.putAt L.length zN aR.ct FT hi k u (aR.lW k u) fun j8 D=>⟨⟨by omega,by omega⟩,aM _ (fW.close (z:=u) hq ha (fp:=fq) (dU:=f2) ?_)⟩
   rw [List.set_append_right _ _ (Nat.le_refl _),Nat.sub_self,qF,Ks] at D
   exact D
  ·intro again kJ R
   have F0:=R.front
   obtain ⟨zs,fq,H⟩:=R.done rfl mJ.1
   subst hL
   refine F0.ax 0 rfl (au p 4) rfl (ite_false (decide_eq_false (show ¬ ((t.keys.length:Int)<(y4.n:Int)) by omega)) (H.ax 0 rfl (au p 5) rfl ?_))
   refine H.clone RU (h5.aG H.mod) (Rc _) (by show s.gr.n * 48≤_; omega) (by show s.gr.n≤_; omega) fun y5 sB H _=>H.st 0 rfl (au p 5) (by show 5<6; omega) rfl fun j8 H=>?_
   refine H.bT 0 rfl (H.bM 1 rfl rfl fun qS H=>H.bT 1 rfl ?_)
   refine ⟨⟨y1,y2,y3,y4,y5⟩,ys,zs,fp,fq,rfl,?_⟩
   exact H.cS [2,3,8,4,5,6,7] (by decide) rfl
end Go.Proofs.YtgjoehgomjgckaaGreatDoor
end
section
set_option linter.unusedVariables false
set_option linter.unusedSimpArgs false
namespace Go.Proofs.YtgjoehgomjgckaaGreatDoor
open Go Go.Ev
set_option maxRecDepth 20000
set_option linter.unusedVariables false
def sZ:eu:=⟨⟨none,0,0⟩,⟨none,0,0⟩,⟨none,0,0⟩,⟨none,0,0⟩,⟨none,0,0⟩⟩
def gH:aS:=⟨0,[],[],[],[],[]⟩
theorem ak.ZJ {w0 w:World} {S:List Nat} {L:List aE} (H:ak w0 S w L) {Q:World→Prop} (h:∀ w,Q w):ak w0 S w (L ++ [.box [] Q]):=
 H.push (Mod.refl [] w) ⟨fun b hb=>(by cases hb),fun w' _=>h w'⟩ (fun b hb=>(by cases hb))
theorem Rg {w0 w:World} {S:List Nat} {L:List aE} (H:ak w0 S w L):ak w0 S w (L ++ iW sZ gH [] [] [] []):=by
 have H:=H.jk bh 1
 have H:=H.jk dF 3
 have H:=H.jk cJ 6
 have H:=H.jk dJ 5
 have H:=ak.ZJ H (Q:=fun w=>bw iY w [] ([]:List cw)) fun w=>⟨rfl,fun i x l h=>by simp at h⟩
 have H:=H.jk aV 4
 have H:=ak.ZJ H (Q:=fun w=>bw gq w [] ([]:List aR)) fun w=>⟨rfl,fun i x l h=>by simp at h⟩
 simp only [List.append_assoc,List.cons_append,List.nil_append] at H
 exact H
def kQ (name:ByteArray) (vk sec:List B8):aS:=⟨0,sec,[⟨1,0,name⟩],[⟨1,1,vk,0,0⟩],[],[]⟩
theorem Qs {name:ByteArray} {vk sec:List B8} (h1:vk.length≤1000000) (h2:sec.length≤1000000):(kQ name vk sec).small where
 sec:=h2
 ten:=by show 1≤1000; omega
 aC:=by show 1≤1000; omega
 key:=by show 0≤1000; omega
 gr:=by show 0≤1000; omega
 pk:=fun p hp=>by rw [List.mem_singleton.1 hp]; exact h1
 br:=fun k hk=>by cases hk
 aq:=fun k hk=>by cases hk
 gf:=fun k hk=>by cases hk
theorem amf {w:World} {name:ByteArray} {vk sec:List B8} {x y:ah} {p q:Nat} (hx:Bytes w x vk) (hy:Bytes w y sec) (hp:bX w p (ku 1 0 name) dF) (hq:bX w q (lE 1 1 x 0 0) dJ):iN w ⟨y,⟨some ⟨p,0,none⟩,1,1⟩,⟨some ⟨q,0,none⟩,1,1⟩,⟨none,0,0⟩,⟨none,0,0⟩⟩ (kQ name vk sec) where
 sec:=hy
 ten:=fo.of (by
  have:=hp.sl 3 1 1 (by simp) (by omega)
  simpa [gR,bq,kQ,ck.cs,ku] using this)
 aC:=⟨[x],by
  have:=hq.sl 5 1 1 (by simp) (by omega)
  rw [show (kQ name vk sec).aC=[⟨1,1,vk,0,0⟩] from rfl,wW]
  simpa [cw.cs,lE] using this,rfl,fun i u l h1 h2=>by
   cases i with
   | zero=>
    simp only [List.getElem?_cons_zero,Option.some.injEq,kQ] at h1 h2
    subst h1 h2; exact hx
   | succ i=>simp [kQ] at h2⟩
 key:=Dv.nil w
 gr:=gQ.nil w
def Gn (name:ByteArray) (vk sec:List B8):aS:=if fC (kQ name vk sec)=true then kQ name vk sec else gH
def T7 (name:ByteArray) (vk sec:List B8):Int:=if fC (kQ name vk sec)=true then 0 else 2
def aaG (w w':World) (v:Value) (t:aS) (rest:List Value) (M:List aE):Prop:=∃ s ys zs fp fq,v=.tuple ⟨.agg ⟨t.cs s⟩ :: rest⟩∧ak w [] w' (iW s t ys zs fp fq ++ M)
theorem afI (name:ByteArray) (x y:ah) (vk sec:List B8) (h1:vk.length≤1000000) (h2:sec.length≤1000000) (w:World) (hx:Bytes w x vk) (hy:Bytes w y sec):Ok Pr oU [.string name,.slice x.a x.n x.c,.slice y.a y.n y.c] w fun v w'=>aaG w w' v (Gn name vk sec) [.int .i64 (T7 name vk sec)] []:=by
 refine ad5 ?_
 unfold Nh
 rw [th]
 have hT:Gn name vk sec=if fC (kQ name vk sec)=true then kQ name vk sec else gH:=rfl
 have hC:T7 name vk sec=if fC (kQ name vk sec)=true then 0 else 2:=rfl
 generalize Gn name vk sec=T at *
 generalize T7 name vk sec=C at *
 refine (ak.start w).nw fun p w1 H _=>H.nw fun p1 w2 H _=>H.nw fun p2 w3 H _=>?_
 have H:ak w [] w3 [.av p (gH.cs sZ) aN,.av p1 (ku 1 0 name) dF,.av p2 (lE 1 1 x 0 0) dJ]:=H
 refine aB (agF ⟨y,⟨some ⟨p1,0,none⟩,1,1⟩,⟨some ⟨p2,0,none⟩,1,1⟩,⟨none,0,0⟩,⟨none,0,0⟩⟩ (kQ name vk sec) (Qs h1 h2) w3 (amf (hx.aG H.mod) (hy.aG H.mod) (H.av 1 rfl) (H.av 2 rfl))) ?_
 rintro _ w4 ⟨s,ys,zs,fp,fq,rfl,D⟩
 have H:=H.join D
 refine iZ (H.nw fun p3 w5 H _=>H.bM 10 rfl rfl fun w6 H=>H.bT 10 rfl ?_)
 have H:ak w [] w6 ([.av p (gH.cs sZ) aN,.av p1 (ku 1 0 name) dF,.av p2 (lE 1 1 x 0 0) dJ] ++ (iW s (kQ name vk sec) ys zs fp fq ++ [.av p3 ((kQ name vk sec).cs s) aN])):=H
 have hr:iN w6 s (kQ name vk sec):=o8 (L:=[.av p (gH.cs sZ) aN,.av p1 (ku 1 0 name) dF,.av p2 (lE 1 1 x 0 0) dJ]) (H.take 10)
 refine aB (ahf s (kQ name vk sec) (Qs h1 h2) w6 hr) ?_
 rintro _ w7 ⟨rfl,m7⟩
 have H:=H.frame m7
 refine bu ?_
 cases hm:fC (kQ name vk sec) with
 | false=>
  rw [hm,if_neg (by decide)] at hT hC
  subst hT hC
  refine ite_true rfl (H.bM 0 rfl rfl fun w8 H=>H.bT 0 rfl ⟨sZ,[],[],[],[],rfl,?_⟩)
  exact (Rg H).drop 11
 | true=>
  rw [hm,if_pos rfl] at hT hC
  subst hT hC
  refine ite_false rfl (H.bT 10 rfl (H.bM 0 rfl rfl fun w8 H=>H.bT 0 rfl ⟨s,ys,zs,fp,fq,rfl,?_⟩))
  exact (H.take 10).drop 3
end Go.Proofs.YtgjoehgomjgckaaGreatDoor
end
section
set_option linter.unusedVariables false
set_option linter.unusedSimpArgs false
namespace Go.Proofs.YtgjoehgomjgckaaGreatDoor
open Go Go.Ev
set_option maxRecDepth 100000
set_option linter.unusedVariables false
def Qt (cQ:Int) (bK:ah) (bL:ah) (bQ:ah) (bR:ah) (bS:ah) (eE:Int) (eH:Int) (eI:Int) (dI:Int) (gJ:Int) (gL:Int) (gM:Int) (gN:Int) (gO:Int) (gP:Int) (gE:Int) (gF:ByteArray) (dG:ah) (dH:ah) (aq:ah) (w:World) (R:Value→World→Prop):Prop:=
 nw aN [.int .i64 cQ,.slice bK.a bK.n bK.c,.slice bL.a bL.n bL.c,.slice bQ.a bQ.n bQ.c,.slice bR.a bR.n bR.c,.slice bS.a bS.n bS.c] w fun a b=>
 nw kZ [.int .i64 eE,.int .i64 eH,.int .i64 eI,.int .i64 dI,.int .i64 gJ,.int .i64 gL,.int .i64 gM,.int .i64 gN,.int .i64 gO,.int .i64 gP,.int .i64 gE,.string gF,.slice dG.a dG.n dG.c,.slice dH.a dH.n dH.c] b fun c d=>
 nw aN (zc Pr aN) d fun e f=>
 nw bF (zc Pr bF) f fun g i=>
 bT a i fun j k l m n o=>
 jz c i fun p q s t u v x y z A B C D E=>
 az Pr MI [.agg ⟨[.int .i64 j,.slice k.a k.n k.c,.slice l.a l.n l.c,.slice m.a m.n m.c,.slice n.a n.n n.c,.slice o.a o.n o.c]⟩,.agg ⟨[.int .i64 p,.int .i64 q,.int .i64 s,.int .i64 t,.int .i64 u,.int .i64 v,.int .i64 x,.int .i64 y,.int .i64 z,.int .i64 A,.int .i64 B,.string C,.slice D.a D.n D.c,.slice E.a E.n E.c]⟩,.slice aq.a aq.n aq.c] i fun F G=>
 bB.bC F fun I=>
 aD I fun J L=>
 Cz J fun M=>
 aD L fun N O=>
 (O=[]∧
 nw bF (zc Pr bF) G fun Q S=>
 jl (fun (T:Value)=>[(10,some (T))])
 (fun T U=>fB T fun V=>
 aA (!V)
 (az Pr DM [T] U fun X Y=>
 bk .i64 X fun Z=>
 bM e 0 ⟨none,0,0⟩ ⟨none,0,0⟩ ⟨none,0,0⟩ ⟨none,0,0⟩ ⟨none,0,0⟩ Y fun aa=>
 bH g Z 0 ⟨none,0,0⟩ ⟨none,0,0⟩ aa fun ba=>
 bT e ba fun ca da ea fa ga ia=>
 cF g ba fun ja ka la ma=>
 R (.tuple ⟨[.agg ⟨[.int .i64 ca,.slice da.a da.n da.c,.slice ea.a ea.n ea.c,.slice fa.a fa.n fa.c,.slice ga.a ga.n ga.c,.slice ia.a ia.n ia.c]⟩,.agg ⟨[.int .i64 ja,.int .i64 ka,.slice la.a la.n la.c,.slice ma.a ma.n ma.c]⟩,T]⟩) ba)
 (bA M fun na=>
 bT (Addr.add na 14) (World.drew U) fun oa pa qa sa ta ua=>
 cF Q (World.drew U) fun va xa ya za=>
 bM e oa pa qa sa ta ua (World.drew U) fun Aa=>
 (kept Q 4 (World.drew U) Aa∧
 bH g va xa ya za Aa fun Ba=>
 bT e Ba fun Ca Da Ea Fa Ga Ia=>
 cF g Ba fun Ja La Ma Na=>
 R (.tuple ⟨[.agg ⟨[.int .i64 Ca,.slice Da.a Da.n Da.c,.slice Ea.a Ea.n Ea.c,.slice Fa.a Fa.n Fa.c,.slice Ga.a Ga.n Ga.c,.slice Ia.a Ia.n Ia.c]⟩,.agg ⟨[.int .i64 Ja,.int .i64 La,.slice Ma.a Ma.n Ma.c,.slice Na.a Na.n Na.c]⟩,.nilIface]⟩) Ba)))
 (fun Oa=>
 fB N fun Qa=>
 aA Qa
 (az Pr Mm [.pointer M] S fun Sa Ta=>
 bB.bC Sa fun Ua=>
 aD Ua fun Va Xa=>
 fG Va fun Ya Za ab bb=>
 aD Xa fun cb db=>
 (db=[]∧
 bH Q Ya Za ab bb Ta fun eb=>
 Oa cb eb))
 (Oa N S)))
theorem agG {cQ:Int} {bK:ah} {bL:ah} {bQ:ah} {bR:ah} {bS:ah} {eE:Int} {eH:Int} {eI:Int} {dI:Int} {gJ:Int} {gL:Int} {gM:Int} {gN:Int} {gO:Int} {gP:Int} {gE:Int} {gF:ByteArray} {dG:ah} {dH:ah} {aq:ah} {w:World} {R:Value→World→Prop} (h:Qt cQ bK bL bQ bR bS eE eH eI dI gJ gL gM gN gO gP gE gF dG dH aq w R):Ok Pr gA [.agg ⟨[.int .i64 cQ,.slice bK.a bK.n bK.c,.slice bL.a bL.n bL.c,.slice bQ.a bQ.n bQ.c,.slice bR.a bR.n bR.c,.slice bS.a bS.n bS.c]⟩,.agg ⟨[.int .i64 eE,.int .i64 eH,.int .i64 eI,.int .i64 dI,.int .i64 gJ,.int .i64 gL,.int .i64 gM,.int .i64 gN,.int .i64 gO,.int .i64 gP,.int .i64 gE,.string gF,.slice dG.a dG.n dG.c,.slice dH.a dH.n dH.c]⟩,.slice aq.a aq.n aq.c] w R:=
 aL (m:=⟨true,true⟩) (J:=[(5,[(10,.val)])]) (L:=[]) aJ Tryz.func11 (by kernel_rfl) ((by kernel_rfl:aK Pr _ _ _ Tryz.f11 _ w R=Qt cQ bK bL bQ bR bS eE eH eI dI gJ gL gM gN gO gP gE gF dG dH aq w R).mpr h)
def Ou (cQ:Int) (bK:ah) (bL:ah) (bQ:ah) (bR:ah) (bS:ah) (clock:Int) (w:World) (R:Value→World→Prop):Prop:=
 nw aN [.int .i64 cQ,.slice bK.a bK.n bK.c,.slice bL.a bL.n bL.c,.slice bQ.a bQ.n bQ.c,.slice bR.a bR.n bR.c,.slice bS.a bS.n bS.c] w fun a b=>
 nw aN (zc Pr aN) b fun c d=>
 bT a d fun e f g i j k=>
 az Pr HD [.agg ⟨[.int .i64 e,.slice f.a f.n f.c,.slice g.a g.n g.c,.slice i.a i.n i.c,.slice j.a j.n j.c,.slice k.a k.n k.c]⟩] d fun l m=>
 aW l fun n=>
 an .i64 (Addr.add a 0) m fun o=>
 aA (((!n) || (decide (clock<o))) || (decide (1099511627776<clock)))
 (az Pr lD [.int .i64 2] m fun p q=>
 bM c 0 ⟨none,0,0⟩ ⟨none,0,0⟩ ⟨none,0,0⟩ ⟨none,0,0⟩ ⟨none,0,0⟩ q fun s=>
 bT c s fun t u v x y z=>
 R (.tuple ⟨[.agg ⟨[.int .i64 t,.slice u.a u.n u.c,.slice v.a v.n v.c,.slice x.a x.n x.c,.slice y.a y.n y.c,.slice z.a z.n z.c]⟩,.int .i64 0,p]⟩) s)
 (bT a m fun A B C D E F=>
 az Pr Dw [.agg ⟨[.int .i64 A,.slice B.a B.n B.c,.slice C.a C.n C.c,.slice D.a D.n D.c,.slice E.a E.n E.c,.slice F.a F.n F.c]⟩] m fun G I=>
 dK G fun J L M N O Q=>
 bM a J L M N O Q I fun S=>
 st (Addr.add a 0) (.int .i64 clock) S fun T=>
 ax (Addr.add a 4) T fun U=>
 iy (fun (V:Int) (X:Int)=>[(7,some (.int .i64 V)),(34,some (.int .i64 X))])
 (fun Y V X Z=>aA (decide (X<(U.n:Int)))
 (aU U.a X U.n
 (bz (Addr.add (base U.a) (Int.toNat X * 4)) Z fun aa ba ca da=>
 nw aV (zc Pr aV) Z fun ea fa=>
 cA ea aa ba ca da fa fun ga=>
 bz ea ga fun ia ja ka la=>
 az Pr NB [.agg ⟨[.int .i64 ia,.int .i64 ja,.int .i64 ka,.slice la.a la.n la.c]⟩,.int .i64 clock] ga fun ma na=>
 bB.bC ma fun oa=>
 aD oa fun pa qa=>
 q9 pa fun sa ta ua va=>
 aD qa fun xa ya=>
 bk .i64 xa fun za=>
 (ya=[]∧
 nw aV (zc Pr aV) na fun Aa Ba=>
 cA Aa sa ta ua va Ba fun Ca=>
 ax (Addr.add a 4) Ca fun Da=>
 bz Aa Ca fun Ea Fa Ga Ia=>
 aU Da.a X Da.n
 (cA (Addr.add (base Da.a) (Int.toNat X * 4)) Ea Fa Ga Ia Ca fun Ja=>
 (aF (V+za)∧
 (aF (X+1)∧
 Y (V+za) (X+1) Ja))))))
 (bT a Z fun La Ma Na Oa Qa Sa=>
 bM c La Ma Na Oa Qa Sa Z fun Ta=>
 bT c Ta fun Ua Va Xa Ya Za ab=>
 R (.tuple ⟨[.agg ⟨[.int .i64 Ua,.slice Va.a Va.n Va.c,.slice Xa.a Xa.n Xa.c,.slice Ya.a Ya.n Ya.c,.slice Za.a Za.n Za.c,.slice ab.a ab.n ab.c]⟩,.int .i64 V,.nilIface]⟩) Ta))
 0 0 T)
theorem aeY {cQ:Int} {bK:ah} {bL:ah} {bQ:ah} {bR:ah} {bS:ah} {clock:Int} {w:World} {R:Value→World→Prop} (h:Ou cQ bK bL bQ bR bS clock w R):Ok Pr Nz [.agg ⟨[.int .i64 cQ,.slice bK.a bK.n bK.c,.slice bL.a bL.n bL.c,.slice bQ.a bQ.n bQ.c,.slice bR.a bR.n bR.c,.slice bS.a bS.n bS.c]⟩,.int .i64 clock] w R:=
 aL (m:=⟨true,true⟩) (J:=[]) (L:=[(7,[(7,.int .i64),(34,.int .i64)])]) aJ Tryz.func16 (by kernel_rfl) ((by kernel_rfl:aK Pr _ _ _ Tryz.f16 _ w R=Ou cQ bK bL bQ bR bS clock w R).mpr h)
def Ns (cQ:Int) (bK:ah) (bL:ah) (bQ:ah) (bR:ah) (bS:ah) (eE:Int) (eH:Int) (eI:Int) (dI:Int) (gJ:Int) (gL:Int) (gM:Int) (gN:Int) (gO:Int) (gP:Int) (gE:Int) (gF:ByteArray) (dG:ah) (dH:ah) (aq:ah) (w:World) (R:Value→World→Prop):Prop:=
 nw aN [.int .i64 cQ,.slice bK.a bK.n bK.c,.slice bL.a bL.n bL.c,.slice bQ.a bQ.n bQ.c,.slice bR.a bR.n bR.c,.slice bS.a bS.n bS.c] w fun a b=>
 nw kZ [.int .i64 eE,.int .i64 eH,.int .i64 eI,.int .i64 dI,.int .i64 gJ,.int .i64 gL,.int .i64 gM,.int .i64 gN,.int .i64 gO,.int .i64 gP,.int .i64 gE,.string gF,.slice dG.a dG.n dG.c,.slice dH.a dH.n dH.c] b fun c d=>
 jL []
 (fun e=>jz c (World.drew e) fun f g i j k l m n o p q s t u=>
 bT a (World.drew e) fun v x y z A B=>
 az Pr Dw [.agg ⟨[.int .i64 v,.slice x.a x.n x.c,.slice y.a y.n y.c,.slice z.a z.n z.c,.slice A.a A.n A.c,.slice B.a B.n B.c]⟩] (World.drew e) fun C D=>
 dK C fun E F G I J L=>
 (kept c 14 (World.drew e) D∧
 nw wG [.int .i64 f,.int .i64 g,.int .i64 i,.int .i64 j,.int .i64 k,.int .i64 l,.int .i64 m,.int .i64 n,.int .i64 o,.int .i64 p,.int .i64 q,.string s,.slice t.a t.n t.c,.slice u.a u.n u.c,.int .i64 E,.slice F.a F.n F.c,.slice G.a G.n G.c,.slice I.a I.n I.c,.slice J.a J.n J.c,.slice L.a L.n L.c,.int .i64 0,.slice aq.a aq.n aq.c] D fun M N=>
 an .i64 (Addr.add (Addr.add M 0) 0) (World.drew N) fun O=>
 ax (Addr.add a 3) (World.drew N) fun Q=>
 az Pr yC [.int .i64 O,.int .i64 (Q.n:Int)] (World.drew N) fun S T=>
 aW S fun U=>
 aA (!U)
 (az Pr lD [.int .i64 6] T fun V X=>
 R (.tuple ⟨[.pointer none,V]⟩) X)
 (ax (Addr.add (Addr.add M 14) 3) (World.drew T) fun Y=>
 an .i64 (Addr.add (Addr.add M 0) 0) (World.drew T) fun Z=>
 (aF (Z - 1)∧
 aU Y.a (Z - 1) Y.n
 (an .i64 (Addr.add (Addr.add (base Y.a) (Int.toNat (Z - 1) * 5)) 3) (World.drew (World.drew T)) fun aa=>
 an .u64 (Addr.add (Addr.add (base Y.a) (Int.toNat (Z - 1) * 5)) 4) (World.drew (World.drew T)) fun ba=>
 an .i64 (Addr.add (Addr.add M 0) 1) (World.drew (World.drew T)) fun ca=>
 az Pr NF [.int .i64 aa,.int .u64 ba,.int .i64 ca] (World.drew (World.drew T)) fun da ea=>
 bB.bC da fun fa=>
 aD fa fun ga ia=>
 bk .i64 ga fun ja=>
 aD ia fun ka la=>
 bk .u64 ka fun ma=>
 aD la fun na oa=>
 (oa=[]∧
 fB na fun pa=>
 aA (!pa)
 (az Pr lD [.int .i64 8] ea fun qa sa=>
 R (.tuple ⟨[.pointer none,qa]⟩) sa)
 (st (Addr.add (Addr.add (base Y.a) (Int.toNat (Z - 1) * 5)) 3) (.int .i64 ja) ea fun ta=>
 st (Addr.add (Addr.add (base Y.a) (Int.toNat (Z - 1) * 5)) 4) (.int .u64 ma) ta fun ua=>
 az Pr LC [.pointer (some M)] ua fun va xa=>
 aW va fun ya=>
 aA (!ya)
 (az Pr lD [.int .i64 9] xa fun za Aa=>
 R (.tuple ⟨[.pointer none,za]⟩) Aa)
 (az Pr K4 [.pointer (some M)] xa fun Ba Ca=>
 R (.tuple ⟨[.pointer (some M),Ba]⟩) Ca))))))))
 (fun Da=>
 jl (fun (Ea:Bool)=>[(20,some (.bool Ea))])
 (fun Ea Fa=>aA Ea
 (az Pr lD [.int .i64 2] Fa fun Ga Ia=>
 R (.tuple ⟨[.pointer none,Ga]⟩) Ia)
 (Da Fa))
 (fun Ja=>
 bT a d fun La Ma Na Oa Qa Sa=>
 az Pr HD [.agg ⟨[.int .i64 La,.slice Ma.a Ma.n Ma.c,.slice Na.a Na.n Na.c,.slice Oa.a Oa.n Oa.c,.slice Qa.a Qa.n Qa.c,.slice Sa.a Sa.n Sa.c]⟩] d fun Ta Ua=>
 aW Ta fun Va=>
 jz c Ua fun Xa Ya Za ab bb cb db eb fb gb ib jb kb lb=>
 aA (!Va)
 (Ja true Ua)
 (az Pr QA [.agg ⟨[.int .i64 Xa,.int .i64 Ya,.int .i64 Za,.int .i64 ab,.int .i64 bb,.int .i64 cb,.int .i64 db,.int .i64 eb,.int .i64 fb,.int .i64 gb,.int .i64 ib,.string jb,.slice kb.a kb.n kb.c,.slice lb.a lb.n lb.c]⟩] Ua fun mb nb=>
 aW mb fun ob=>
 Ja (!ob) nb)))
theorem aeh {cQ:Int} {bK:ah} {bL:ah} {bQ:ah} {bR:ah} {bS:ah} {eE:Int} {eH:Int} {eI:Int} {dI:Int} {gJ:Int} {gL:Int} {gM:Int} {gN:Int} {gO:Int} {gP:Int} {gE:Int} {gF:ByteArray} {dG:ah} {dH:ah} {aq:ah} {w:World} {R:Value→World→Prop} (h:Ns cQ bK bL bQ bR bS eE eH eI dI gJ gL gM gN gO gP gE gF dG dH aq w R):Ok Pr MI [.agg ⟨[.int .i64 cQ,.slice bK.a bK.n bK.c,.slice bL.a bL.n bL.c,.slice bQ.a bQ.n bQ.c,.slice bR.a bR.n bR.c,.slice bS.a bS.n bS.c]⟩,.agg ⟨[.int .i64 eE,.int .i64 eH,.int .i64 eI,.int .i64 dI,.int .i64 gJ,.int .i64 gL,.int .i64 gM,.int .i64 gN,.int .i64 gO,.int .i64 gP,.int .i64 gE,.string gF,.slice dG.a dG.n dG.c,.slice dH.a dH.n dH.c]⟩,.slice aq.a aq.n aq.c] w R:=
 aL (m:=⟨true,true⟩) (J:=[(3,[]),(2,[(20,.bool)])]) (L:=[]) aJ Tryz.func27 (by kernel_rfl) ((by kernel_rfl:aK Pr _ _ _ Tryz.f27 _ w R=Ns cQ bK bL bQ bR bS eE eH eI dI gJ gL gM gN gO gP gE gF dG dH aq w R).mpr h)
def MH (j:Option Addr) (w:World) (R:Value→World→Prop):Prop:=
 nw bF (zc Pr bF) w fun a b=>
 jL []
 (fun c=>az Pr Lm [.pointer j] c fun d e=>
 bB.bC d fun f=>
 aD f fun g i=>
 fG g fun k l m n=>
 aD i fun o p=>
 (p=[]∧
 bH a k l m n e fun q=>
 cF a q fun s t u v=>
 R (.tuple ⟨[.agg ⟨[.int .i64 s,.int .i64 t,.slice u.a u.n u.c,.slice v.a v.n v.c]⟩,o]⟩) q))
 (fun x=>
 bA j fun y=>
 an .i64 (Addr.add (Addr.add y 0) 2) b fun z=>
 aA (decide (z=1))
 (az Pr Lh [.pointer j] b fun A B=>
 bB.bC A fun C=>
 aD C fun D E=>
 fG D fun F G I J=>
 aD E fun L M=>
 (M=[]∧
 bH a F G I J B fun N=>
 cF a N fun O Q S T=>
 R (.tuple ⟨[.agg ⟨[.int .i64 O,.int .i64 Q,.slice S.a S.n S.c,.slice T.a T.n T.c]⟩,L]⟩) N))
 (aA (decide (z=2))
 (az Pr Lj [.pointer j] b fun U V=>
 bB.bC U fun X=>
 aD X fun Y Z=>
 fG Y fun aa ba ca da=>
 aD Z fun ea fa=>
 (fa=[]∧
 bH a aa ba ca da V fun ga=>
 cF a ga fun ia ja ka la=>
 R (.tuple ⟨[.agg ⟨[.int .i64 ia,.int .i64 ja,.slice ka.a ka.n ka.c,.slice la.a la.n la.c]⟩,ea]⟩) ga))
 (aA (decide (z=3))
 (az Pr Ll [.pointer j] b fun ma na=>
 bB.bC ma fun oa=>
 aD oa fun pa qa=>
 fG pa fun sa ta ua va=>
 aD qa fun xa ya=>
 (ya=[]∧
 bH a sa ta ua va na fun za=>
 cF a za fun Aa Ba Ca Da=>
 R (.tuple ⟨[.agg ⟨[.int .i64 Aa,.int .i64 Ba,.slice Ca.a Ca.n Ca.c,.slice Da.a Da.n Da.c]⟩,xa]⟩) za))
 (jl (fun (Ea:Bool)=>[(27,some (.bool Ea))])
 (fun Ea Fa=>aA Ea
 (az Pr LN [.pointer j] Fa fun Ga Ia=>
 bB.bC Ga fun Ja=>
 aD Ja fun La Ma=>
 fG La fun Na Oa Qa Sa=>
 aD Ma fun Ta Ua=>
 (Ua=[]∧
 bH a Na Oa Qa Sa Ia fun Va=>
 cF a Va fun Xa Ya Za ab=>
 R (.tuple ⟨[.agg ⟨[.int .i64 Xa,.int .i64 Ya,.slice Za.a Za.n Za.c,.slice ab.a ab.n ab.c]⟩,Ta]⟩) Va))
 (jl (fun (bb:Bool)=>[(35,some (.bool bb))])
 (fun bb cb=>aA bb
 (az Pr Lw [.pointer j] cb fun db eb=>
 bB.bC db fun fb=>
 aD fb fun gb ib=>
 fG gb fun jb kb lb mb=>
 aD ib fun nb ob=>
 (ob=[]∧
 bH a jb kb lb mb eb fun pb=>
 cF a pb fun qb sb tb ub=>
 R (.tuple ⟨[.agg ⟨[.int .i64 qb,.int .i64 sb,.slice tb.a tb.n tb.c,.slice ub.a ub.n ub.c]⟩,nb]⟩) pb))
 (x cb))
 (fun vb=>
 aA (decide (z=12))
 (vb (decide (z=12)) Fa)
 (vb (decide (z=13)) Fa))))
 (fun xb=>
 aA (decide (z=9))
 (xb (decide (z=9)) b)
 (aA (decide (z=10))
 (xb (decide (z=10)) b)
 (xb (decide (z=11)) b)))))))
theorem adI {j:Option Addr} {w:World} {R:Value→World→Prop} (h:MH j w R):Ok Pr Mm [.pointer j] w R:=
 aL (m:=⟨true,true⟩) (J:=[(15,[]),(11,[(27,.bool)]),(14,[(35,.bool)])]) (L:=[]) aJ Tryz.func28 (by kernel_rfl) ((by kernel_rfl:aK Pr _ _ _ Tryz.f28 _ w R=MH j w R).mpr h)
def Nt (code:Int) (w:World) (R:Value→World→Prop):Prop:=
 nw oX [.int .i64 code,.string akO] w fun a b=>
 R (.iface jy (.pointer (some a))) b
theorem aei {code:Int} {w:World} {R:Value→World→Prop} (h:Nt code w R):Ok Pr lD [.int .i64 code] w R:=
 aL (m:=⟨true,true⟩) (J:=[]) (L:=[]) aJ Tryz.func35 (by kernel_rfl) ((by kernel_rfl:aK Pr _ _ _ Tryz.f35 _ w R=Nt code w R).mpr h)
def Nu (fz:Int) (many:Int) (w:World) (R:Value→World→Prop):Prop:=
 R (.bool ((decide (1≤fz)) && (decide (fz≤many)))) w
theorem aej {fz:Int} {many:Int} {w:World} {R:Value→World→Prop} (h:Nu fz many w R):Ok Pr yC [.int .i64 fz,.int .i64 many] w R:=
 aL (m:=⟨true,true⟩) (J:=[]) (L:=[]) aJ Tryz.func51 (by kernel_rfl) ((by kernel_rfl:aK Pr _ _ _ Tryz.f51 _ w R=Nu fz many w R).mpr h)
def LL (j:Option Addr) (w:World) (R:Value→World→Prop):Prop:=
 jL []
 (fun a=>bA j fun b=>
 an .i64 (Addr.add (Addr.add b 0) 4) (World.drew a) fun c=>
 bA j fun d=>
 ax (Addr.add (Addr.add d 14) 4) (World.drew a) fun e=>
 az Pr yC [.int .i64 c,.int .i64 (e.n:Int)] (World.drew a) fun f g=>
 aW f fun i=>
 aA (!i)
 (R (.bool false) g)
 (bA j fun k=>
 ax (Addr.add (Addr.add k 14) 4) (World.drew g) fun l=>
 bA j fun m=>
 an .i64 (Addr.add (Addr.add m 0) 4) (World.drew g) fun n=>
 (aF (n - 1)∧
 aU l.a (n - 1) l.n
 (bz (Addr.add (base l.a) (Int.toNat (n - 1) * 4)) (World.drew g) fun o p q s=>
 nw aV (zc Pr aV) (World.drew g) fun t u=>
 (kept (Addr.add (base l.a) (Int.toNat (n - 1) * 4)) 4 (World.drew g) u∧
 (kept (Addr.add (Addr.add m 0) 4) 1 (World.drew g) u∧
 (kept (Addr.add (Addr.add k 14) 4) 1 (World.drew g) u∧
 cA t o p q s u fun v=>
 an .i64 (Addr.add t 1) v fun x=>
 bA j fun y=>
 st (Addr.add y 20) (.int .i64 x) v fun z=>
 bA j fun A=>
 an .i64 (Addr.add (Addr.add A 0) 2) z fun B=>
 jl (fun (C:Bool)=>[(104,some (.bool C))])
 (fun C D=>aA C
 (bz t (World.drew D) fun E F G I=>
 bA j fun J=>
 an .i64 (Addr.add (Addr.add J 0) 5) (World.drew D) fun L=>
 ((az Pr yE [.agg ⟨[.int .i64 E,.int .i64 F,.int .i64 G,.slice I.a I.n I.c]⟩,.int .i64 L] (World.drew D) fun M N=>
 bB.bC M fun O=>
 aD O fun Q S=>
 uF Q fun T U V X=>
 aD S fun Y Z=>
 aW Y fun aa=>
 (Z=[]∧
 nw cI (zc Pr cI) N fun ba ca=>
 (kept (Addr.add (Addr.add J 0) 5) 1 N ca∧
 (kept t 4 N ca∧
 gu ba T U V X ca fun da=>
 R (.bool aa) da))))∧
 (nw cI (zc Pr cI) (World.drew D) fun ea fa=>
 (kept (Addr.add (Addr.add J 0) 5) 1 (World.drew D) fa∧
 (kept t 4 (World.drew D) fa∧
 az Pr yE [.agg ⟨[.int .i64 E,.int .i64 F,.int .i64 G,.slice I.a I.n I.c]⟩,.int .i64 L] fa fun ga ia=>
 bB.bC ga fun ja=>
 aD ja fun ka la=>
 uF ka fun ma na oa pa=>
 aD la fun qa sa=>
 aW qa fun ta=>
 (sa=[]∧
 gu ea ma na oa pa ia fun ua=>
 R (.bool ta) ua))))))
 (aA (decide (B=12))
 (bA j fun va=>
 an .i64 (Addr.add (Addr.add va 0) 8) (World.drew D) fun xa=>
 bA j fun ya=>
 ax (Addr.add (Addr.add ya 14) 3) (World.drew D) fun za=>
 az Pr yC [.int .i64 xa,.int .i64 (za.n:Int)] (World.drew D) fun Aa Ba=>
 aW Aa fun Ca=>
 R (.bool Ca) Ba)
 (R (.bool true) D)))
 (fun Da=>
 aA (decide (B=5))
 (Da (decide (B=5)) z)
 (aA (decide (B=6))
 (Da (decide (B=6)) z)
 (aA (decide (B=7))
 (Da (decide (B=7)) z)
 (aA (decide (B=8))
 (Da (decide (B=8)) z)
 (aA (decide (B=10))
 (Da (decide (B=10)) z)
 (Da (decide (B=11)) z)))))))))))))
 (fun Ea=>
 bA j fun Fa=>
 an .i64 (Addr.add (Addr.add Fa 0) 2) w fun Ga=>
 jl (fun (Ia:Bool)=>[(11,some (.bool Ia))])
 (fun Ia Ja=>aA Ia
 (bA j fun La=>
 an .i64 (Addr.add (Addr.add La 0) 3) Ja fun Ma=>
 bA j fun Na=>
 st (Addr.add Na 20) (.int .i64 Ma) Ja fun Oa=>
 bA j fun Qa=>
 an .i64 (Addr.add (Addr.add Qa 0) 3) (World.drew Oa) fun Sa=>
 bA j fun Ta=>
 ax (Addr.add (Addr.add Ta 14) 2) (World.drew Oa) fun Ua=>
 az Pr yC [.int .i64 Sa,.int .i64 (Ua.n:Int)] (World.drew Oa) fun Va Xa=>
 aW Va fun Ya=>
 R (.bool Ya) Xa)
 (aA (decide (Ga=13))
 (bA j fun Za=>
 an .i64 (Addr.add (Addr.add Za 0) 7) (World.drew Ja) fun ab=>
 bA j fun bb=>
 ax (Addr.add (Addr.add bb 14) 5) (World.drew Ja) fun cb=>
 az Pr yC [.int .i64 ab,.int .i64 (cb.n:Int)] (World.drew Ja) fun db eb=>
 aW db fun fb=>
 aA (!fb)
 (R (.bool false) eb)
 (bA j fun gb=>
 ax (Addr.add (Addr.add gb 14) 5) (World.drew eb) fun ib=>
 bA j fun jb=>
 an .i64 (Addr.add (Addr.add jb 0) 7) (World.drew eb) fun kb=>
 (aF (kb - 1)∧
 aU ib.a (kb - 1) ib.n
 (an .i64 (Addr.add (Addr.add (base ib.a) (Int.toNat (kb - 1) * 6)) 1) (World.drew eb) fun lb=>
 bA j fun mb=>
 st (Addr.add (Addr.add mb 0) 4) (.int .i64 lb) (World.drew eb) fun nb=>
 Ea nb))))
 (Ea Ja)))
 (fun ob=>
 aA (decide (Ga=1))
 (ob (decide (Ga=1)) w)
 (aA (decide (Ga=2))
 (ob (decide (Ga=2)) w)
 (ob (decide (Ga=3)) w))))
theorem acV {j:Option Addr} {w:World} {R:Value→World→Prop} (h:LL j w R):Ok Pr LC [.pointer j] w R:=
 aL (m:=⟨true,true⟩) (J:=[(11,[]),(5,[(11,.bool)]),(22,[(104,.bool)])]) (L:=[]) aJ Tryz.func53 (by kernel_rfl) ((by kernel_rfl:aK Pr _ _ _ Tryz.f53 _ w R=LL j w R).mpr h)
def K5 (j:Option Addr) (w:World) (R:Value→World→Prop):Prop:=
 bA j fun a=>
 ax (Addr.add (Addr.add a 14) 3) (World.drew w) fun b=>
 bA j fun c=>
 an .i64 (Addr.add (Addr.add c 0) 0) (World.drew w) fun d=>
 (aF (d - 1)∧
 aU b.a (d - 1) b.n
 (an .i64 (Addr.add (Addr.add (base b.a) (Int.toNat (d - 1) * 5)) 1) (World.drew w) fun e=>
 bA j fun f=>
 ax (Addr.add (Addr.add f 14) 2) (World.drew (World.drew w)) fun g=>
 bA j fun i=>
 an .i64 (Addr.add i 20) (World.drew (World.drew w)) fun k=>
 az Pr LO [.slice g.a g.n g.c,.int .i64 e,.int .i64 k] (World.drew (World.drew w)) fun l m=>
 aW l fun n=>
 aA n
 (R (.nilIface) m)
 (bA j fun o=>
 an .i64 (Addr.add (Addr.add o 0) 2) m fun p=>
 jl (fun (q:Bool)=>[(36,some (.bool q))])
 (fun q s=>aA q
 (tC (fun (t:Addr) (u:Value)=>[(4,some (.pointer (some t))),(5,some (u))])
 (fun t u v=>fB u fun x=>
 aA (!x)
 (R u v)
 (iI t (World.drew v) fun y z A B C D=>
 bA j fun E=>
 an .i64 (Addr.add (Addr.add E 0) 4) (World.drew v) fun F=>
 bA j fun G=>
 an .i64 (Addr.add (Addr.add G 0) 0) (World.drew v) fun I=>
 bA j fun J=>
 an .i64 (Addr.add (Addr.add J 0) 2) (World.drew v) fun L=>
 bA j fun M=>
 an .i64 (Addr.add (Addr.add M 14) 0) (World.drew v) fun N=>
 az Pr LP [.agg ⟨[.int .i64 y,.int .i64 z,.int .i64 A,.int .i64 B,.int .i64 C,.bool D]⟩,.int .i64 F,.int .i64 I,.int .i64 L,.int .i64 N] (World.drew v) fun O Q=>
 R O Q))
 (fun S=>
 bA j fun T=>
 ax (Addr.add (Addr.add T 14) 5) (World.drew s) fun U=>
 bA j fun V=>
 ax (Addr.add (Addr.add V 14) 1) (World.drew s) fun X=>
 bA j fun Y=>
 ax (Addr.add (Addr.add Y 0) 13) (World.drew s) fun Z=>
 ((az Pr G6 [.slice U.a U.n U.c,.slice X.a X.n X.c,.slice Z.a Z.n Z.c] (World.drew s) fun aa ba=>
 bB.bC aa fun ca=>
 aD ca fun da ea=>
 NM da fun fa ga ia ja ka la=>
 aD ea fun ma na=>
 (na=[]∧
 nw cJ (zc Pr cJ) ba fun oa pa=>
 (kept (Addr.add (Addr.add Y 0) 13) 1 ba pa∧
 (kept (Addr.add (Addr.add V 14) 1) 1 ba pa∧
 (kept (Addr.add (Addr.add T 14) 5) 1 ba pa∧
 oh oa fa ga ia ja ka la pa fun qa=>
 S oa ma qa)))))∧
 (nw cJ (zc Pr cJ) (World.drew s) fun sa ta=>
 (kept (Addr.add (Addr.add Y 0) 13) 1 (World.drew s) ta∧
 (kept (Addr.add (Addr.add V 14) 1) 1 (World.drew s) ta∧
 (kept (Addr.add (Addr.add T 14) 5) 1 (World.drew s) ta∧
 az Pr G6 [.slice U.a U.n U.c,.slice X.a X.n X.c,.slice Z.a Z.n Z.c] ta fun ua va=>
 bB.bC ua fun xa=>
 aD xa fun ya za=>
 NM ya fun Aa Ba Ca Da Ea Fa=>
 aD za fun Ga Ia=>
 (Ia=[]∧
 oh sa Aa Ba Ca Da Ea Fa va fun Ja=>
 S sa Ga Ja))))))))
 (az Pr lD [.int .i64 10] s fun La Ma=>
 R La Ma))
 (fun Na=>
 aA (decide (p=9))
 (Na (decide (p=9)) m)
 (aA (decide (p=10))
 (Na (decide (p=10)) m)
 (Na (decide (p=11)) m))))))
theorem acu {j:Option Addr} {w:World} {R:Value→World→Prop} (h:K5 j w R):Ok Pr K4 [.pointer j] w R:=
 aL (m:=⟨true,true⟩) (J:=[(8,[(36,.bool)]),(9,[(4,.xR),(5,.val)])]) (L:=[]) aJ Tryz.func54 (by kernel_rfl) ((by kernel_rfl:aK Pr _ _ _ Tryz.f54 _ w R=K5 j w R).mpr h)
def Lq (j:Option Addr) (w:World) (R:Value→World→Prop):Prop:=
 nw bF (zc Pr bF) w fun a b=>
 bA j fun c=>
 ax (Addr.add (Addr.add c 14) 2) (World.drew b) fun d=>
 bA j fun e=>
 an .i64 (Addr.add (Addr.add e 0) 3) (World.drew b) fun f=>
 bA j fun g=>
 fS (Addr.add (Addr.add g 0) 11) (World.drew b) fun i=>
 az Pr MM [.slice d.a d.n d.c,.int .i64 f,.string i] (World.drew b) fun k l=>
 bB.bC k fun m=>
 aD m fun n o=>
 aT n fun p=>
 aD o fun q s=>
 bk .i64 q fun t=>
 aD s fun u v=>
 (v=[]∧
 bA j fun x=>
 st (Addr.add (Addr.add x 14) 2) (.slice p.a p.n p.c) l fun y=>
 bH a 0 t ⟨none,0,0⟩ ⟨none,0,0⟩ y fun z=>
 cF a z fun A B C D=>
 R (.tuple ⟨[.agg ⟨[.int .i64 A,.int .i64 B,.slice C.a C.n C.c,.slice D.a D.n D.c]⟩,u]⟩) z)
theorem acy {j:Option Addr} {w:World} {R:Value→World→Prop} (h:Lq j w R):Ok Pr Lh [.pointer j] w R:=
 aL (m:=⟨true,true⟩) (J:=[]) (L:=[]) aJ Tryz.func55 (by kernel_rfl) ((by kernel_rfl:aK Pr _ _ _ Tryz.f55 _ w R=Lq j w R).mpr h)
def Lr (j:Option Addr) (w:World) (R:Value→World→Prop):Prop:=
 nw bF (zc Pr bF) w fun a b=>
 az Pr Ht [.int .i64 1] b fun c d=>
 bB.bC c fun e=>
 aD e fun f g=>
 bk .i64 f fun i=>
 aD g fun k l=>
 bk .i64 k fun m=>
 aD l fun n o=>
 bk .i64 n fun p=>
 (o=[]∧
 bA j fun q=>
 ax (Addr.add (Addr.add q 0) 12) d fun s=>
 aA (!decide ((s.n:Int)=i))
 (az Pr lD [.int .i64 3] d fun t u=>
 bH a 0 0 ⟨none,0,0⟩ ⟨none,0,0⟩ u fun v=>
 cF a v fun x y z B=>
 R (.tuple ⟨[.agg ⟨[.int .i64 x,.int .i64 y,.slice z.a z.n z.c,.slice B.a B.n B.c]⟩,t]⟩) v)
 (bA j fun C=>
 ax (Addr.add (Addr.add C 14) 3) d fun D=>
 aA (decide ((D.n:Int)=6))
 (az Pr lD [.int .i64 12] d fun E F=>
 bH a 0 0 ⟨none,0,0⟩ ⟨none,0,0⟩ F fun G=>
 cF a G fun I J L M=>
 R (.tuple ⟨[.agg ⟨[.int .i64 I,.int .i64 J,.slice L.a L.n L.c,.slice M.a M.n M.c]⟩,E]⟩) G)
 (bA j fun N=>
 ax (Addr.add (Addr.add N 14) 3) d fun O=>
 (aF ((O.n:Int)+1)∧
 lt (A:=Int) ((O.n:Int)+1) fun Q=>
 bA j fun S=>
 ax (Addr.add (Addr.add S 14) 3) (World.drew d) fun T=>
 bA j fun U=>
 an .i64 (Addr.add (Addr.add U 0) 3) (World.drew d) fun V=>
 bA j fun X=>
 ax (Addr.add (Addr.add X 0) 12) (World.drew d) fun Y=>
 nw dJ [.int .i64 Q,.int .i64 V,.slice Y.a Y.n Y.c,.int .i64 0,.int .u64 0] (World.drew d) fun Z aa=>
 (kept (Addr.add (Addr.add S 14) 3) 1 (World.drew d) aa∧
 cG Pr [sV,sV] sV [.slice T.a T.n T.c,.slice (some Z) 1 1] aa fun ba ca=>
 bA j fun da=>
 st (Addr.add (Addr.add da 14) 3) (.slice ba.a ba.n ba.c) ca fun ea=>
 bA j fun fa=>
 bT (Addr.add fa 14) ea fun ga ia ja ka la ma=>
 az Pr Dw [.agg ⟨[.int .i64 ga,.slice ia.a ia.n ia.c,.slice ja.a ja.n ja.c,.slice ka.a ka.n ka.c,.slice la.a la.n la.c,.slice ma.a ma.n ma.c]⟩] ea fun na oa=>
 dK na fun pa qa sa ta ua va=>
 bA j fun xa=>
 bM (Addr.add xa 14) pa qa sa ta ua va oa fun ya=>
 bH a 0 Q ⟨none,0,0⟩ ⟨none,0,0⟩ ya fun za=>
 cF a za fun Aa Ba Ca Da=>
 R (.tuple ⟨[.agg ⟨[.int .i64 Aa,.int .i64 Ba,.slice Ca.a Ca.n Ca.c,.slice Da.a Da.n Da.c]⟩,.nilIface]⟩) za)))))
theorem acA {j:Option Addr} {w:World} {R:Value→World→Prop} (h:Lr j w R):Ok Pr Lj [.pointer j] w R:=
 aL (m:=⟨true,true⟩) (J:=[]) (L:=[]) aJ Tryz.func56 (by kernel_rfl) ((by kernel_rfl:aK Pr _ _ _ Tryz.f56 _ w R=Lr j w R).mpr h)
def Lt (j:Option Addr) (w:World) (R:Value→World→Prop):Prop:=
 nw bF (zc Pr bF) w fun a b=>
 jL []
 (fun c=>bA j fun d=>
 ax (Addr.add (Addr.add d 14) 4) c fun e=>
 (aF ((e.n:Int)+1)∧
 lt (A:=Int) ((e.n:Int)+1) fun f=>
 tC (fun (g:Addr) (i:Value)=>[(5,some (.pointer (some g))),(6,some (i))])
 (fun g i k=>fB i fun l=>
 aA (!l)
 (bH a 0 0 ⟨none,0,0⟩ ⟨none,0,0⟩ k fun m=>
 cF a m fun n o p q=>
 R (.tuple ⟨[.agg ⟨[.int .i64 n,.int .i64 o,.slice p.a p.n p.c,.slice q.a q.n q.c]⟩,i]⟩) m)
 (bA j fun s=>
 ax (Addr.add (Addr.add s 14) 4) (World.drew k) fun t=>
 bz g (World.drew k) fun u v x y=>
 nw aV [.int .i64 u,.int .i64 v,.int .i64 x,.slice y.a y.n y.c] (World.drew k) fun z B=>
 (kept (Addr.add (Addr.add s 14) 4) 1 (World.drew k) B∧
 cG Pr [sX,sX] sX [.slice t.a t.n t.c,.slice (some z) 1 1] B fun C D=>
 bA j fun E=>
 st (Addr.add (Addr.add E 14) 4) (.slice C.a C.n C.c) D fun F=>
 bz g F fun G I J L=>
 az Pr Hh [.agg ⟨[.int .i64 G,.int .i64 I,.int .i64 J,.slice L.a L.n L.c]⟩,.int .i64 1] F fun M N=>
 bB.bC M fun O=>
 aD O fun Q S=>
 aT Q fun T=>
 aD S fun U V=>
 (V=[]∧
 bH a 0 f T ⟨none,0,0⟩ N fun X=>
 cF a X fun Y Z aa ba=>
 R (.tuple ⟨[.agg ⟨[.int .i64 Y,.int .i64 Z,.slice aa.a aa.n aa.c,.slice ba.a ba.n ba.c]⟩,U]⟩) X))))
 (fun ca=>
 bA j fun da=>
 an .i64 (Addr.add (Addr.add da 0) 3) (World.drew c) fun ea=>
 bA j fun fa=>
 an .i64 (Addr.add (Addr.add fa 0) 6) (World.drew c) fun ga=>
 bA j fun ia=>
 ax (Addr.add ia 21) (World.drew c) fun ja=>
 ((az Pr HS [.int .i64 f,.int .i64 ea,.int .i64 ga,.slice ja.a ja.n ja.c] (World.drew c) fun ka la=>
 bB.bC ka fun ma=>
 aD ma fun na oa=>
 q9 na fun pa qa sa ta=>
 aD oa fun ua va=>
 (va=[]∧
 nw aV (zc Pr aV) la fun xa ya=>
 (kept (Addr.add ia 21) 1 la ya∧
 (kept (Addr.add (Addr.add fa 0) 6) 1 la ya∧
 (kept (Addr.add (Addr.add da 0) 3) 1 la ya∧
 cA xa pa qa sa ta ya fun za=>
 ca xa ua za)))))∧
 (nw aV (zc Pr aV) (World.drew c) fun Aa Ba=>
 (kept (Addr.add ia 21) 1 (World.drew c) Ba∧
 (kept (Addr.add (Addr.add fa 0) 6) 1 (World.drew c) Ba∧
 (kept (Addr.add (Addr.add da 0) 3) 1 (World.drew c) Ba∧
 az Pr HS [.int .i64 f,.int .i64 ea,.int .i64 ga,.slice ja.a ja.n ja.c] Ba fun Ca Da=>
 bB.bC Ca fun Ea=>
 aD Ea fun Fa Ga=>
 q9 Fa fun Ia Ja La Ma=>
 aD Ga fun Na Oa=>
 (Oa=[]∧
 cA Aa Ia Ja La Ma Da fun Qa=>
 ca Aa Na Qa)))))))))
 (fun Sa=>
 jl (fun (Ta:Bool)=>[(8,some (.bool Ta))])
 (fun Ta Ua=>aA Ta
 (az Pr lD [.int .i64 2] Ua fun Va Xa=>
 bH a 0 0 ⟨none,0,0⟩ ⟨none,0,0⟩ Xa fun Ya=>
 cF a Ya fun Za ab bb cb=>
 R (.tuple ⟨[.agg ⟨[.int .i64 Za,.int .i64 ab,.slice bb.a bb.n bb.c,.slice cb.a cb.n cb.c]⟩,Va]⟩) Ya)
 (bA j fun db=>
 ax (Addr.add db 21) Ua fun eb=>
 aA (!decide ((eb.n:Int)=64))
 (az Pr lD [.int .i64 3] Ua fun fb gb=>
 bH a 0 0 ⟨none,0,0⟩ ⟨none,0,0⟩ gb fun ib=>
 cF a ib fun jb kb lb mb=>
 R (.tuple ⟨[.agg ⟨[.int .i64 jb,.int .i64 kb,.slice lb.a lb.n lb.c,.slice mb.a mb.n mb.c]⟩,fb]⟩) ib)
 (bA j fun nb=>
 ax (Addr.add (Addr.add nb 14) 4) Ua fun ob=>
 aA (decide ((ob.n:Int)=6))
 (az Pr lD [.int .i64 12] Ua fun pb qb=>
 bH a 0 0 ⟨none,0,0⟩ ⟨none,0,0⟩ qb fun sb=>
 cF a sb fun tb ub vb xb=>
 R (.tuple ⟨[.agg ⟨[.int .i64 tb,.int .i64 ub,.slice vb.a vb.n vb.c,.slice xb.a xb.n xb.c]⟩,pb]⟩) sb)
 (Sa Ua))))
 (fun yb=>
 bA j fun zb=>
 an .i64 (Addr.add (Addr.add zb 0) 6) b fun Ab=>
 aA (decide (Ab<1))
 (yb true b)
 (bA j fun Bb=>
 an .i64 (Addr.add (Addr.add Bb 0) 6) b fun Cb=>
 yb (decide (3<Cb)) b)))
theorem acB {j:Option Addr} {w:World} {R:Value→World→Prop} (h:Lt j w R):Ok Pr Ll [.pointer j] w R:=
 aL (m:=⟨true,true⟩) (J:=[(7,[]),(2,[(8,.bool)]),(9,[(5,.xR),(6,.val)])]) (L:=[]) aJ Tryz.func57 (by kernel_rfl) ((by kernel_rfl:aK Pr _ _ _ Tryz.f57 _ w R=Lt j w R).mpr h)
def Mk (j:Option Addr) (w:World) (R:Value→World→Prop):Prop:=
 nw bF (zc Pr bF) w fun a b=>
 bA j fun c=>
 ax (Addr.add (Addr.add c 14) 4) (World.drew b) fun d=>
 bA j fun e=>
 an .i64 (Addr.add (Addr.add e 0) 4) (World.drew b) fun f=>
 (aF (f - 1)∧
 aU d.a (f - 1) d.n
 (bz (Addr.add (base d.a) (Int.toNat (f - 1) * 4)) (World.drew b) fun g i k l=>
 nw aV (zc Pr aV) (World.drew b) fun m n=>
 (kept (Addr.add (base d.a) (Int.toNat (f - 1) * 4)) 4 (World.drew b) n∧
 (kept (Addr.add (Addr.add e 0) 4) 1 (World.drew b) n∧
 (kept (Addr.add (Addr.add c 14) 4) 1 (World.drew b) n∧
 cA m g i k l n fun o=>
 nw bF (zc Pr bF) o fun p q=>
 jl (fun (s:ah)=>[(6,some (.slice s.a s.n s.c))])
 (fun s t=>cY (fun (u:Int)=>[(78,some (.int .i64 u))])
 (fun v u x=>aA (decide (u<(s.n:Int)))
 (aU s.a u s.n
 (an .u8 (Addr.add (base s.a) (Int.toNat u * 1)) x fun y=>
 ax (Addr.add p 3) x fun z=>
 aU z.a u z.n
 (an .u8 (Addr.add (base z.a) (Int.toNat u * 1)) x fun A=>
 aU z.a u z.n
 (st (Addr.add (base z.a) (Int.toNat u * 1)) (.int .u8 (oB .u8 A y)) x fun B=>
 (aF (u+1)∧
 v (u+1) B)))))
 (cF p x fun C D E F=>
 bH a C D E F x fun G=>
 cF a G fun I J L M=>
 R (.tuple ⟨[.agg ⟨[.int .i64 I,.int .i64 J,.slice L.a L.n L.c,.slice M.a M.n M.c]⟩,.nilIface]⟩) G))
 0 t)
 (fun N=>
 bA j fun O=>
 an .i64 (Addr.add (Addr.add O 0) 2) q fun Q=>
 jl (fun (S:ah)=>[(6,some (.slice S.a S.n S.c))])
 (fun S T=>bz m (World.drew T) fun U V X Y=>
 bA j fun Z=>
 ax (Addr.add Z 21) (World.drew T) fun aa=>
 az Pr OH [.agg ⟨[.int .i64 U,.int .i64 V,.int .i64 X,.slice Y.a Y.n Y.c]⟩,.slice aa.a aa.n aa.c] (World.drew T) fun ba ca=>
 bB.bC ba fun da=>
 aD da fun ea fa=>
 bk .i64 ea fun ga=>
 aD fa fun ia ja=>
 aT ia fun ka=>
 aD ja fun la ma=>
 aT la fun na=>
 aD ma fun oa pa=>
 (pa=[]∧
 st (Addr.add p 1) (.int .i64 ga) ca fun qa=>
 st (Addr.add p 2) (.slice ka.a ka.n ka.c) qa fun sa=>
 st (Addr.add p 3) (.slice na.a na.n na.c) sa fun ta=>
 fB oa fun ua=>
 aA (!ua)
 (bH a 0 0 ⟨none,0,0⟩ ⟨none,0,0⟩ ta fun va=>
 cF a va fun xa ya za Aa=>
 R (.tuple ⟨[.agg ⟨[.int .i64 xa,.int .i64 ya,.slice za.a za.n za.c,.slice Aa.a Aa.n Aa.c]⟩,oa]⟩) va)
 (N S ta)))
 (fun Ba=>
 jL []
 (fun Ca=>bz m (World.drew Ca) fun Da Ea Fa Ga=>
 bA j fun Ia=>
 an .i64 (Addr.add (Addr.add Ia 0) 5) (World.drew Ca) fun Ja=>
 bA j fun La=>
 ax (Addr.add (Addr.add La 0) 12) (World.drew Ca) fun Ma=>
 az Pr OG [.agg ⟨[.int .i64 Da,.int .i64 Ea,.int .i64 Fa,.slice Ga.a Ga.n Ga.c]⟩,.int .i64 Ja,.slice Ma.a Ma.n Ma.c] (World.drew Ca) fun Na Oa=>
 bB.bC Na fun Qa=>
 aD Qa fun Sa Ta=>
 aT Sa fun Ua=>
 aD Ta fun Va Xa=>
 (Xa=[]∧
 fB Va fun Ya=>
 aA (!Ya)
 (cF p Oa fun Za ab bb cb=>
 bH a Za ab bb cb Oa fun db=>
 cF a db fun eb fb gb ib=>
 R (.tuple ⟨[.agg ⟨[.int .i64 eb,.int .i64 fb,.slice gb.a gb.n gb.c,.slice ib.a ib.n ib.c]⟩,Va]⟩) db)
 (bA j fun jb=>
 an .i64 (Addr.add (Addr.add jb 0) 2) Oa fun kb=>
 aA (decide (kb=10))
 (bH a 0 0 Ua ⟨none,0,0⟩ Oa fun lb=>
 cF a lb fun mb nb ob pb=>
 R (.tuple ⟨[.agg ⟨[.int .i64 mb,.int .i64 nb,.slice ob.a ob.n ob.c,.slice pb.a pb.n pb.c]⟩,.nilIface]⟩) lb)
 (Ba Ua Oa))))
 (fun qb=>
 aA (decide (Q=11))
 (aA (decide (Q=11))
 (qb q)
 (Ba ⟨none,0,0⟩ q))
 (aA (decide (Q=10))
 (qb q)
 (Ba ⟨none,0,0⟩ q))))))))))
theorem adp {j:Option Addr} {w:World} {R:Value→World→Prop} (h:Mk j w R):Ok Pr LN [.pointer j] w R:=
 aL (m:=⟨true,true⟩) (J:=[(16,[(6,.sl)]),(13,[(6,.sl)]),(8,[])]) (L:=[(17,[(78,.int .i64)])]) aJ Tryz.func58 (by kernel_rfl) ((by kernel_rfl:aK Pr _ _ _ Tryz.f58 _ w R=Mk j w R).mpr h)
def LB (j:Option Addr) (w:World) (R:Value→World→Prop):Prop:=
 nw bF (zc Pr bF) w fun a b=>
 bA j fun c=>
 an .i64 (Addr.add (Addr.add c 0) 2) b fun d=>
 aA (decide (d=13))
 (bA j fun e=>
 ax (Addr.add (Addr.add e 14) 5) (World.drew b) fun f=>
 bA j fun g=>
 an .i64 (Addr.add (Addr.add g 0) 7) (World.drew b) fun i=>
 az Pr LQ [.slice f.a f.n f.c,.int .i64 i] (World.drew b) fun k l=>
 bB.bC k fun m=>
 aD m fun n o=>
 aT n fun p=>
 aD o fun q s=>
 (s=[]∧
 bA j fun t=>
 st (Addr.add (Addr.add t 14) 5) (.slice p.a p.n p.c) l fun u=>
 bH a 0 0 ⟨none,0,0⟩ ⟨none,0,0⟩ u fun v=>
 cF a v fun x y z A=>
 R (.tuple ⟨[.agg ⟨[.int .i64 x,.int .i64 y,.slice z.a z.n z.c,.slice A.a A.n A.c]⟩,q]⟩) v))
 (bA j fun B=>
 an .i64 (Addr.add (Addr.add B 0) 10) (World.drew b) fun C=>
 bA j fun D=>
 an .i64 (Addr.add (Addr.add D 14) 0) (World.drew b) fun E=>
 aA (decide (C≤E))
 (az Pr lD [.int .i64 2] (World.drew b) fun F G=>
 bH a 0 0 ⟨none,0,0⟩ ⟨none,0,0⟩ G fun I=>
 cF a I fun J L M N=>
 R (.tuple ⟨[.agg ⟨[.int .i64 J,.int .i64 L,.slice M.a M.n M.c,.slice N.a N.n N.c]⟩,F]⟩) I)
 (bA j fun O=>
 ax (Addr.add (Addr.add O 14) 5) (World.drew (World.drew b)) fun Q=>
 bA j fun S=>
 an .i64 (Addr.add (Addr.add S 0) 4) (World.drew (World.drew b)) fun T=>
 bA j fun U=>
 an .i64 (Addr.add (Addr.add U 0) 8) (World.drew (World.drew b)) fun V=>
 bA j fun X=>
 an .i64 (Addr.add (Addr.add X 0) 9) (World.drew (World.drew b)) fun Y=>
 bA j fun Z=>
 an .i64 (Addr.add (Addr.add Z 0) 10) (World.drew (World.drew b)) fun aa=>
 az Pr NG [.slice Q.a Q.n Q.c,.agg ⟨[.int .i64 0,.int .i64 T,.int .i64 V,.int .i64 Y,.int .i64 aa,.bool false]⟩] (World.drew (World.drew b)) fun ba ca=>
 bB.bC ba fun da=>
 aD da fun ea fa=>
 aT ea fun ga=>
 aD fa fun ia ja=>
 bk .i64 ia fun ka=>
 aD ja fun la ma=>
 (ma=[]∧
 fB la fun na=>
 aA (!na)
 (bH a 0 0 ⟨none,0,0⟩ ⟨none,0,0⟩ ca fun oa=>
 cF a oa fun pa qa sa ta=>
 R (.tuple ⟨[.agg ⟨[.int .i64 pa,.int .i64 qa,.slice sa.a sa.n sa.c,.slice ta.a ta.n ta.c]⟩,la]⟩) oa)
 (bA j fun ua=>
 st (Addr.add (Addr.add ua 14) 5) (.slice ga.a ga.n ga.c) ca fun va=>
 bA j fun xa=>
 ax (Addr.add (Addr.add xa 14) 1) (World.drew va) fun ya=>
 (aF (ka - 1)∧
 aU ga.a (ka - 1) ga.n
 (iI (Addr.add (base ga.a) (Int.toNat (ka - 1) * 6)) (World.drew va) fun za Aa Ba Ca Da Ea=>
 az Pr G7 [.slice ya.a ya.n ya.c,.agg ⟨[.int .i64 za,.int .i64 Aa,.int .i64 Ba,.int .i64 Ca,.int .i64 Da,.bool Ea]⟩] (World.drew va) fun Fa Ga=>
 aT Fa fun Ia=>
 bH a 0 ka Ia ⟨none,0,0⟩ Ga fun Ja=>
 cF a Ja fun La Ma Na Oa=>
 R (.tuple ⟨[.agg ⟨[.int .i64 La,.int .i64 Ma,.slice Na.a Na.n Na.c,.slice Oa.a Oa.n Oa.c]⟩,.nilIface]⟩) Ja))))))
theorem acJ {j:Option Addr} {w:World} {R:Value→World→Prop} (h:LB j w R):Ok Pr Lw [.pointer j] w R:=
 aL (m:=⟨true,true⟩) (J:=[]) (L:=[]) aJ Tryz.func59 (by kernel_rfl) ((by kernel_rfl:aK Pr _ _ _ Tryz.f59 _ w R=LB j w R).mpr h)
def Lu (j:Option Addr) (w:World) (R:Value→World→Prop):Prop:=
 nw bF (zc Pr bF) w fun a b=>
 bA j fun c=>
 ax (Addr.add (Addr.add c 14) 4) (World.drew b) fun d=>
 bA j fun e=>
 an .i64 (Addr.add (Addr.add e 0) 4) (World.drew b) fun f=>
 (aF (f - 1)∧
 aU d.a (f - 1) d.n
 (nw bF (zc Pr bF) (World.drew b) fun g i=>
 bz (Addr.add (base d.a) (Int.toNat (f - 1) * 4)) i fun k l m n=>
 nw aV (zc Pr aV) i fun o p=>
 cA o k l m n p fun q=>
 jl (fun (s:Value)=>[(6,some (s))])
 (fun s t=>fB s fun u=>
 aA (!u)
 (bH a 0 0 ⟨none,0,0⟩ ⟨none,0,0⟩ t fun v=>
 cF a v fun x y z A=>
 R (.tuple ⟨[.agg ⟨[.int .i64 x,.int .i64 y,.slice z.a z.n z.c,.slice A.a A.n A.c]⟩,s]⟩) v)
 (bz o t fun B C D E=>
 cA (Addr.add (base d.a) (Int.toNat (f - 1) * 4)) B C D E t fun F=>
 cF g F fun G I J L=>
 bH a G I J L F fun M=>
 cF a M fun N O Q S=>
 R (.tuple ⟨[.agg ⟨[.int .i64 N,.int .i64 O,.slice Q.a Q.n Q.c,.slice S.a S.n S.c]⟩,.nilIface]⟩) M))
 (fun T=>
 bA j fun U=>
 an .i64 (Addr.add (Addr.add U 0) 2) q fun V=>
 aA (decide (V=4))
 (bz (Addr.add (base d.a) (Int.toNat (f - 1) * 4)) (World.drew q) fun X Y Z aa=>
 bA j fun ba=>
 ax (Addr.add ba 21) (World.drew q) fun ca=>
 az Pr MN [.agg ⟨[.int .i64 X,.int .i64 Y,.int .i64 Z,.slice aa.a aa.n aa.c]⟩,.slice ca.a ca.n ca.c] (World.drew q) fun da ea=>
 bB.bC da fun fa=>
 aD fa fun ga ia=>
 q9 ga fun ja ka la ma=>
 aD ia fun na oa=>
 (oa=[]∧
 cA o ja ka la ma ea fun pa=>
 fB na fun qa=>
 aA (!qa)
 (cF g pa fun sa ta ua va=>
 bH a sa ta ua va pa fun xa=>
 cF a xa fun ya za Aa Ba=>
 R (.tuple ⟨[.agg ⟨[.int .i64 ya,.int .i64 za,.slice Aa.a Aa.n Aa.c,.slice Ba.a Ba.n Ba.c]⟩,na]⟩) xa)
 (ax (Addr.add o 3) pa fun Ca=>
 st (Addr.add g 1) (.int .i64 (Ca.n:Int)) pa fun Da=>
 bz o Da fun Ea Fa Ga Ia=>
 an .i64 (Addr.add g 1) Da fun Ja=>
 az Pr Hh [.agg ⟨[.int .i64 Ea,.int .i64 Fa,.int .i64 Ga,.slice Ia.a Ia.n Ia.c]⟩,.int .i64 Ja] Da fun La Ma=>
 bB.bC La fun Na=>
 aD Na fun Oa Qa=>
 aT Oa fun Sa=>
 aD Qa fun Ta Ua=>
 (Ua=[]∧
 st (Addr.add g 2) (.slice Sa.a Sa.n Sa.c) Ma fun Va=>
 T Ta Va))))
 (bz (Addr.add (base d.a) (Int.toNat (f - 1) * 4)) (World.drew q) fun Xa Ya Za ab=>
 bA j fun bb=>
 an .i64 (Addr.add (Addr.add bb 0) 2) (World.drew q) fun cb=>
 bA j fun db=>
 an .i64 (Addr.add (Addr.add db 0) 5) (World.drew q) fun eb=>
 bA j fun fb=>
 an .i64 (Addr.add (Addr.add fb 0) 10) (World.drew q) fun gb=>
 bA j fun ib=>
 an .i64 (Addr.add (Addr.add ib 14) 0) (World.drew q) fun jb=>
 az Pr Py [.agg ⟨[.int .i64 Xa,.int .i64 Ya,.int .i64 Za,.slice ab.a ab.n ab.c]⟩,.int .i64 cb,.int .i64 eb,.int .i64 gb,.int .i64 jb] (World.drew q) fun kb lb=>
 bB.bC kb fun mb=>
 aD mb fun nb ob=>
 q9 nb fun pb qb sb tb=>
 aD ob fun ub vb=>
 (vb=[]∧
 cA o pb qb sb tb lb fun xb=>
 T ub xb)))))
theorem acC {j:Option Addr} {w:World} {R:Value→World→Prop} (h:Lu j w R):Ok Pr Lm [.pointer j] w R:=
 aL (m:=⟨true,true⟩) (J:=[(13,[(6,.val)])]) (L:=[]) aJ Tryz.func60 (by kernel_rfl) ((by kernel_rfl:aK Pr _ _ _ Tryz.f60 _ w R=Lu j w R).mpr h)
end Go.Proofs.YtgjoehgomjgckaaGreatDoor
end
section
set_option linter.unusedVariables false
set_option linter.unusedSimpArgs false
namespace Go.Ev
open Go Go.RowKit
theorem ak.g9 {w0 w:World} {S:List Nat} {L:List aE} (H:ak w0 S w L) {t:TypeId} {cs:List Value} {K:Addr→World→Prop} (h:∀ b w',ak w0 S w' (L ++ [.av b cs t])→Mod [] w w'→K ⟨b,0,none⟩ w'):Ev.nw t cs w K:=
 qv fun b w' hb h1 h2 _=>h b w' (H.push h2 h1 (by simp [aE.av,hb])) h2
theorem bE (b i j:Nat):Addr.add (Addr.add ⟨b,0,none⟩ i) j=⟨b,i+j,none⟩:=by rw [au,tw]
end Go.Ev
namespace Go.Proofs.YtgjoehgomjgckaaGreatDoor
open Go Go.Ev
set_option maxRecDepth 20000
set_option linter.unusedVariables false
def zW (q:bG) (t:aS) (s:eu) (ow:Int) (sd:ah):List Value:=
 [.int .i64 q.n0,.int .i64 q.n1,.int .i64 q.n2,.int .i64 q.n3,.int .i64 q.n4,.int .i64 q.n5,.int .i64 q.n6,.int .i64 q.n7,.int .i64 q.n8,.int .i64 q.n9,.int .i64 q.nT,.string q.name,.slice q.gp.a q.gp.n q.gp.c,.slice q.tok.a q.tok.n q.tok.c,
  .int .i64 t.clock,.slice s.sec.a s.sec.n s.sec.c,.slice s.ten.a s.ten.n s.ten.c,.slice s.aC.a s.aC.n s.aC.c,.slice s.key.a s.key.n s.key.c,.slice s.gr.a s.gr.n s.gr.c,.int .i64 ow,.slice sd.a sd.n sd.c]
def fQ (q:bG) (t:aS):Int:=if q.n2=13 then (t.aX.getD (q.n7 - 1).toNat gz).n1 else q.n4
def xx (q:bG) (t:aS):aR:=t.keys.getD (fQ q t - 1).toNat kz
def iK (op:Int):Bool:=decide (op=1) || (decide (op=2) || decide (op=3))
def rF (op:Int):Bool:=decide (op=5) || (decide (op=6) || (decide (op=7) || (decide (op=8) || (decide (op=10) || decide (op=11)))))
def gT (q:bG) (t:aS):Bool:=
 if iK q.n2=true then aP 1 (t.bI.length:Int) q.n3
 else (decide (q.n2≠13) || aP 1 (t.aX.length:Int) q.n7) && (aP 1 (t.keys.length:Int) (fQ q t) &&
  (if rF q.n2=true then (iT (xx q t) q.n5).isSome else decide (q.n2≠12) || aP 1 (t.aC.length:Int) q.n8))
def oz (q:bG) (t:aS):Int:=if iK q.n2=true then q.n3 else (xx q t).ten
def cW (b:Nat) (q:bG) (t:aS) (s:eu) (ow:Int) (sd:ah) (ys zs:List ah) (fp fq:List Nat):List aE:=.av b (zW q t s ow sd) wG :: iW s t ys zs fp fq
theorem AP (c:Int) (hc:c≠0) (w:World):Ok Pr lD [.int .i64 c] w fun v w'=>cO w w' v c∧Mod [] w w':=by
 refine aei ?_
 unfold Nt
 exact qv fun b w' hb h1 h2 _=>⟨cO.mk h1 (by omega) hc,h2⟩
theorem Dp (id many:Int) (w:World):Ok Pr yC [.int .i64 id,.int .i64 many] w fun v w'=>v=.bool (aP 1 many id)∧w'=w:=by
 refine aej ?_
 unfold Nu
 exact ⟨rfl,rfl⟩
theorem uU {w0 w:World} {S:List Nat} {b:Nat} {q:bG} {t:aS} {s:eu} {ow:Int} {sd:ah} {ys zs:List ah} {fp fq:List Nat} (H:ak w0 S w (cW b q t s ow sd ys zs fp fq)):iN w s t:=o8 (L:=[_]) H
theorem RX {w0 w:World} {S:List Nat} {b:Nat} {q:bG} {t:aS} {s:eu} {ow:Int} {sd:ah} {ys zs:List ah} {fp fq:List Nat} {M:List aE} (H:ak w0 S w (cW b q t s ow sd ys zs fp fq ++ M)) {i:Nat} {x:ah} {k:aR} (hx:zs[i]? = some x) (hk:t.keys[i]? = some k):j0 w x k.aH:=by
 have h:bw gq w zs t.keys:=H.box 7 rfl
 exact h.2 i x k hx hk
theorem RD {w0 w:World} {S:List Nat} {b:Nat} {q:bG} {t:aS} {s:eu} {ow:Int} {sd:ah} {ys zs:List ah} {fp fq:List Nat} {M:List aE} (H:ak w0 S w (cW b q t s ow sd ys zs fp fq ++ M)) {i:Nat} (hi:i<t.keys.length) :
  t.keys[i]? = some (t.keys.getD i kz)∧(s.key.a.isSome=true∧(0:Int)≤(i:Int)∧(i:Int)<(s.key.n:Int))∧∃ x,zs[i]? = some x∧∀ (j:Nat) (v:Value),((t.keys.getD i kz).cs x)[j]? = some v→w.cell? (Addr.add (Addr.add (base s.key.a) (Int.toNat (i:Int) * 4)) j)=some v:=by
 have hk:t.keys[i]? = some (t.keys.getD i kz):=by rw [List.getD_eq_getElem?_getD,List.getElem?_eq_getElem hi]; rfl
 have h:bw gq w zs t.keys:=H.box 7 rfl
 have hr:=H.fI 6 rfl
 have hl:=hr.len
 rw [ir aR.ct _ _ h.1] at hl
 have hx:zs[i]? = some (zs[i]'(by rw [h.1]; exact hi)):=List.getElem?_eq_getElem _
 refine ⟨hk,⟨hr.pre (by omega),by omega,by omega⟩,_,hx,fun j v hv=>?_⟩
 rw [Int.toNat_natCast]
 exact hr.uX aR.ct hk hx hv
theorem wQ {n:Int} {m:Nat} (h:aP 1 (m:Int) n=true):∃ i:Nat,n - 1=(i:Int)∧(n - 1).toNat=i∧i<m:=by
 unfold aP at h
 rw [Bool.and_eq_true,decide_eq_true_eq,decide_eq_true_eq] at h
 exact ⟨(n - 1).toNat,by omega,rfl,by omega⟩
theorem adJ {w0 w:World} {b:Nat} {q:bG} {t:aS} {s:eu} {ow:Int} {sd:ah} {ys zs:List ah} {fp fq:List Nat} (H:ak w0 [] w (cW b q t s ow sd ys zs fp fq)) (hs:t.small) (hq:aF q.n4∧aF q.n7) :
  Ok Pr LC [.pointer (some ⟨b,0,none⟩)] w fun v w'=>v=.bool (gT q t)∧∃ q' kK,(gT q t=true→q'={ q with n4:=fQ q t }∧kK=oz q t)∧ak w0 [] w' (cW b q' t s kK sd ys zs fp fq):=by
 refine acV ?_
 unfold LL
 rw [o6,wZ]
 have hR:=uU H
 have wo:=hR.ten.len
 have qV:=hR.aC.len
 have ux:=hR.key.len
 have Kq:=hR.gr.len
 have vS:∀ i,i<t.keys.length→(t.keys.getD i kz).aH.length≤1000:=fun i hi=>xk hs hi
 obtain ⟨hq4,hq7⟩:=hq
 have yp:=hs.key
 have CV:=hs.gr
 have no:∀ {w':World} (q':bG) (kK:Int),gT q t=false→ak w0 [] w' (cW b q' t s kK sd ys zs fp fq)→(fun (v:Value) (w':World)=>v=.bool (gT q t)∧∃ q' kK,(gT q t=true→q'={ q with n4:=fQ q t }∧kK=oz q t)∧ak w0 [] w' (cW b q' t s kK sd ys zs fp fq)) (.bool false) w':=fun q' kK h D=>⟨by rw [h],q',kK,fun h2=>(by rw [h] at h2; cases h2),D⟩
 refine jV fun go bY=>?_
 have key:∀ (w1:World),iK q.n2=false→(q.n2≠13∨aP 1 (t.aX.length:Int) q.n7=true)→ak w0 [] w1 (cW b { q with n4:=fQ q t } t s ow sd ys zs fp fq)→go w1:=by
  intro w1 oP hgr H
  refine bY w1 ?_
  have eF:gT q t=(aP 1 (t.keys.length:Int) (fQ q t) && (if rF q.n2=true then (iT (xx q t) q.n5).isSome else decide (q.n2≠12) || aP 1 (t.aC.length:Int) q.n8)):=by
   unfold gT
   rw [if_neg (by rw [oP]; decide)]
   rcases hgr with h | h
   ·rw [decide_eq_true h,Bool.true_or,Bool.true_and]
   ·rw [h,Bool.or_true,Bool.true_and]
  have D:=H.drew
  refine nc (D.an 0 rfl (bE b 0 4) rfl (nc (D.ax 0 rfl (bE b 14 4) rfl (aB (Dp _ _ _) ?_))))
  rintro _ w2 ⟨rfl,qT⟩
  subst qT
  refine bu ?_
  show aA (!aP 1 (s.key.n:Int) (fQ q t)) _ _
  rw [← ux]
  cases c1:aP 1 (t.keys.length:Int) (fQ q t) with
  | false=>exact ite_true rfl (no _ _ (by rw [eF,c1]; rfl) D)
  | true=>
  rw [c1,Bool.true_and] at eF
  obtain ⟨i,ei,en,hi⟩:=wQ c1
  have hJ:xx q t=t.keys.getD i kz:=by unfold xx; rw [en]
  have hoT:oz q t=(xx q t).ten:=by unfold oz; rw [if_neg (by rw [oP]; decide)]
  have hvi:=vS i hi
  have D2:=D.drew
  obtain ⟨mL,dh,x,dy,hc⟩:=RD (M:=[]) D2 hi
  have hib:aF (fQ q t - 1):=by unfold aF; omega
  refine ite_false rfl (nc (D2.ax 0 rfl (bE b 14 4) rfl (nc (D2.an 0 rfl (bE b 0 4) rfl ⟨hib,?_⟩))))
  show aU s.key.a (fQ q t - 1) s.key.n _
  rw [hJ] at eF hoT
  rw [ei]
  generalize t.keys.getD i kz=k at *
  refine ⟨dh,qo hc (D2.g9 fun p w3 E m3=>⟨yY m3 (hc 0 _ rfl),D2.kept m3 0 rfl (bE b 0 4) 1,D2.kept m3 0 rfl (bE b 14 4) 1,E.cA 8 rfl rfl fun w4 E=>E.an 8 rfl (au p 1) rfl (nc (E.st 0 rfl (au b 20) (by show 20<22; omega) rfl fun w5 E=>?_))⟩)⟩
  have E:ak w0 [] w5 (cW b { q with n4:=fQ q t } t s k.ten sd ys zs fp fq ++ [.av p (dA k.id k.ten k.set x) aV]):=E
  have yes:∀ {w':World},gT q t=true→ak w0 [] w' (cW b { q with n4:=fQ q t } t s k.ten sd ys zs fp fq)→(fun (v:Value) (w':World)=>v=.bool (gT q t)∧∃ q' kK,(gT q t=true→q'={ q with n4:=fQ q t }∧kK=oz q t)∧ak w0 [] w' (cW b q' t s kK sd ys zs fp fq)) (.bool true) w':=fun h D=>⟨by rw [h],_,_,fun _=>⟨rfl,hoT.symm⟩,D⟩
  have any:∀ {w':World} (r:Bool),gT q t=r→ak w0 [] w' (cW b { q with n4:=fQ q t } t s k.ten sd ys zs fp fq)→(fun (v:Value) (w':World)=>v=.bool (gT q t)∧∃ q' kK,(gT q t=true→q'={ q with n4:=fQ q t }∧kK=oz q t)∧ak w0 [] w' (cW b q' t s kK sd ys zs fp fq)) (.bool r) w':=fun r h D=>by
   cases r with
   | true=>exact yes h D
   | false=>exact no _ _ h D
  have uy:∀ {w':World} {M:List aE},ak w0 [] w' (cW b { q with n4:=fQ q t } t s k.ten sd ys zs fp fq ++ M)→fO w' x k.aH:=fun D=>(RX D dy mL).aH
  refine nc (E.an 0 rfl (bE b 0 2) rfl (jA fun jG iB=>?_))
  have G:jG (rF q.n2) w5:=by
   refine iB _ _ ?_
   have E2:=E.drew
   cases hv:rF q.n2 with
   | true=>
    rw [hv,if_pos rfl] at eF
    refine ite_true rfl (E2.bz 8 rfl (nc (E2.an 0 rfl (bE b 0 5) rfl ⟨?_,?_⟩)))
    ·refine aB (DC k x q.n5 (by omega) _ (uy E2)) ?_
     rintro _ w7 ⟨y,rfl,hy⟩
     have E3:=E2.frame hy.mod
     refine ⟨_,rfl,wz ⟨_,rfl,rfl,E3.g9 fun p1 w8 E4 m8=>⟨E3.kept m8 0 rfl (bE b 0 5) 1,E3.kept m8 8 rfl rfl 4,E4.gu 9 rfl rfl fun w9 E5=>any _ eF (E5.take 8)⟩⟩⟩
    ·refine E2.g9 fun p1 w8 E4 m8=>⟨E2.kept m8 0 rfl (bE b 0 5) 1,E2.kept m8 8 rfl rfl 4,aB (DC k x q.n5 (by omega) _ (uy (M:=[_,_]) E4)) ?_⟩
     rintro _ w7 ⟨y,rfl,hy⟩
     have E5:=E4.frame hy.mod
     refine ⟨_,rfl,wz ⟨_,rfl,rfl,E5.gu 9 rfl rfl fun w9 E6=>any _ eF (E6.take 8)⟩⟩
   | false=>
    rw [hv,if_neg (by decide)] at eF
    refine ite_false rfl (bU (fun h=>?_) (fun h=>?_))
    ·have h:=of_decide_eq_true h
     have iC:q.n2=12:=h
     rw [decide_eq_false (by omega),Bool.false_or,qV] at eF
     refine nc (E2.an 0 rfl (bE b 0 8) rfl (nc (E2.ax 0 rfl (bE b 14 3) rfl (aB (Dp _ _ _) ?_))))
     rintro _ w7 ⟨rfl,sN⟩
     subst sN
     exact bu (any _ eF (E2.take 8))
    ·have h:¬ q.n2=12:=of_decide_eq_false h
     rw [decide_eq_true h,Bool.true_or] at eF
     exact yes eF (E.take 8)
  show aA (decide (q.n2=5)) _ _
  have tv:∀ {z:Int},rF z=true→q.n2=z→jG (decide (q.n2=z)) w5:=fun hz e=>by
   rw [e] at G ⊢
   rw [hz] at G
   rw [decide_eq_true rfl]
   exact G
  refine bU (fun h=>tv rfl (of_decide_eq_true h)) fun h5=>?_
  refine bU (fun h=>tv rfl (of_decide_eq_true h)) fun h6=>?_
  refine bU (fun h=>tv rfl (of_decide_eq_true h)) fun h7=>?_
  refine bU (fun h=>tv rfl (of_decide_eq_true h)) fun h8=>?_
  refine bU (fun h=>tv rfl (of_decide_eq_true h)) fun iO=>?_
  have e:rF q.n2=decide (q.n2=11):=by
   unfold rF
   have h5:decide (q.n2=5)=false:=h5
   have h6:decide (q.n2=6)=false:=h6
   have h7:decide (q.n2=7)=false:=h7
   have h8:decide (q.n2=8)=false:=h8
   have iO:decide (q.n2=10)=false:=iO
   rw [h5,h6,h7,h8,iO]; rfl
  rw [e] at G
  exact G
 refine nc (H.an 0 rfl (bE b 0 2) rfl (jA fun go2 pJ=>?_))
 have G:go2 (iK q.n2) w:=by
  refine pJ _ _ ?_
  cases hm:iK q.n2 with
  | true=>
   have eF:gT q t=aP 1 (t.bI.length:Int) q.n3:=by unfold gT; rw [if_pos hm]
   have eo:oz q t=q.n3:=by unfold oz; rw [if_pos hm]
   have CX:q.n2≠13:=fun h=>by rw [h] at hm; cases hm
   have eK:fQ q t=q.n4:=by unfold fQ; rw [if_neg CX]
   refine ite_true rfl (nc (H.an 0 rfl (bE b 0 3) rfl (nc (H.st 0 rfl (au b 20) (by show 20<22; omega) rfl fun w5 E=>?_))))
   have E:ak w0 [] w5 (cW b q t s q.n3 sd ys zs fp fq):=E
   have E2:=E.drew
   refine nc (E2.an 0 rfl (bE b 0 3) rfl (nc (E2.ax 0 rfl (bE b 14 2) rfl (aB (Dp _ _ _) ?_))))
   rintro _ w7 ⟨rfl,sN⟩
   subst sN
   refine bu ⟨by rw [eF,wo],q,q.n3,fun _=>⟨by rw [eK],eo.symm⟩,E2⟩
  | false=>
   refine ite_false rfl (bU (fun h=>?_) (fun h=>?_))
   ·have j9:q.n2=13:=of_decide_eq_true h
    have H2:=H.drew
    refine nc (H2.an 0 rfl (bE b 0 7) rfl (nc (H2.ax 0 rfl (bE b 14 5) rfl (aB (Dp _ _ _) ?_))))
    rintro _ w7 ⟨rfl,sN⟩
    subst sN
    refine bu ?_
    show aA (!aP 1 (s.gr.n:Int) q.n7) _ _
    rw [← Kq]
    cases c1:aP 1 (t.aX.length:Int) q.n7 with
    | false=>
     refine ite_true rfl (no _ _ ?_ H2)
     unfold gT
     rw [if_neg (by rw [hm]; decide),c1,decide_eq_false (by omega)]; rfl
    | true=>
     obtain ⟨i,ei,en,hi⟩:=wQ c1
     have H3:=H2.drew
     have hR3:iN _ s t:=uU H3
     have eK:fQ q t=(t.aX.getD i gz).n1:=by unfold fQ; rw [if_pos j9,en]
     refine ite_false rfl (nc (H3.ax 0 rfl (bE b 14 5) rfl (nc (H3.an 0 rfl (bE b 0 7) rfl ⟨by unfold aF; omega,?_⟩))))
     show aU s.gr.a (q.n7 - 1) s.gr.n _
     rw [ei]
     refine ⟨⟨hR3.gr.pre (by omega),by omega,by omega⟩,_,by rw [Int.toNat_natCast]; exact gQ.cell (j:=1) hR3.gr hi rfl,nc (H3.st 0 rfl (bE b 0 4) (by show 4<22; omega) rfl fun w5 E=>key w5 hm (.inr c1) ?_)⟩
     rw [eK]
     exact E
   ·have j9:¬ q.n2=13:=of_decide_eq_false h
    have eK:fQ q t=q.n4:=by unfold fQ; rw [if_neg j9]
    refine key w hm (.inl j9) ?_
    rw [eK]
    exact H
 show aA (decide (q.n2=1)) _ _
 have tv:∀ {z:Int},iK z=true→q.n2=z→go2 (decide (q.n2=z)) w:=fun hz e=>by
  rw [e] at G ⊢
  rw [hz] at G
  rw [decide_eq_true rfl]
  exact G
 refine bU (fun h=>tv rfl (of_decide_eq_true h)) fun h1=>?_
 refine bU (fun h=>tv rfl (of_decide_eq_true h)) fun h2=>?_
 have e:iK q.n2=decide (q.n2=3):=by
  unfold iK
  have h1:decide (q.n2=1)=false:=h1
  have h2:decide (q.n2=2)=false:=h2
  rw [h1,h2]; rfl
 rw [e] at G
 exact G
end Go.Proofs.YtgjoehgomjgckaaGreatDoor
end
