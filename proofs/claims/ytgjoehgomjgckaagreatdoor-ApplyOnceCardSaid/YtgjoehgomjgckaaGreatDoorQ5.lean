/- Texts of this claim, packed and shortened. -/
import Derived.Laws.StructEq
import Derived.KernelRfl
import Derived.Test.YtgjoehgomjgckaaGreatDoorQ4
import Derived.Test.YtgjoehgomjgckaaGreatDoorQ3
import Derived.Test.YtgjoehgomjgckaaGreatDoorQ2
import Derived.Test.YtgjoehgomjgckaaGreatDoorQ1
section
set_option linter.unusedVariables false
set_option linter.unusedSimpArgs false
namespace Go.Proofs.YtgjoehgomjgckaaGreatDoor
open Go Go.Ev
set_option maxRecDepth 20000
set_option linter.unusedVariables false
theorem Rq:e6 Pr sO cI 4 48:=e6.of (by kernel_rfl)
theorem bn.lV (v:bn) (x:ah):∀ u∈v.cs x,ek u=true:=by
 intro u hu
 simp only [bn.cs,uv,List.mem_cons,List.not_mem_nil,or_false] at hu
 rcases hu with rfl | rfl | rfl | rfl <;> rfl
theorem Uv (x:ah) (vs:List bn) (xs:List ah) (jM:xs.length=vs.length) (hl:vs.length≤1000000) (w:World) (hx:Sl w x 4 (bA bn.cs vs xs)):Ok Pr Gv [.slice x.a x.n x.c] w fun v w'=>∃ y:ah,v=.slice y.a y.n y.c∧Own w' w.heap.size cI 4 y (bA bn.cs vs xs)∧y.n=x.n∧Mod [] w w':=by
 refine abL ?_
 unfold Kq
 have bT:=hx.len
 rw [iO bn.cu vs xs jM] at bT
 refine bU (fun h=>?_) (fun h=>?_)
 ·have h0:x.n=0:=by
   rcases Nat.eq_zero_or_pos x.n with e | e
   ·exact e
   ·have:=Sl.pre hx e
    cases ha:x.a with
    | none=>rw [ha] at this; cases this
    | some a=>rw [ha] at h; cases h
  obtain rfl:vs=[]:=List.eq_nil_of_length_eq_zero (by omega)
  exact ⟨⟨none,0,0⟩,rfl,Own.nil _ _ _ _,h0.symm,Mod.refl _ _⟩
 ·refine (ak.start w).nw fun p w1 H _=>?_
  have H:=H.rz 0 4 0 0 rfl rfl (Nat.le_refl _) (by simp only [maxLen]; omega)
  refine H.app (s:=⟨some ⟨p,0,none⟩,0,0⟩) (vs:=[]) 0 Rq rfl (hx.aE H.mod) (uF bn.lV vs xs) (by show (0+x.n) * 48≤_; omega) (by show 0+x.n≤_; omega) fun y w2 H hy=>?_
  exact ⟨y,rfl,H.fN 0 rfl,by rw [hy]; exact Nat.zero_add _,H.mod⟩
theorem o5:zc Pr aZ=[.int .i64 0,.int .i64 0,.int .i64 0,.slice none 0 0]:=by kernel_rfl
theorem wR:zc Pr cI=[.int .i64 0,.int .i64 0,.int .i64 0,.slice none 0 0]:=by kernel_rfl
theorem Rc (a:bn) (x z:ah):a.cs z=(a.cs x).set 3 z.v:=rfl
theorem nG.S2 {w w':World} {v:Value} {l:List B8} (h:nG w w' v l):∃ y:ah,v=.slice y.a y.n y.c∧fJ w w' fun w=>Own w 0 bh 1 y (bp l):=by
 obtain ⟨y,rfl,hy,m⟩:=h
 exact ⟨y,rfl,fJ.Ek hy m fun w2 h=>h⟩
theorem Hv (k:aV) (x:ah) (hl:k.aH.length≤1000) (hs:∀ v∈k.aH,v.aq.length≤1000000) (w:World) (hx:fY w x k.aH):Ok Pr A8 [.agg ⟨k.cs x⟩] w fun r w'=>∃ y:ah,r=.agg ⟨k.cs y⟩∧Jv w w' y k.aH:=by
 refine agn ?_
 unfold Qn
 rw [o5]
 have bT:=hx.len
 obtain ⟨xs,dS,cA⟩:=hx
 refine (ak.start w).nw fun p w1 H _=>H.nw fun p1 w2 H _=>?_
 have H:ak w [] w2 [.av p (dF k.id k.ten k.set x) aZ,.av p1 [.int .i64 0,.int .i64 0,.int .i64 0,.slice none 0 0] aZ]:=H
 refine H.ax 0 rfl (au p 3) rfl (aB (Uv x k.aH xs cA.1 (by omega) _ (dS.aE H.mod)) ?_)
 rintro _ w3 ⟨y,rfl,hy,xP,m3⟩
 have H:=H.cF m3 hy
 refine bV (H.st 0 rfl (au p 3) (by show 3<4; omega) rfl fun w4 H=>H.ax 0 rfl (au p 3) rfl ?_)
 have H:ak w [] w4 ([.av p (dF k.id k.ten k.set y) aZ,.av p1 [.int .i64 0,.int .i64 0,.int .i64 0,.slice none 0 0] aZ] ++ [.row cI 4 y (bA bn.cs k.aH xs)]):=H
 refine dw 0 k.aH.length (fun i w'=>gh bn.cs 4 ir cI w [] [.av p (dF k.id k.ten k.set y) aZ,.av p1 [.int .i64 0,.int .i64 0,.int .i64 0,.slice none 0 0] aZ] w' y k.aH xs i) rfl (by omega) (gh.start H) ?_ ?_
 ·intro again i w5 _ hi R aM
  have R:=R.frame (Mod.drew [] w5)
  have ha:k.aH[i]? = some k.aH[i]:=List.getElem?_eq_getElem hi
  have dB:xs[i]? = some (xs[i]'(by rw [cA.1]; exact hi)):=List.getElem?_eq_getElem _
  have iL:=hs _ (List.getElem_mem hi)
  have sF:=cA.2 i _ _ dB ha
  obtain ⟨dm,hc⟩:=R.at bn.cu (by omega) cA.1 ha dB
  generalize k.aH[i]=v at *
  generalize xs[i]'(by rw [cA.1]; exact hi)=z at *
  have F:=R.front
  refine ite_true (decide_eq_true (by omega)) (F.ax 0 rfl (au p 3) rfl (F.ax 0 rfl (au p 3) rfl ⟨dm,z,hc 3 z.v rfl,aB (CX z v.aq iL _ (Bytes.aE sF F.mod)) ?_⟩))
  rintro _ w6 h6
  obtain ⟨u,rfl,hu⟩:=h6.S2
  refine bV ⟨F.j0 0 rfl hu.mod 3,dm,R.step bn.cu cA.1 ha dB (hu:fJ _ _ fun w=>ir w u v) (by omega:3<4) (Rc v z u) fun w7 R=>⟨⟨by omega,by omega⟩,aM w7 R⟩⟩
 ·intro again w5 R
  obtain ⟨ys,fp,H⟩:=R.done rfl cA.1
  refine ite_false (decide_eq_false (by omega)) (H.bu 0 rfl (H.cD 1 rfl rfl fun w8 H=>H.bu 1 rfl ⟨y,rfl,ys,fp,H.drop 2⟩))
theorem Vq (n:Int) (x:ah) (aq:List B8) (hs:aq.length≤1000000) (w:World) (hx:Bytes w x aq):Ok Pr G8 [.int .i64 n,.slice x.a x.n x.c] w fun r w'=>∃ y:ah,r=.agg ⟨(bn.mk n 1 0 aq).cs y⟩∧fJ w w' fun w=>Own w 0 bh 1 y (bp aq):=by
 refine aeI ?_
 unfold Oo
 rw [wR]
 refine (ak.start w).nw fun p w1 H _=>aB (CX x aq hs _ (hx.aE H.mod)) ?_
 rintro _ w2 ⟨y,rfl,hy,m2⟩
 have H:=H.cF m2 hy
 refine bV (H.gx 0 rfl rfl fun w3 H=>H.jt 0 rfl ⟨y,rfl,?_⟩)
 exact H.boxed fun w' h=>h 1 _ rfl
def zO (id ten set:Int) (aq:List B8):aV:=⟨id,ten,set,[⟨1,1,0,aq⟩]⟩
def mz (id ten set:Int) (aq:List B8):Int:=if cS (zO id ten set aq)=true then 0 else 2
def qH (id ten set:Int) (aq:List B8):aV:=if mz id ten set aq=0 then zO id ten set aq else kz
def BJ (w w':World) (v:Value) (k:aV) (c:Int):Prop:=∃ (y:ah) (er:Value),v=.tuple ⟨[.agg ⟨k.cs y⟩,er]⟩∧(fJ w w' fun w=>j3 w y k.aH)∧cO w w' er c
theorem DZ {w w':World} {Q:World→Prop} (m:Mod [] w w') (h:∀ w,Q w):fJ w w' Q:=((ak.start w).frame m).boxed fun w' _=>h w'
theorem fY.one {w:World} {p:Nat} {y:ah} {v:bn} {t:TypeId} (h:bW w p (v.cs y) t) (hy:kB w y v):fY w ⟨some ⟨p,0,none⟩,1,1⟩ [v]:=by
 refine ⟨[y],?_,rfl,fun i x l hx hl=>?_⟩
 ·have:=h.sl 4 1 1 (by rw [bn.cu]; decide) (by omega)
  rw [wO]
  simpa [bn.cs,uv] using this
 ·cases i with
  | zero=>
   simp only [List.getElem?_cons_zero,Option.some.injEq] at hx hl
   subst hx hl; exact hy
  | succ i=>simp at hx
theorem j3.nil (w:World):j3 w ⟨none,0,0⟩ []:=⟨[],Own.nil w 0 cI 4,rfl,fun i x l h=>by simp at h⟩
theorem j3.one {w:World} {p:Nat} {y:ah} {v:bn} (h:bW w p (v.cs y) cI) (hy:ir w y v):j3 w ⟨some ⟨p,0,none⟩,1,1⟩ [v]:=by
 refine ⟨[y],?_,rfl,fun i x l hx hl=>?_⟩
 ·have:=h.own 4 1 1 (by rw [bn.cu]) (by omega) (by simp only [maxLen]; omega)
  rw [wO]
  exact this
 ·cases i with
  | zero=>
   simp only [List.getElem?_cons_zero,Option.some.injEq] at hx hl
   subst hx hl; exact hy
  | succ i=>simp at hx
theorem VR (id ten set:Int) (x:ah) (aq:List B8) (hs:aq.length≤1000000) (w:World) (hx:Bytes w x aq):Ok Pr HB [.int .i64 id,.int .i64 ten,.int .i64 set,.slice x.a x.n x.c] w fun r w'=>BJ w w' r (qH id ten set aq) (mz id ten set aq):=by
 refine ago ?_
 unfold Qo
 rw [o5]
 have hC:mz id ten set aq=if cS (zO id ten set aq)=true then 0 else 2:=rfl
 have hR:qH id ten set aq=if mz id ten set aq=0 then zO id ten set aq else kz:=rfl
 generalize mz id ten set aq=C at *
 generalize qH id ten set aq=R at *
 refine (ak.start w).nw fun p w1 H _=>aB (Vq 1 x aq hs _ (hx.aE H.mod)) ?_
 rintro _ w2 ⟨y,rfl,hy⟩
 obtain ⟨fp,H⟩:=H.g9 hy
 refine wh (H.nw fun p1 w3 H _=>H.nw fun p2 w4 H _=>H.cD 3 rfl rfl fun w5 H=>H.bu 3 rfl ?_)
 have H:ak w [] w5 [.av p [.int .i64 0,.int .i64 0,.int .i64 0,.slice none 0 0] aZ,.box fp fun w=>Own w 0 bh 1 y (bp aq),.av p1 ((bn.mk 1 1 0 aq).cs y) cI,.av p2 (dF id ten set ⟨some ⟨p1,0,none⟩,1,1⟩) aZ]:=H
 refine aB (wC (zO id ten set aq) ⟨some ⟨p1,0,none⟩,1,1⟩ (by show 1≤1000000; omega) _ (fY.one (H.av 2 rfl) (ir.r (v:=⟨1,1,0,aq⟩) (H.box 1 rfl)))) ?_
 rintro _ w6 ⟨rfl,m6⟩
 have H:=H.frame m6
 refine bk ?_
 cases hm:cS (zO id ten set aq) with
 | false=>
  rw [hm,if_neg (by decide)] at hC
  rw [hC,if_neg (by decide)] at hR
  subst hR
  rw [hC]
  refine ite_true rfl (aB (AP 2 (by decide) w6) ?_)
  rintro e w7 ⟨h,m7⟩
  have H:=H.gG m7 h
  refine H.cD 0 rfl rfl fun w8 H=>H.bu 0 rfl ⟨⟨none,0,0⟩,e,rfl,DZ H.mod fun w=>j3.nil w,?_⟩
  exact ⟨H.ok 4 _ rfl,fun b hb=>(H.own 4 _ rfl b hb).resolve_left (by simp)⟩
 | true=>
  rw [hm,if_pos rfl] at hC
  rw [hC,if_pos rfl] at hR
  subst hR
  rw [hC]
  refine ite_false rfl (H.bu 3 rfl (H.cD 0 rfl rfl fun w8 H=>H.bu 0 rfl ⟨⟨some ⟨p1,0,none⟩,1,1⟩,.nilIface,rfl,?_,qw _ _⟩))
  refine H.boxed fun w' h=>j3.one (h 2 _ rfl) ?_
  have h2:(aD.box fp fun w=>Own w 0 bh 1 y (bp aq)).ok w':=h 1 _ rfl
  exact h2.2 w' fun _ _=>rfl
end Go.Proofs.YtgjoehgomjgckaaGreatDoor
end
section
set_option linter.unusedVariables false
set_option linter.unusedSimpArgs false
namespace Go.Proofs.YtgjoehgomjgckaaGreatDoor
open Go Go.Ev
set_option maxRecDepth 20000
set_option linter.unusedVariables false
theorem Zs {vs:List bn}:∀ n,l9 vs n=true→∀ i,i<n→gA (vs.getD i vz) ((i:Int)+1)=true
 | 0,_,i,hi=>by omega
 | n+1,h,i,hi=>by
  change (l9 vs n && gA (vs.getD n vz) ((n:Int)+1))=true at h
  rw [Bool.and_eq_true] at h
  rcases Nat.lt_or_ge i n with h2 | h2
  ·exact Zs n h.1 i h2
  ·rw [show i=n by omega]; exact h.2
theorem Rr {v:bn} {n:Int} (h:gA v n=true):v.n=n∧1≤v.st∧v.st≤4∧(v.st=4→v.aq.length=0)∧(v.st≠4→v.aq.length=64)∧(v.st≠3→v.due=0)∧(v.st=3→1≤v.due∧v.due≤1099511627776):=by
 unfold gA at h
 rw [Bool.and_eq_true,decide_eq_true_eq] at h
 obtain ⟨h1,h2⟩:=h
 refine ⟨h1,?_⟩
 split at h2
 ·rename_i h3
  unfold aP at h2
  simp only [Bool.and_eq_true,decide_eq_true_eq] at h2
  exact ⟨by omega,by omega,fun h=>by omega,fun _=>h2.2,fun h=>absurd h3 h,fun _=>h2.1⟩
 ·rename_i h3
  split at h2
  ·rename_i h4
   simp only [Bool.and_eq_true,decide_eq_true_eq] at h2
   exact ⟨by omega,by omega,fun _=>h2.2,fun h=>absurd h4 h,fun _=>h2.1,fun h=>absurd h h3⟩
  ·rename_i h4
   split at h2
   ·rename_i h5
    simp only [Bool.and_eq_true,decide_eq_true_eq] at h2
    exact ⟨by omega,by omega,fun h=>absurd h h4,fun _=>h2.2,fun _=>h2.1,fun h=>absurd h h3⟩
   ·cases h2
theorem wS {k:aV} (h:cS k=true):(1≤k.id∧k.id≤6)∧(1≤k.ten∧k.ten≤8)∧(1≤k.set∧k.set≤3)∧(1≤k.aH.length∧k.aH.length≤5)∧∀ i,i<k.aH.length→gA (k.aH.getD i vz) ((i:Int)+1)=true:=by
 unfold cS aP at h
 simp only [Bool.and_eq_true,decide_eq_true_eq] at h
 obtain ⟨h1,h2,h3,h4,h5⟩:=h
 exact ⟨h1,h2,h3,⟨by omega,by omega⟩,Zs _ h5⟩
theorem aj2 {k:aV} (h:cS k=true):isSet k.set=true:=by
 obtain ⟨_,_,h3,_⟩:=wS h
 unfold isSet
 have:k.set=1∨k.set=2∨k.set=3:=by omega
 rcases this with e | e | e <;> rw [e] <;> rfl
theorem HN {k:aV} (h:cS k=true):k.aH.length≤1000∧∀ v∈k.aH,v.aq.length≤64:=by
 obtain ⟨_,_,_,h4,h5⟩:=wS h
 refine ⟨by omega,fun v hv=>?_⟩
 obtain ⟨i,hi,rfl⟩:=List.getElem_of_mem hv
 have:=h5 i hi
 rw [List.getD_eq_getElem?_getD,List.getElem?_eq_getElem hi] at this
 change gA k.aH[i] _=true at this
 obtain ⟨_,_,_,h6,h7,_⟩:=Rr this
 by_cases h:(k.aH[i]).st=4
 ·have:=h6 h; omega
 ·have:=h7 h; omega
def iQ (k:aV) (n:Int):Option bn:=if (cS k && aP 1 (k.aH.length:Int) n)=true then some (k.aH.getD (n - 1).toNat vz) else none
def Zt (w w':World) (v:Value) (o:Option bn):Prop:=∃ y:ah,v=.tuple ⟨[.agg ⟨(o.getD vz).cs y⟩,.bool o.isSome]⟩∧fJ w w' fun w=>kB w y (o.getD vz)
theorem Yz (w:World):kB w ⟨none,0,0⟩ vz:=Sl.nil w 1
theorem Qr {k:aV} {n:Int} {v:bn} (h:iQ k n=some v):cS k=true∧1≤n∧n≤k.aH.length∧v=k.aH.getD (n - 1).toNat vz∧gA v n=true:=by
 unfold iQ at h
 split at h
 ·rename_i hc
  rw [Bool.and_eq_true] at hc
  obtain ⟨h1,h2⟩:=hc
  unfold aP at h2
  simp only [Bool.and_eq_true,decide_eq_true_eq] at h2
  have e:v=k.aH.getD (n - 1).toNat vz:=(Option.some.inj h).symm
  refine ⟨h1,h2.1,h2.2,e,?_⟩
  obtain ⟨_,_,_,_,h5⟩:=wS h1
  have:=h5 (n - 1).toNat (by omega)
  rw [← e,show (((n - 1).toNat:Nat):Int)+1=n by omega] at this
  exact this
 ·cases h
theorem Ds (k:aV) (x:ah) (n:Int) (hl:k.aH.length≤1000000) (w:World) (hx:fY w x k.aH):Ok Pr yz [.agg ⟨k.cs x⟩,.int .i64 n] w fun r w'=>Zt w w' r (iQ k n):=by
 refine afr ?_
 unfold Pk
 rw [wR]
 have bT:=hx.len
 refine (ak.start w).nw fun p w1 H _=>H.nw fun p1 w2 H _=>?_
 have H:ak w [] w2 [.av p (dF k.id k.ten k.set x) aZ,.av p1 [.int .i64 0,.int .i64 0,.int .i64 0,.slice none 0 0] cI]:=H
 refine ku fun go bZ=>jv fun jC iw=>H.bu 0 rfl (aB (wC k x hl _ (hx.aE H.mod)) ?_)
 rintro _ w3 ⟨rfl,m3⟩
 have H:=H.frame m3
 have no:∀ w4,ak w [] w4 [.av p (dF k.id k.ten k.set x) aZ,.av p1 [.int .i64 0,.int .i64 0,.int .i64 0,.slice none 0 0] cI]→iQ k n=none→jC true w4:=fun w4 H e=>by
  refine iw _ _ (ite_true rfl (H.gx 1 rfl rfl fun w5 H=>H.jt 1 rfl ?_))
  rw [e]
  exact ⟨⟨none,0,0⟩,rfl,DZ H.mod fun w=>Yz w⟩
 refine bk (H.ax 0 rfl (au p 3) rfl ?_)
 cases hm:cS k with
 | false=>exact ite_true rfl (no _ H (by unfold iQ; rw [hm]; rfl))
 | true=>
  refine ite_false rfl (aB (yM _ _ _ _) ?_)
  rintro _ w4 ⟨rfl,hw⟩
  subst hw
  rw [show ((x.n:Nat):Int)=(k.aH.length:Int) by omega]
  refine bk ?_
  cases hi:aP 1 (k.aH.length:Int) n with
  | false=>exact no _ H (by unfold iQ; rw [hm,hi]; rfl)
  | true=>
   have e:iQ k n=some (k.aH.getD (n - 1).toNat vz):=by unfold iQ; rw [hm,hi]; rfl
   unfold aP at hi
   simp only [Bool.and_eq_true,decide_eq_true_eq] at hi
   obtain ⟨h1,h2⟩:=HN hm
   refine iw _ _ (ite_false rfl (bZ _ (H.bu 0 rfl (aB (Hv k x (by omega) (fun v hv=>Nat.le_trans (h2 v hv) (by omega)) _ (hx.aE H.mod)) ?_))))
   rintro _ w5 ⟨y,rfl,hy⟩
   have hb:=hy.box
   refine oh ⟨⟨by omega,by omega⟩,?_⟩
   obtain ⟨j,hj⟩:∃ j:Nat,n - 1=(j:Int):=⟨(n - 1).toNat,by omega⟩
   rw [e]
   rw [hj] at e ⊢
   rw [Int.toNat_natCast] at e ⊢
   have ha:k.aH[j]? = some (k.aH.getD j vz):=by rw [List.getD_eq_getElem?_getD,List.getElem?_eq_getElem (by omega)]; rfl
   obtain ⟨ys,fp,D⟩:=hy
   have hv:fY w5 y k.aH:=hb.now.aH
   obtain ⟨dm,z,hz,hc⟩:=Dv.at bn.cu (by omega) hv ha
   generalize k.aH.getD j vz=v at *
   have jS:=hb.now.aH.len
   have CP:∃ u,ys[j]? = some u:=by
    have hE:bB ir w5 ys k.aH:=D.box 1 rfl
    exact ⟨_,List.getElem?_eq_getElem (by rw [hE.1]; omega)⟩
   obtain ⟨u,hu⟩:=CP
   have hcu:∀ (q:Nat) (t:Value),(v.cs u)[q]? = some t→w5.cell? (Addr.add (Addr.add (base y.a) (j * 4)) q)=some t:=fun q t ht=>(D.fI 0 rfl).uO bn.cu ha hu ht
   have H:=H.join D
   refine ⟨dm,?_⟩
   refine yq hcu (H.gx 1 rfl rfl fun w6 H=>H.jt 1 rfl ⟨u,rfl,?_⟩)
   refine H.boxed fun w' h=>?_
   have h2:(aD.box fp fun w=>bB ir w ys k.aH).ok w':=h 3 _ rfl
   exact ((h2.2 w' fun _ _=>rfl).2 j u v hu ha).r
def kM (op st:Int):Option Int:=if op=5 then (if st=2 then some 1 else none) else if op=7 then (if st=1∨st=2 then some 3 else none) else if op=6 then (if st=1 then some 2 else none) else if op=8 then (if st=3 then some 2 else none) else none
theorem agY (op st:Int) (w:World):Ok Pr OJ [.int .i64 op,.int .i64 st] w fun v w'=>∃ z:Int,v=.tuple ⟨[.int .i64 z,.bool (kM op st).isSome]⟩∧(∀ s,kM op st=some s→z=s)∧w'=w:=by
 refine afv ?_
 unfold Pp
 refine jv fun go bZ=>?_
 unfold kM
 refine bU (fun hc=>?_) (fun hc=>?_)
 ·have hc:=of_decide_eq_true hc
  rw [if_pos hc]
  by_cases h:st=2
  ·rw [if_pos h,decide_eq_true h]; exact ⟨1,rfl,fun s h=>Option.some.inj h,rfl⟩
  ·rw [if_neg h,decide_eq_false h]; exact ⟨1,rfl,fun s h=>(by cases h),rfl⟩
 ·have hc:=of_decide_eq_false hc
  rw [if_neg hc]
  refine bU (fun hd=>?_) (fun hd=>?_)
  ·have hd:=of_decide_eq_true hd
   rw [if_pos hd]
   refine bU (fun h=>?_) (fun h=>?_)
   ·have h:st=1∨st=2:=by simpa using h
    rw [if_pos h]; exact ⟨3,rfl,fun s h=>Option.some.inj h,rfl⟩
   ·have h:¬ (st=1∨st=2):=by simpa using h
    rw [if_neg h]; exact ⟨0,rfl,fun s h=>(by cases h),rfl⟩
  ·have hd:=of_decide_eq_false hd
   rw [if_neg hd]
   refine bU (fun he=>?_) (fun he=>?_)
   ·have he:=of_decide_eq_true he
    rw [if_pos he]
    by_cases h:st=1
    ·have e:kM op st=some 2:=by unfold kM; rw [if_neg hc,if_neg hd,if_pos he,if_pos h]
     exact ite_false (by rw [decide_eq_true h]; rfl) (bZ _ _ ⟨2,by rw [e]; rfl,fun s h=>by rw [e] at h; exact Option.some.inj h,rfl⟩)
    ·rw [if_neg h]
     exact ite_true (by rw [decide_eq_false h]; rfl) ⟨0,rfl,fun s h=>(by cases h),rfl⟩
   ·have he:=of_decide_eq_false he
    rw [if_neg he]
    refine bU (fun hf=>?_) (fun hf=>?_)
    ·have hf:=of_decide_eq_true hf
     refine bZ _ _ ?_
     by_cases h:st=3
     ·have e:kM op st=some 2:=by unfold kM; rw [if_neg hc,if_neg hd,if_neg he,if_pos hf,if_pos h]
      rw [e,decide_eq_true h]; exact ⟨2,rfl,fun s h=>Option.some.inj h,rfl⟩
     ·have e:kM op st=none:=by unfold kM; rw [if_neg hc,if_neg hd,if_neg he,if_pos hf,if_neg h]
      rw [e,decide_eq_false h]; exact ⟨2,rfl,fun s h=>(by cases h),rfl⟩
    ·have hf:=of_decide_eq_false hf
     rw [if_neg hf]; exact ⟨0,rfl,fun s h=>(by cases h),rfl⟩
end Go.Proofs.YtgjoehgomjgckaaGreatDoor
end
section
set_option linter.unusedVariables false
set_option linter.unusedSimpArgs false
namespace Go.Ev
open Go Go.RowKit
theorem ak.Rs {w0 w:World} {S:List Nat} {L:List aD} (H:ak w0 S w L) (k:Nat) {fp:List Nat} {Q Q':World→Prop} (hk:L[k]? = some (.box fp Q)) (h:∀ w,Q w→Q' w):ak w0 S w (L.set k (.box fp Q')):=
 H.less k hk (by
  have h2:(aD.box fp Q).ok w:=H.ok k _ hk
  exact ⟨h2.1,fun w' hw=>h w' (h2.2 w' hw)⟩) fun b hb=>hb
end Go.Ev
namespace Go.Proofs.YtgjoehgomjgckaaGreatDoor
open Go Go.Ev
set_option maxRecDepth 20000
set_option linter.unusedVariables false
def oF (k:aV) (n:Nat):Int:=if cS k=true then (if n=64 then (if k.aH.length=5 then 12 else 0) else 3) else 2
def iS (k:aV) (aq:List B8):aV:=if oF k aq.length=0 then ⟨k.id,k.ten,k.set,k.aH ++ [⟨(k.aH.length:Int)+1,1,0,aq⟩]⟩ else kz
theorem aat {w w7:World} {p1:Nat} {L:List aD} {K:Nat} {e:Value} {c:Int} {t:TypeId} {cs:List Value} (H:ak w [] w7 L) (hK:L[K]? = some (.av p1 cs t)) (jm:cs.length=4) {w8:World} (h:cO w7 w8 e c) (m:Mod [] w7 w8) :
  cD ⟨p1,0,none⟩ 0 0 0 ⟨none,0,0⟩ w8 fun w8=>bu ⟨p1,0,none⟩ w8 fun a b c' d=>BJ w w8 (.tuple ⟨[.agg ⟨[.int .i64 a,.int .i64 b,.int .i64 c',.slice d.a d.n d.c]⟩,e]⟩) kz c:=by
 have hKl:K<L.length:=(List.getElem?_eq_some_iff.1 hK).1
 have H:=H.gG m h
 refine H.cD K (by rw [List.getElem?_append_left hKl]; exact hK) jm fun w9 H=>?_
 have hg:((L ++ [aD.err e c]).set K (.av p1 (dF 0 0 0 ⟨none,0,0⟩) t))[K]? = some (.av p1 (dF 0 0 0 ⟨none,0,0⟩) t):=by
  rw [List.getElem?_set,if_pos rfl,if_pos (by simp; omega)]
 have he:((L ++ [aD.err e c]).set K (.av p1 (dF 0 0 0 ⟨none,0,0⟩) t))[L.length]? = some (aD.err e c):=by
  rw [List.getElem?_set,if_neg (by omega),List.getElem?_append_right (Nat.le_refl _),Nat.sub_self]; rfl
 refine H.bu K hg ⟨⟨none,0,0⟩,e,rfl,DZ H.mod fun w=>j3.nil w,?_⟩
 exact ⟨H.ok L.length _ he,fun b hb=>(H.own L.length _ he b hb).resolve_left (by simp)⟩
theorem afw (k:aV) (x xs:ah) (aq:List B8) (hl:k.aH.length≤1000000) (w:World) (hx:fY w x k.aH) (hs:Bytes w xs aq):Ok Pr MO [.agg ⟨k.cs x⟩,.slice xs.a xs.n xs.c] w fun r w'=>BJ w w' r (iS k aq) (oF k aq.length):=by
 refine ad3 ?_
 unfold Nn
 rw [o5]
 have bT:=hx.len
 have dS:=hs.len
 have hC:oF k aq.length=if cS k=true then (if aq.length=64 then (if k.aH.length=5 then 12 else 0) else 3) else 2:=rfl
 have hR:iS k aq=if oF k aq.length=0 then ⟨k.id,k.ten,k.set,k.aH ++ [⟨(k.aH.length:Int)+1,1,0,aq⟩]⟩ else kz:=rfl
 generalize oF k aq.length=C at *
 generalize iS k aq=R at *
 refine (ak.start w).nw fun p w1 H _=>H.nw fun p1 w2 H _=>?_
 have H:ak w [] w2 [.av p (dF k.id k.ten k.set x) aZ,.av p1 [.int .i64 0,.int .i64 0,.int .i64 0,.slice none 0 0] aZ]:=H
 refine H.bu 0 rfl (aB (wC k x hl _ (hx.aE H.mod)) ?_)
 rintro _ w3 ⟨rfl,m3⟩
 have H:=H.frame m3
 have no:∀ c:Int,c≠0→C=c→ay Pr kU [.int .i64 c] w3 fun v w4=>cD ⟨p1,0,none⟩ 0 0 0 ⟨none,0,0⟩ w4 fun w8=>bu ⟨p1,0,none⟩ w8 fun a b c' d=>BJ w w8 (.tuple ⟨[.agg ⟨[.int .i64 a,.int .i64 b,.int .i64 c',.slice d.a d.n d.c]⟩,v]⟩) R C:=by
  intro c hc gY
  rw [gY,if_neg hc] at hR
  subst hR
  rw [gY]
  refine aB (AP c hc w3) ?_
  rintro e w4 ⟨h,m⟩
  exact aat H (K:=1) rfl rfl h m
 refine bk ?_
 cases hm:cS k with
 | false=>
  rw [hm,if_neg (by decide)] at hC
  exact ite_true rfl (no 2 (by decide) hC)
 | true=>
  rw [hm,if_pos rfl] at hC
  refine ite_false rfl ?_
  by_cases gV:aq.length=64
  case neg=>
   rw [if_neg gV] at hC
   exact ite_true (by rw [decide_eq_false (show ¬ ((xs.n:Nat):Int)=64 by omega)]; rfl) (no 3 (by decide) hC)
  rw [if_pos gV] at hC
  refine ite_false (by rw [decide_eq_true (show ((xs.n:Nat):Int)=64 by omega)]; rfl) (H.ax 0 rfl (au p 3) rfl ?_)
  by_cases h5:k.aH.length=5
  case pos=>
   rw [if_pos h5] at hC
   exact ite_true (decide_eq_true (by omega)) (no 12 (by decide) hC)
  rw [if_neg h5] at hC
  rw [hC,if_pos rfl] at hR
  subst hR
  rw [hC]
  obtain ⟨h1,h2⟩:=HN hm
  refine ite_false (decide_eq_false (by omega)) (H.bu 0 rfl (aB (Hv k x (by omega) (fun v hv=>Nat.le_trans (h2 v hv) (by omega)) _ (hx.aE H.mod)) ?_))
  rintro _ w4 ⟨y,rfl,hy⟩
  have jS:=hy.box.now.aH.len
  obtain ⟨ys,fp,D⟩:=hy
  have hE:bB ir w4 ys k.aH:=D.box 1 rfl
  have H:=H.join D
  refine oh (H.cD 0 rfl rfl fun w5 H=>?_)
  have H:ak w [] w5.drew [.av p (dF k.id k.ten k.set y) aZ,.av p1 [.int .i64 0,.int .i64 0,.int .i64 0,.slice none 0 0] aZ,.row cI 4 y (bA bn.cs k.aH ys),.box fp fun w=>bB ir w ys k.aH]:=H.drew
  refine H.ax 0 rfl (au p 3) rfl (H.ax 0 rfl (au p 3) rfl ⟨⟨by omega,by omega⟩,aB (Vq _ xs aq (by omega) _ (hs.aE H.mod)) ?_⟩)
  rintro _ w6 ⟨u,rfl,hu⟩
  obtain ⟨f2,H1⟩:=H.g9 hu
  refine wh ⟨H.j0 0 rfl hu.mod 3,H1.nw fun p2 w7 H2 _=>⟨kL (H1.av 0 rfl) (H2.av 0 rfl) (jH _ _),?_⟩⟩
  rw [show ((y.n:Nat):Int)+1=(k.aH.length:Int)+1 by omega] at H2
  have j7:bW w7 p2 ((bn.mk ((k.aH.length:Int)+1) 1 0 aq).cs u) cI:=H2.av 5 rfl
  have dS:=j7.sl 4 1 1 (by rw [bn.cu]; decide) (by omega)
  rw [show ((bn.mk ((k.aH.length:Int)+1) 1 0 aq).cs u).take (1 * 4)=(bn.mk ((k.aH.length:Int)+1) 1 0 aq).cs u from rfl] at dS
  refine H2.app (x:=⟨some ⟨p2,0,none⟩,1,1⟩) 2 Rq rfl dS (bn.lV _ _) (by show (y.n+1) * 48≤_; omega) (by show y.n+1≤_; omega) fun y' w8 H3 _=>?_
  refine H3.st 0 rfl (au p 3) (by show 3<4; omega) rfl fun w9 H4=>?_
  have H4:ak w [] w9 [.av p (dF k.id k.ten k.set y') aZ,.av p1 [.int .i64 0,.int .i64 0,.int .i64 0,.slice none 0 0] aZ,.row cI 4 y' (bA bn.cs k.aH ys ++ (bn.mk ((k.aH.length:Int)+1) 1 0 aq).cs u),.box fp fun w=>bB ir w ys k.aH,.box f2 fun w=>Own w 0 bh 1 u (bp aq),.av p2 ((bn.mk ((k.aH.length:Int)+1) 1 0 aq).cs u) cI]:=H4
  refine H4.bu 0 rfl (H4.cD 1 rfl rfl fun cJ H5=>H5.bu 1 rfl ⟨y',.nilIface,rfl,?_,qw _ _⟩)
  refine H5.boxed fun w' h=>⟨ys ++ [u],?_,?_⟩
  ·rw [Bl _ _ hE.1,wO]
   exact h 2 _ rfl
  ·have h3:(aD.box fp fun w=>bB ir w ys k.aH).ok w':=h 3 _ rfl
   have h4:(aD.box f2 fun w=>Own w 0 bh 1 u (bp aq)).ok w':=h 4 _ rfl
   exact bB.snoc (h3.2 w' fun _ _=>rfl) (h4.2 w' fun _ _=>rfl)
def xp (vs:List bn):Nat→Option bn
 | 0=>none
 | n+1=>if (vs.getD n vz).st=1 then some (vs.getD n vz) else xp vs n
def kF (k:aV):Option bn:=if cS k=true then xp k.aH k.aH.length else none
theorem aeK (k:aV) (x:ah) (hl:k.aH.length≤1000000) (w:World) (hx:fY w x k.aH):Ok Pr Mq [.agg ⟨k.cs x⟩] w fun r w'=>Zt w w' r (kF k):=by
 refine ady ?_
 unfold MG
 rw [wR]
 have bT:=hx.len
 refine (ak.start w).nw fun p w1 H _=>H.nw fun p1 w2 H _=>?_
 have H:ak w [] w2 [.av p (dF k.id k.ten k.set x) aZ,.av p1 [.int .i64 0,.int .i64 0,.int .i64 0,.slice none 0 0] cI]:=H
 refine H.ax 0 rfl (au p 3) rfl ?_
 refine yV (fun (n:Int) w'=>∃ j:Nat,n=(j:Int)∧j≤k.aH.length∧(cS k=true→xp k.aH j=kF k)∧ak w [] w' [.av p (dF k.id k.ten k.set x) aZ,.av p1 [.int .i64 0,.int .i64 0,.int .i64 0,.slice none 0 0] cI]) (fun n _=>n.toNat)
  ⟨k.aH.length,by omega,Nat.le_refl _,fun h=>by unfold kF; rw [if_pos h],H⟩ ?_
 rintro again _ w3 ⟨j,rfl,hj,Jq,H⟩ aM
 refine bU (fun hc=>?_) (fun hc=>?_)
 ·have hc:=of_decide_eq_true hc
  obtain ⟨i,rfl⟩:∃ i,j=i+1:=⟨j - 1,by omega⟩
  have back:∀ w6,ak w [] w6 [.av p (dF k.id k.ten k.set x) aZ,.av p1 [.int .i64 0,.int .i64 0,.int .i64 0,.slice none 0 0] cI]→(cS k=true→xp k.aH i=kF k)→aF (((i+1:Nat):Int) - 1)∧again (((i+1:Nat):Int) - 1) w6:=fun w6 H h=>by
   refine ⟨⟨by omega,by omega⟩,?_⟩
   rw [show ((i+1:Nat):Int) - 1=(i:Int) by omega]
   exact aM _ w6 ⟨i,rfl,by omega,h,H⟩ (by omega)
  refine H.bu 0 rfl (aB (Ds k x ((i+1:Nat):Int) hl _ (hx.aE H.mod)) ?_)
  rintro _ w4 ⟨y,rfl,hy⟩
  obtain ⟨f,H1⟩:=H.g9 hy
  have nO:(cS k=true→xp k.aH (i+1)=kF k):=Jq
  refine ⟨_,rfl,wh ⟨_,rfl,rfl,H1.nw fun p2 w5 H2 _=>H2.gx 3 rfl rfl fun w6 H2=>H2.an 3 rfl (au p2 1) rfl ?_⟩⟩
  cases hf:iQ k ((i+1:Nat):Int) with
  | none=>
   refine ite_false rfl (back w6 (H2.take 2) fun h=>?_)
   unfold iQ aP at hf
   rw [h,if_pos (by simp; omega)] at hf
   cases hf
  | some v=>
   obtain ⟨h1,h2,h3,h4,h5⟩:=Qr hf
   rw [show (((i+1:Nat):Int) - 1).toNat=i by omega] at h4
   have hs:=nO h1
   change (if (k.aH.getD i vz).st=1 then some (k.aH.getD i vz) else xp k.aH i)=kF k at hs
   rw [← h4] at hs
   rw [hf] at hy H2
   by_cases h:v.st=1
   ·rw [if_pos h] at hs
    rw [← hs]
    refine ite_true (by show (true && decide (v.st=1))=true; rw [decide_eq_true h]; rfl) (H2.jt 3 rfl (H2.gx 1 rfl rfl fun w7 H=>H.jt 1 rfl ⟨y,rfl,?_⟩))
    refine H.boxed fun w' hh=>?_
    have h2:(aD.box f fun w=>kB w y ((some v).getD vz)).ok w':=hh 2 _ rfl
    exact h2.2 w' fun _ _=>rfl
   ·rw [if_neg h] at hs
    exact ite_false (by show (true && decide (v.st=1))=false; rw [decide_eq_false h]; rfl) (back w6 (H2.take 2) fun _=>hs)
 ·have hc:=of_decide_eq_false hc
  obtain rfl:j=0:=by omega
  have e:kF k=none:=by
   by_cases h:cS k=true
   ·exact (Jq h).symm
   ·unfold kF; rw [if_neg h]
  rw [e]
  exact H.gx 1 rfl rfl fun w8 H=>H.jt 1 rfl ⟨⟨none,0,0⟩,rfl,DZ H.mod fun w=>Yz w⟩
end Go.Proofs.YtgjoehgomjgckaaGreatDoor
end
section
set_option linter.unusedVariables false
set_option linter.unusedSimpArgs false
namespace Go.Proofs.YtgjoehgomjgckaaGreatDoor
open Go Go.Ev
set_option maxRecDepth 20000
set_option linter.unusedVariables false
theorem Dj {A:Type} {l:List A} {i:Nat} {a:A} (h:l[i]? = some a):l.set i a=l:=by
 refine List.ext_getElem? fun k=>?_
 rw [List.getElem?_set]
 by_cases e:i=k
 ·subst e; rw [if_pos rfl,if_pos (List.getElem?_eq_some_iff.1 h).1,h]
 ·rw [if_neg e]
theorem bB.put {A:Type} {E:World→ah→A→Prop} {w:World} {xs:List ah} {ls:List A} (h:bB E w xs ls) {i:Nat} {x:ah} {a:A} (hE:E w x a):bB E w (xs.set i x) (ls.set i a):=by
 refine ⟨by rw [List.length_set,List.length_set]; exact h.1,fun j y b hy hb=>?_⟩
 rw [List.getElem?_set] at hy hb
 by_cases e:i=j
 ·subst e
  rw [if_pos rfl] at hy hb
  split at hy
  ·split at hb
   ·cases hy; cases hb; exact hE
   ·cases hb
  ·cases hy
 ·rw [if_neg e] at hy hb
  exact h.2 j y b hy hb
def vh (k:aV) (op bq dX clock:Int):Int:=
 if cS k=true∧5≤op∧op≤8 then (match iQ k bq with
  | none=>9
  | some v=>match kM op v.st with
   | none=>11
   | some _=>if op=7∧(dX≤clock∨aP 1 1099511627776 dX=false) then 2 else 0) else 2
def BK (k:aV) (op bq dX:Int):bn:=⟨(k.aH.getD (bq - 1).toNat vz).n,(kM op (k.aH.getD (bq - 1).toNat vz).st).getD 0,if op=7 then dX else 0,(k.aH.getD (bq - 1).toNat vz).aq⟩
def pK (k:aV) (op bq dX clock:Int):aV:=if vh k op bq dX clock=0 then ⟨k.id,k.ten,k.set,k.aH.set (bq - 1).toNat (BK k op bq dX)⟩ else kz
theorem ahB (k:aV) (x:ah) (op bq dX clock:Int) (hl:k.aH.length≤1000000) (w:World) (hx:fY w x k.aH):Ok Pr Py [.agg ⟨k.cs x⟩,.int .i64 op,.int .i64 bq,.int .i64 dX,.int .i64 clock] w fun r w'=>BJ w w' r (pK k op bq dX clock) (vh k op bq dX clock):=by
 refine agp ?_
 unfold Qp
 rw [o5,wR]
 have bT:=hx.len
 have hC:vh k op bq dX clock=if cS k=true∧5≤op∧op≤8 then (match iQ k bq with
  | none=>9
  | some v=>match kM op v.st with
   | none=>11
   | some _=>if op=7∧(dX≤clock∨aP 1 1099511627776 dX=false) then 2 else 0) else 2:=rfl
 have hR:pK k op bq dX clock=if vh k op bq dX clock=0 then ⟨k.id,k.ten,k.set,k.aH.set (bq - 1).toNat (BK k op bq dX)⟩ else kz:=rfl
 generalize vh k op bq dX clock=C at *
 generalize pK k op bq dX clock=R at *
 refine (ak.start w).nw fun p w1 H _=>H.nw fun p1 w2 H _=>?_
 have H:ak w [] w2 [.av p (dF k.id k.ten k.set x) aZ,.av p1 [.int .i64 0,.int .i64 0,.int .i64 0,.slice none 0 0] aZ]:=H
 refine H.bu 0 rfl (aB (wC k x hl _ (hx.aE H.mod)) ?_)
 rintro _ w3 ⟨rfl,m3⟩
 have H:=H.frame m3
 have no:∀ {L:List aD} {w3:World} (c:Int),ak w [] w3 L→L[1]? = some (.av p1 [.int .i64 0,.int .i64 0,.int .i64 0,.slice none 0 0] aZ)→c≠0→C=c→ay Pr kU [.int .i64 c] w3 fun v w4=>cD ⟨p1,0,none⟩ 0 0 0 ⟨none,0,0⟩ w4 fun w8=>bu ⟨p1,0,none⟩ w8 fun a b c' d=>BJ w w8 (.tuple ⟨[.agg ⟨[.int .i64 a,.int .i64 b,.int .i64 c',.slice d.a d.n d.c]⟩,v]⟩) R C:=by
  intro L w3 c H hL hc gY
  rw [gY,if_neg hc] at hR
  subst hR
  rw [gY]
  refine aB (AP c hc w3) ?_
  rintro e w4 ⟨h,m⟩
  exact aat H (K:=1) hL rfl h m
 refine bk ?_
 by_cases h0:cS k=true∧5≤op∧op≤8
 case neg=>
  rw [if_neg h0] at hC
  refine ite_true ?_ (no 2 H rfl (by decide) hC)
  cases hm:cS k with
  | false=>rfl
  | true=>
   rw [hm] at h0
   by_cases h:op<5
   ·rw [decide_eq_true h]; rfl
   ·rw [decide_eq_false h,decide_eq_true (show 8<op from Decidable.byContradiction fun hh=>h0 ⟨rfl,by omega,by omega⟩)]; rfl
 rw [if_pos h0] at hC
 obtain ⟨hm,ho1,ho2⟩:=h0
 obtain ⟨b1,b2⟩:=HN hm
 refine ite_false (by rw [hm,decide_eq_false (show ¬ op<5 by omega),decide_eq_false (show ¬ 8<op by omega)]; rfl) (H.bu 0 rfl (aB (Ds k x bq hl _ (hx.aE H.mod)) ?_))
 rintro _ w4 ⟨y,rfl,hy⟩
 obtain ⟨f,H⟩:=H.g9 hy
 refine ⟨_,rfl,wh ⟨_,rfl,rfl,H.nw fun p2 w5 H _=>H.gx 3 rfl rfl fun w6 H=>?_⟩⟩
 cases hf:iQ k bq with
 | none=>
  rw [hf] at hC
  exact ite_true rfl (no 9 H rfl (by decide) hC)
 | some v=>
  rw [hf] at hC
  obtain ⟨_,h2,h3,h4,h5⟩:=Qr hf
  refine ite_false rfl (H.an 3 rfl (au p2 1) rfl (aB (agY op _ _) ?_))
  rw [hf]
  change _=_ at hC
  rintro _ w7 ⟨z,rfl,hz,hw⟩
  subst hw
  refine ⟨_,rfl,_,rfl,_,rfl,rfl,jv fun go bZ=>?_⟩
  change C=(match kM op v.st with | none=>11 | some _=>if op=7∧(dX≤clock∨aP 1 1099511627776 dX=false) then 2 else 0) at hC
  change ∀ s,kM op v.st=some s→z=s at hz
  show aA (!(kM op v.st).isSome) _ _
  cases hn:kM op v.st with
  | none=>
   rw [hn] at hC
   exact ite_true rfl (no 11 H rfl (by decide) hC)
  | some s=>
   rw [hn] at hC
   obtain rfl:z=s:=hz s hn
   change C=if op=7∧(dX≤clock∨aP 1 1099511627776 dX=false) then 2 else 0 at hC
   have rest:C=0→go (if op=7 then dX else 0) w7:=by
    intro hC0
    rw [hC0,if_pos rfl] at hR
    subst hR
    rw [hC0] at bZ
    refine bZ _ _ (H.bu 0 rfl (aB (Hv k x (by omega) (fun v hv=>Nat.le_trans (b2 v hv) (by omega)) _ (hx.aE H.mod)) ?_))
    rintro _ w8 ⟨u,rfl,hu⟩
    have mD:=hu.box.now.aH.len
    obtain ⟨ys,fp,D⟩:=hu
    have hE:bB ir w8 ys k.aH:=D.box 1 rfl
    have H:=(H.join D)
    refine oh (H.cD 0 rfl rfl fun w9 H=>?_)
    have H:=H.drew
    obtain ⟨j,hj⟩:∃ j:Nat,bq - 1=(j:Int):=⟨(bq - 1).toNat,by omega⟩
    unfold BK
    rw [hj] at h4 ⊢
    rw [Int.toNat_natCast] at h4 ⊢
    rw [← h4,hn]
    have ha:k.aH[j]? = some v:=by rw [h4,List.getD_eq_getElem?_getD,List.getElem?_eq_getElem (by omega)]; rfl
    obtain ⟨q,hq⟩:∃ q,ys[j]? = some q:=⟨_,List.getElem?_eq_getElem (by rw [hE.1]; omega)⟩
    have iL:kB w8 q v:=(hE.2 j q v hq ha).r
    have J0:=iO bn.cu k.aH ys hE.1
    refine H.ax 0 rfl (au p 3) rfl ⟨⟨by omega,by omega⟩,H.ax 0 rfl (au p 3) rfl ⟨⟨by omega,by omega⟩,⟨(H.fI 4 rfl).pre (by omega),by omega,by omega⟩,?_⟩⟩
    refine H.qz 4 (i:=j * 4+1) rfl (by rw [add_add]) (by omega) rfl fun cJ H2=>?_
    refine ⟨kL (H.av 0 rfl) (H2.av 0 rfl) (jH _ _),⟨(H.fI 4 rfl).pre (by omega),by omega,by omega⟩,?_⟩
    refine H2.qz 4 (i:=j * 4+2) rfl (by rw [add_add]) (by rw [List.length_set]; omega) rfl fun cY H3=>?_
    have e1:(bA bn.cs k.aH ys).set (j * 4+1) (.int .i64 z)=bA bn.cs (k.aH.set j ⟨v.n,z,v.due,v.aq⟩) (ys.set j q):=s4 bn.cu k.aH ys j 1 v ⟨v.n,z,v.due,v.aq⟩ q q _ ha hq (by omega) rfl
    have e2:(bA bn.cs (k.aH.set j ⟨v.n,z,v.due,v.aq⟩) (ys.set j q)).set (j * 4+2) (.int .i64 (if op=7 then dX else 0))=bA bn.cs ((k.aH.set j ⟨v.n,z,v.due,v.aq⟩).set j ⟨v.n,z,if op=7 then dX else 0,v.aq⟩) ((ys.set j q).set j q):=
     s4 bn.cu _ _ j 2 ⟨v.n,z,v.due,v.aq⟩ ⟨v.n,z,if op=7 then dX else 0,v.aq⟩ q q _ (by rw [List.getElem?_set,if_pos rfl,if_pos (by omega)]) (by rw [Dj hq]; exact hq) (by omega) rfl
    refine H3.bu 0 rfl (H3.cD 1 rfl rfl fun fP H4=>H4.bu 1 rfl ⟨u,.nilIface,rfl,?_,qw _ _⟩)
    refine H4.boxed fun w' h=>⟨ys,?_,?_⟩
    ·have ho:Own w' 0 cI 4 u (((bA bn.cs k.aH ys).set (j * 4+1) (.int .i64 z)).set (j * 4+2) (.int .i64 (if op=7 then dX else 0))):=h 4 _ rfl
     rw [e1,e2,List.set_set,List.set_set,Dj hq] at ho
     exact ho
    ·have h5:(aD.box fp fun w=>bB ir w ys k.aH).ok w':=h 5 _ rfl
     have hE':=h5.2 w' fun _ _=>rfl
     have:=bB.put hE' (i:=j) (x:=q) (a:=⟨v.n,z,if op=7 then dX else 0,v.aq⟩) (hE'.2 j q v hq ha:ir w' q v)
     rw [Dj hq] at this
     exact this
   refine ite_false rfl ?_
   by_cases h7:op=7
   ·rw [if_pos h7] at rest
    refine ite_false (by rw [decide_eq_true h7]; rfl) (jv fun jC iw=>?_)
    refine bU (fun hc=>?_) (fun hc=>?_)
    ·have hc:=of_decide_eq_true hc
     rw [if_pos ⟨h7,.inl hc⟩] at hC
     exact iw _ _ (ite_true rfl (no 2 H rfl (by decide) hC))
    ·have hc:=of_decide_eq_false hc
     refine aB (yM _ _ _ _) ?_
     rintro _ w8 ⟨rfl,hw⟩
     subst hw
     refine bk (iw _ _ ?_)
     cases hi:aP 1 1099511627776 dX with
     | false=>
      rw [if_pos ⟨h7,.inr hi⟩] at hC
      exact ite_true rfl (no 2 H rfl (by decide) hC)
     | true=>
      rw [if_neg (by rintro ⟨_,h | h⟩; exact hc h; rw [hi] at h; cases h)] at hC
      exact ite_false rfl (rest hC)
   ·rw [if_neg h7] at rest
    rw [if_neg (fun h=>h7 h.1)] at hC
    exact ite_true (by rw [decide_eq_false h7]; rfl) (rest hC)
end Go.Proofs.YtgjoehgomjgckaaGreatDoor
end
section
set_option linter.unusedVariables false
set_option linter.unusedSimpArgs false
namespace Go.Proofs.YtgjoehgomjgckaaGreatDoor
open Go Go.Ev
set_option maxRecDepth 20000
set_option linter.unusedVariables false
theorem _root_.Go.Ev.ak.al1 {w0 w:World} {S:List Nat} {L:List aD} (H:ak w0 S w L) (k:Nat) {s:ah} {vs:List bn} {xs:List ah} (hk:L[k]? = some (.row cI 4 s (bA bn.cs vs xs))) (jM:xs.length=vs.length) {i:Nat} (hi:i<vs.length) (v':bn) (x':ah) {K:World→Prop}
  (h:∀ w',ak w0 S w' (L.set k (.row cI 4 s (bA bn.cs (vs.set i v') (xs.set i x'))))→K w'):gx (Addr.add (base s.a) (i * 4)) v'.n v'.st v'.due x' w K:=by
 have bM:k<L.length:=(List.getElem?_eq_some_iff.1 hk).1
 obtain ⟨v,hv⟩:∃ v,vs[i]? = some v:=⟨_,List.getElem?_eq_getElem hi⟩
 obtain ⟨x,hx⟩:∃ x,xs[i]? = some x:=⟨_,List.getElem?_eq_getElem (by omega)⟩
 have J0:=iO bn.cu vs xs jM
 have g:∀ {l:List Value} {w:World} {L':List aD},(L'.set k (.row cI 4 s l)).length=L'.length:=by simp
 have e0:(bA bn.cs vs xs).set (i * 4+0) (.int .i64 v'.n)=bA bn.cs (vs.set i ⟨v'.n,v.st,v.due,v.aq⟩) (xs.set i x):=s4 bn.cu vs xs i 0 v ⟨v'.n,v.st,v.due,v.aq⟩ x x _ hv hx (by omega) rfl
 have q1:(vs.set i ⟨v'.n,v.st,v.due,v.aq⟩)[i]? = some ⟨v'.n,v.st,v.due,v.aq⟩:=by rw [List.getElem?_set,if_pos rfl,if_pos hi]
 have p1:(xs.set i x)[i]? = some x:=by rw [Dj hx]; exact hx
 have e1:=s4 bn.cu _ _ i 1 _ ⟨v'.n,v'.st,v.due,v.aq⟩ x x (.int .i64 v'.st) q1 p1 (by omega) rfl
 rw [List.set_set,List.set_set] at e1
 have q2:(vs.set i ⟨v'.n,v'.st,v.due,v.aq⟩)[i]? = some ⟨v'.n,v'.st,v.due,v.aq⟩:=by rw [List.getElem?_set,if_pos rfl,if_pos hi]
 have e2:=s4 bn.cu _ _ i 2 _ ⟨v'.n,v'.st,v'.due,v.aq⟩ x x (.int .i64 v'.due) q2 p1 (by omega) rfl
 rw [List.set_set,List.set_set] at e2
 have q3:(vs.set i ⟨v'.n,v'.st,v'.due,v.aq⟩)[i]? = some ⟨v'.n,v'.st,v'.due,v.aq⟩:=by rw [List.getElem?_set,if_pos rfl,if_pos hi]
 have e3:=s4 bn.cu _ _ i 3 _ v' x x' x'.v q3 p1 (by omega) rfl
 rw [List.set_set,List.set_set] at e3
 have gk:∀ (r:aD) (M:List aD),k<M.length→(M.set k r)[k]? = some r:=fun r M h=>by rw [List.getElem?_set,if_pos rfl,if_pos h]
 refine H.qz k (i:=i * 4+0) hk (by rw [add_add]) (by omega) rfl fun w1 H1=>?_
 rw [e0] at H1
 refine H1.qz k (i:=i * 4+1) (gk _ _ bM) (by rw [add_add]) (by rw [iO bn.cu _ _ (by simp [jM])]; simp; omega) rfl fun w2 H2=>?_
 rw [e1,List.set_set] at H2
 refine H2.qz k (i:=i * 4+2) (gk _ _ bM) (by rw [add_add]) (by rw [iO bn.cu _ _ (by simp [jM])]; simp; omega) rfl fun w3 H3=>?_
 rw [e2,List.set_set] at H3
 refine H3.qz k (i:=i * 4+3) (v:=x'.v) (gk _ _ bM) (by rw [add_add]) (by rw [iO bn.cu _ _ (by simp [jM])]; simp; omega) rfl fun w4 H4=>?_
 rw [e3,List.set_set] at H4
 exact h w4 H4
def qh (clock:Int) (v:bn):bn:=if v.st=3∧v.due≤clock then ⟨v.n,4,0,[]⟩ else v
def xW (clock:Int) (vs:List bn):Nat:=vs.countP fun v=>decide (v.st=3∧v.due≤clock)
def vU (k:aV) (clock:Int):aV:=if cS k=true then ⟨k.id,k.ten,k.set,k.aH.map (qh clock)⟩ else kz
def xX (k:aV) (clock:Int):Nat:=if cS k=true then xW clock k.aH else 0
theorem agr (k:aV) (x:ah) (clock:Int) (hl:k.aH.length≤1000000) (w:World) (hx:fY w x k.aH):Ok Pr NA [.agg ⟨k.cs x⟩,.int .i64 clock] w fun r w'=>∃ y:ah,r=.tuple ⟨[.agg ⟨(vU k clock).cs y⟩,.int .i64 (xX k clock:Int)]⟩∧fJ w w' fun w=>j3 w y (vU k clock).aH:=by
 refine aeD ?_
 unfold Oh
 rw [o5,wR]
 have bT:=hx.len
 refine (ak.start w).nw fun p w1 H _=>H.nw fun p1 w2 H _=>?_
 have H:ak w [] w2 [.av p (dF k.id k.ten k.set x) aZ,.av p1 [.int .i64 0,.int .i64 0,.int .i64 0,.slice none 0 0] aZ]:=H
 refine H.bu 0 rfl (aB (wC k x hl _ (hx.aE H.mod)) ?_)
 rintro _ w3 ⟨rfl,m3⟩
 have H:=H.frame m3
 refine bk ?_
 have hR:vU k clock=if cS k=true then ⟨k.id,k.ten,k.set,k.aH.map (qh clock)⟩ else kz:=rfl
 have hM:xX k clock=if cS k=true then xW clock k.aH else 0:=rfl
 generalize vU k clock=R at *
 generalize xX k clock=M at *
 cases hm:cS k with
 | false=>
  rw [hm,if_neg (by decide)] at hR hM
  subst hR hM
  exact ite_true rfl (H.cD 1 rfl rfl fun w8 H=>H.bu 1 rfl ⟨⟨none,0,0⟩,rfl,DZ H.mod fun w=>j3.nil w⟩)
 | true=>
  rw [hm,if_pos rfl] at hR hM
  subst hR hM
  obtain ⟨b1,b2⟩:=HN hm
  refine ite_false rfl (H.bu 0 rfl (aB (Hv k x (by omega) (fun v hv=>Nat.le_trans (b2 v hv) (by omega)) _ (hx.aE H.mod)) ?_))
  rintro _ w4 ⟨u,rfl,hu⟩
  have mD:=hu.box.now.aH.len
  obtain ⟨ys,fp,D⟩:=hu
  have hE:bB ir w4 ys k.aH:=D.box 1 rfl
  have H:=(H.join D)
  refine oh (H.cD 0 rfl rfl fun w5 H=>H.ax 0 rfl (au p 3) rfl ?_)
  have H:ak w [] w5 [.av p (dF k.id k.ten k.set u) aZ,.av p1 [.int .i64 0,.int .i64 0,.int .i64 0,.slice none 0 0] aZ,.row cI 4 u (bA bn.cs k.aH ys),.box fp fun w=>bB ir w ys k.aH]:=H
  have J6:∀ i,i<k.aH.length→xW clock (k.aH.take (i+1))=xW clock (k.aH.take i)+if (k.aH.getD i vz).st=3∧(k.aH.getD i vz).due≤clock then 1 else 0:=fun i hi=>by
   unfold xW
   rw [kT _ _ hi vz,List.countP_append]
   simp [List.countP_cons]
  refine kX 0 k.aH.length (fun i (n:Int) w'=>n=(xW clock (k.aH.take i):Int)∧∃ zs,zs.length=k.aH.length∧ak w [] w' [.av p (dF k.id k.ten k.set u) aZ,.av p1 [.int .i64 0,.int .i64 0,.int .i64 0,.slice none 0 0] aZ,.row cI 4 u (bA bn.cs ((k.aH.take i).map (qh clock) ++ k.aH.drop i) zs),.box fp fun w=>bB ir w zs ((k.aH.take i).map (qh clock) ++ k.aH.drop i)]) rfl (by omega) ⟨rfl,ys,hE.1,H⟩ ?_ ?_
  ·rintro again i _ w6 _ hi ⟨rfl,zs,jO,H⟩ aM
   have hcN:=J6 i hi
   have hle:xW clock (k.aH.take i)≤1000:=Nat.le_trans (List.countP_le_length) (by rw [List.length_take]; omega)
   have qF:=IG (qh clock) k.aH i hi vz
   have xD:=II (qh clock) k.aH i hi
   have arj:((k.aH.take i).map (qh clock) ++ k.aH.drop i).length=k.aH.length:=by simp; omega
   have ha:k.aH[i]? = some (k.aH.getD i vz):=by rw [List.getD_eq_getElem?_getD,List.getElem?_eq_getElem hi]; rfl
   rw [ha] at xD
   obtain ⟨q,hq⟩:∃ q,zs[i]? = some q:=⟨_,List.getElem?_eq_getElem (by omega)⟩
   rw [← qF,hcN] at aM
   generalize (k.aH.take i).map (qh clock) ++ k.aH.drop i=MS at *
   generalize k.aH.getD i vz=v at *
   have hc:∀ (j:Nat) (t:Value),(v.cs q)[j]? = some t→w6.cell? (Addr.add (Addr.add (base u.a) (Int.toNat (i:Int) * 4)) j)=some t:=fun j t ht=>by
    rw [Int.toNat_natCast]
    exact (H.fI 2 rfl).uO bn.cu xD hq ht
   refine ite_true (decide_eq_true (by omega)) ⟨⟨(H.fI 2 rfl).pre (by omega),by omega,by omega⟩,yq hc (H.nw fun p2 w7 H _=>H.gx 4 rfl rfl fun w8 H=>H.an 4 rfl (au p2 1) rfl (H.an 4 rfl (au p2 2) rfl ?_))⟩
   by_cases hs:v.st=3∧v.due≤clock
   ·have es:qh clock v=⟨v.n,4,0,[]⟩:=by unfold qh; rw [if_pos hs]
    rw [es,if_pos hs] at aM
    refine ite_true (by rw [decide_eq_true hs.1,decide_eq_true hs.2]; rfl) (H.ax 0 rfl (au p 3) rfl (H.an 4 rfl (au p2 0) rfl ⟨⟨(H.fI 2 rfl).pre (by omega),by omega,by omega⟩,?_⟩))
    rw [Int.toNat_natCast]
    refine H.al1 2 rfl (by omega) (by omega) ⟨v.n,4,0,[]⟩ ⟨none,0,0⟩ fun w9 H=>⟨⟨by omega,by omega⟩,⟨by omega,by omega⟩,aM _ w9 ⟨by omega,zs.set i ⟨none,0,0⟩,by rw [List.length_set]; exact jO,?_⟩⟩
    exact (H.Rs 3 rfl fun w h=>bB.put h (i:=i) (x:=⟨none,0,0⟩) (a:=⟨v.n,4,0,[]⟩) (Own.nil w 0 bh 1)).take 4
   ·have es:qh clock v=v:=by unfold qh; rw [if_neg hs]
    rw [es,if_neg hs,Dj xD] at aM
    refine ite_false ?_ ⟨⟨by omega,by omega⟩,aM _ w8 ⟨by omega,zs,jO,H.take 4⟩⟩
    show (decide (v.st=3) && decide (v.due≤clock))=false
    rw [Bool.and_eq_false_iff,decide_eq_false_iff_not,decide_eq_false_iff_not]
    by_cases h:v.st=3
    ·exact .inr fun h2=>hs ⟨h,h2⟩
    ·exact .inl h
  ·rintro again _ w6 ⟨rfl,zs,jO,H⟩
   rw [List.take_of_length_le (Nat.le_refl _),List.drop_of_length_le (Nat.le_refl _),List.append_nil] at H
   rw [List.take_of_length_le (Nat.le_refl _)]
   refine ite_false (decide_eq_false (by omega)) (H.bu 0 rfl (H.cD 1 rfl rfl fun w7 H=>H.bu 1 rfl ⟨u,rfl,?_⟩))
   refine H.boxed fun w' h=>⟨zs,h 2 _ rfl,?_⟩
   have h3:(aD.box fp fun w=>bB ir w zs (k.aH.map (qh clock))).ok w':=h 3 _ rfl
   exact h3.2 w' fun _ _=>rfl
end Go.Proofs.YtgjoehgomjgckaaGreatDoor
end
section
set_option linter.unusedVariables false
set_option linter.unusedSimpArgs false
namespace Go.Proofs.YtgjoehgomjgckaaGreatDoor
open Go Go.Ev
set_option maxRecDepth 20000
set_option linter.unusedVariables false
def Rt (g:Value) (us:Int→Bool):Prop:=∀ (s:Int) (w:World),lJ Pr g [.int .i64 s] w fun v w'=>v=.bool (us s)∧w'=w
def mW (s:Int):Bool:=!decide (s=4)
def j5 (s:Int):Bool:=decide (s=1)
theorem ahC:jw Pr C6=true:=by kernel_rfl
theorem aj3:jw Pr GM=true:=by kernel_rfl
theorem XA:Rt (.func (.func C6) ⟨[]⟩ ⟨[]⟩) j5:=fun s w=>by
 refine yW ahC (adx ?_)
 unfold MF
 exact ⟨rfl,rfl⟩
theorem aia:Rt (.func (.func GM) ⟨[]⟩ ⟨[]⟩) mW:=fun s w=>by
 refine yW aj3 (adg ?_)
 unfold Mh
 exact ⟨rfl,rfl⟩
def js (k:aV) (bq:Int) (us:Int→Bool):Int:=if cS k=true then (match iQ k bq with | none=>9 | some v=>if us v.st=true then mJ k.set v.aq.length else 11) else 2
def sG (k:aV) (bq:Int) (us:Int→Bool):List B8:=if js k bq us=0 then jr k.set ((iQ k bq).getD vz).aq else []
def vV (k:aV) (bq:Int) (us:Int→Bool):List B8:=if js k bq us=0 then tZ k.set ((iQ k bq).getD vz).aq else []
theorem al2 {set:Int} {l:List B8} (h:mJ set l.length≠0):jr set l=[]:=by unfold jr; rw [if_neg h]
theorem al3 {set:Int} {l:List B8} (h:mJ set l.length≠0):tZ set l=[]:=by unfold tZ; rw [if_neg h]
theorem Ot (k:aV) (x:ah) (bq:Int) (g:Value) (us:Int→Bool) (hg:Rt g us) (hl:k.aH.length≤1000000) (w:World) (hx:fY w x k.aH):Ok Pr Dw [.agg ⟨k.cs x⟩,.int .i64 bq,g] w fun r w'=>∃ (y z:ah) (er:Value),r=.tuple ⟨[.slice y.a y.n y.c,.slice z.a z.n z.c,er]⟩∧
  ak w [] w' [.row bh 1 y (bp (sG k bq us)),.row bh 1 z (bp (vV k bq us)),aD.err er (js k bq us)]:=by
 refine afu ?_
 unfold Po
 rw [wR]
 have bT:=hx.len
 have hC:js k bq us=if cS k=true then (match iQ k bq with | none=>9 | some v=>if us v.st=true then mJ k.set v.aq.length else 11) else 2:=rfl
 have hA:sG k bq us=if js k bq us=0 then jr k.set ((iQ k bq).getD vz).aq else []:=rfl
 have hB:vV k bq us=if js k bq us=0 then tZ k.set ((iQ k bq).getD vz).aq else []:=rfl
 generalize js k bq us=C at *
 generalize sG k bq us=A at *
 generalize vV k bq us=B at *
 refine (ak.start w).nw fun p w1 H _=>?_
 have H:ak w [] w1 [.av p (dF k.id k.ten k.set x) aZ]:=H
 refine H.bu 0 rfl (aB (wC k x hl _ (hx.aE H.mod)) ?_)
 rintro _ w2 ⟨rfl,m2⟩
 have H:=H.frame m2
 have no:∀ {L:List aD} {w3:World} (c:Int),ak w [] w3 L→c≠0→C=c→ay Pr kU [.int .i64 c] w3 fun v w4=>∃ (y z:ah) (er:Value),Value.tuple ⟨[.slice none 0 0,.slice none 0 0,v]⟩=.tuple ⟨[.slice y.a y.n y.c,.slice z.a z.n z.c,er]⟩∧
   ak w [] w4 [.row bh 1 y (bp A),.row bh 1 z (bp B),aD.err er C]:=by
  intro L w3 c H hc gY
  rw [gY] at hA hB
  rw [if_neg hc] at hA hB
  subst hA hB
  refine aB (AP c hc w3) ?_
  rintro e w4 ⟨h,m4⟩
  rw [gY]
  exact ⟨⟨none,0,0⟩,⟨none,0,0⟩,e,rfl,((((ak.start w).iZ bh 1).iZ bh 1).frame H.mod).gG m4 h⟩
 refine bk ?_
 cases hm:cS k with
 | false=>
  rw [hm,if_neg (by decide)] at hC
  exact ite_true rfl (no 2 H (by decide) hC)
 | true=>
  rw [hm,if_pos rfl] at hC
  refine ite_false rfl (H.bu 0 rfl (aB (Ds k x bq hl _ (hx.aE H.mod)) ?_))
  rintro _ w4 ⟨y,rfl,hy⟩
  obtain ⟨f,H⟩:=H.g9 hy
  refine ⟨_,rfl,wh ⟨_,rfl,rfl,H.nw fun p1 w5 H _=>H.gx 2 rfl rfl fun w6 H=>?_⟩⟩
  cases hf:iQ k bq with
  | none=>
   rw [hf] at hC
   exact ite_true rfl (no 9 H (by decide) hC)
  | some v=>
   rw [hf] at hC hA hB H
   change C=(if us v.st=true then mJ k.set v.aq.length else 11) at hC
   change A=(if C=0 then jr k.set v.aq else []) at hA
   change B=(if C=0 then tZ k.set v.aq else []) at hB
   refine ite_false rfl (H.an 2 rfl (au p1 1) rfl (DH (hg _ _) ?_))
   rintro _ w7 ⟨rfl,hw⟩
   subst hw
   refine bk ?_
   show aA (!us v.st) _ _
   cases hu:us v.st with
   | false=>
    rw [hu,if_neg (by decide)] at hC
    exact ite_true rfl (no 11 H (by decide) hC)
   | true=>
    rw [hu,if_pos rfl] at hC
    have hs:kB w7 y v:=H.box 1 rfl
    refine ite_false rfl (H.an 0 rfl (au p 2) rfl (H.ax 2 rfl (au p1 3) rfl (aB (ahx k.set y v.aq _ hs) ?_)))
    rintro _ w8 ⟨a,b,er,rfl,D⟩
    refine ⟨_,rfl,a,rfl,b,rfl,rfl,a,b,er,rfl,?_⟩
    have H:=(H.join D).drop 3
    have eA:A=jr k.set v.aq:=by
     rw [hA]
     by_cases h:C=0
     ·rw [if_pos h]
     ·rw [if_neg h,al2 (by rw [← hC]; exact h)]
    have eB:B=tZ k.set v.aq:=by
     rw [hB]
     by_cases h:C=0
     ·rw [if_pos h]
     ·rw [if_neg h,al3 (by rw [← hC]; exact h)]
    rw [eA,eB,hC]
    exact H
theorem U2 (k:aV) (x:ah) (bq:Int) (hl:k.aH.length≤1000000) (w:World) (hx:fY w x k.aH):Ok Pr GX [.agg ⟨k.cs x⟩,.int .i64 bq] w fun r w'=>∃ (y:ah) (er:Value),r=.tuple ⟨[.slice y.a y.n y.c,er]⟩∧
  ak w [] w' [.row bh 1 y (bp (sG k bq mW)),aD.err er (js k bq mW)]:=by
 refine adZ ?_
 unfold Nm
 refine (ak.start w).nw fun p w1 H _=>?_
 have H:ak w [] w1 [.av p (dF k.id k.ten k.set x) aZ]:=H
 refine H.bu 0 rfl (aB (Ot k x bq _ mW aia hl _ (hx.aE H.mod)) ?_)
 rintro _ w2 ⟨y,z,er,rfl,D⟩
 exact ⟨_,rfl,y,rfl,z,rfl,rfl,y,er,rfl,(H.join D).two 1 3 rfl rfl (by omega)⟩
theorem Wi {vs:List bn} {v:bn}:∀ n,xp vs n=some v→∃ i,i<n∧v=vs.getD i vz∧v.st=1
 | 0,h=>by cases h
 | n+1,h=>by
  change (if (vs.getD n vz).st=1 then some (vs.getD n vz) else xp vs n)=some v at h
  split at h
  ·rename_i hs
   cases h
   exact ⟨n,by omega,rfl,hs⟩
  ·obtain ⟨i,h1,h2⟩:=Wi n h
   exact ⟨i,by omega,h2⟩
theorem ai2 {k:aV} {v:bn} (h:kF k=some v):cS k=true∧v.st=1∧iQ k v.n=some v∧v.aq.length=64∧mJ k.set v.aq.length=0∧js k v.n j5=0∧sG k v.n j5=jr k.set v.aq:=by
 unfold kF at h
 split at h
 ·rename_i hm
  obtain ⟨i,h1,h2,h3⟩:=Wi _ h
  obtain ⟨_,_,_,h4,h5⟩:=wS hm
  have h6:=h5 i h1
  rw [← h2] at h6
  obtain ⟨q1,q2,q3,q4,q5,q6,q7⟩:=Rr h6
  have hf:iQ k v.n=some v:=by
   unfold iQ aP
   rw [if_pos (by rw [hm]; simp; omega),show (v.n - 1).toNat=i by omega,← h2]
  have gV:=q5 (by omega)
  have hk:mJ k.set v.aq.length=0:=by unfold mJ; rw [aj2 hm,if_pos rfl,if_pos gV]
  have hp:js k v.n j5=0:=by
   unfold js
   rw [if_pos hm,hf]
   show (if j5 v.st=true then mJ k.set v.aq.length else 11)=0
   rw [if_pos (by unfold j5; rw [h3]; rfl),hk]
  refine ⟨hm,h3,hf,gV,hk,hp,?_⟩
  unfold sG
  rw [if_pos hp,hf]; rfl
 ·cases h
def kS (k:aV) (m:List B8):Int:=if cS k=true then (match kF k with | none=>11 | some v=>oQ k.set (jr k.set v.aq) m) else 2
def vW (k:aV) (m:List B8):Int:=if kS k m=0 then ((kF k).getD vz).n else 0
def jL (k:aV) (m:List B8):List B8:=if kS k m=0 then Ax k.set (jr k.set ((kF k).getD vz).aq) m else []
def sH (k:aV) (m:List B8):List B8:=if kS k m=0 then xS k.set (jr k.set ((kF k).getD vz).aq) m else []
theorem agZ (k:aV) (x xm:ah) (m:List B8) (hl:k.aH.length≤1000000) (w:World) (hx:fY w x k.aH) (J7:Bytes w xm m):Ok Pr OH [.agg ⟨k.cs x⟩,.slice xm.a xm.n xm.c] w fun r w'=>∃ (y z:ah) (er:Value),r=.tuple ⟨[.int .i64 (vW k m),.slice y.a y.n y.c,.slice z.a z.n z.c,er]⟩∧
  ak w [] w' [.row bh 1 y (bp (jL k m)),.cut z (sH k m),aD.err er (kS k m)]:=by
 refine aft ?_
 unfold Pn
 rw [wR]
 have hC:kS k m=if cS k=true then (match kF k with | none=>11 | some v=>oQ k.set (jr k.set v.aq) m) else 2:=rfl
 have hN:vW k m=if kS k m=0 then ((kF k).getD vz).n else 0:=rfl
 have hL:jL k m=if kS k m=0 then Ax k.set (jr k.set ((kF k).getD vz).aq) m else []:=rfl
 have hS:sH k m=if kS k m=0 then xS k.set (jr k.set ((kF k).getD vz).aq) m else []:=rfl
 generalize kS k m=C at *
 generalize vW k m=N at *
 generalize jL k m=V at *
 generalize sH k m=S at *
 refine (ak.start w).nw fun p w1 H _=>?_
 have H:ak w [] w1 [.av p (dF k.id k.ten k.set x) aZ]:=H
 refine H.bu 0 rfl (aB (wC k x hl _ (hx.aE H.mod)) ?_)
 rintro _ w2 ⟨rfl,m2⟩
 have H:=H.frame m2
 have no:∀ {w3:World} (e:Value) (c:Int),c≠0→C=c→cO w w3 e c→Mod [] w w3→∃ (y z:ah) (er:Value),Value.tuple ⟨[.int .i64 0,.slice none 0 0,.slice none 0 0,e]⟩=.tuple ⟨[.int .i64 N,.slice y.a y.n y.c,.slice z.a z.n z.c,er]⟩∧
   ak w [] w3 [.row bh 1 y (bp V),.cut z S,aD.err er C]:=by
  intro w3 e c hc gY h m
  rw [gY] at hN hL hS
  rw [if_neg hc] at hN hL hS
  subst hN hL hS
  rw [gY]
  have H1:=((ak.start w).iZ bh 1).push (r:=.cut ⟨none,0,0⟩ []) (Mod.refl [] w) (.inl ⟨rfl,rfl⟩) (fun b hb=>by simp [aD.cut,ah.row] at hb)
  exact ⟨⟨none,0,0⟩,⟨none,0,0⟩,e,rfl,H1.gG m h⟩
 refine bk ?_
 cases hm:cS k with
 | false=>
  rw [hm,if_neg (by decide)] at hC
  refine ite_true rfl (aB (AP 2 (by decide) _) ?_)
  rintro e w3 ⟨h,m3⟩
  exact no e 2 (by decide) hC (BA h H.mod) (H.mod.trans m3)
 | true=>
  rw [hm,if_pos rfl] at hC
  refine ite_false rfl (H.bu 0 rfl (aB (aeK k x hl _ (hx.aE H.mod)) ?_))
  rintro _ w4 ⟨y,rfl,hy⟩
  obtain ⟨f,H⟩:=H.g9 hy
  refine ⟨_,rfl,wh ⟨_,rfl,rfl,H.nw fun p1 w5 H _=>H.gx 2 rfl rfl fun w6 H=>?_⟩⟩
  cases hf:kF k with
  | none=>
   rw [hf] at hC
   refine ite_true rfl (aB (AP 11 (by decide) _) ?_)
   rintro e w3 ⟨h,m3⟩
   exact no e 11 (by decide) hC (BA h H.mod) (H.mod.trans m3)
  | some v=>
   rw [hf] at hC hN hL hS H
   change C=oQ k.set (jr k.set v.aq) m at hC
   change N=(if C=0 then v.n else 0) at hN
   change V=(if C=0 then Ax k.set (jr k.set v.aq) m else []) at hL
   change S=(if C=0 then xS k.set (jr k.set v.aq) m else []) at hS
   obtain ⟨c1,c2,c3,c4,c5,c6,c7⟩:=ai2 hf
   refine ite_false rfl (H.bu 0 rfl (H.an 2 rfl (au p1 0) rfl (aB (Ot k x v.n _ j5 XA hl _ (hx.aE H.mod)) ?_)))
   rw [c6,c7]
   rintro _ w8 ⟨a,b,er,rfl,D⟩
   have H:=H.join D
   have he:gm w8 er 0:=H.err 5 rfl
   refine ⟨_,rfl,a,rfl,b,rfl,rfl,he.isNil (ite_false rfl (H.an 0 rfl (au p 2) rfl (aB (ahy k.set a xm _ m _ (H.bytes 3 rfl) (J7.aE H.mod)) ?_)))⟩
   rintro _ w9 ⟨c,d,e2,rfl,D2⟩
   have H:=H.join D2
   have xY:gm w9 e2 (oQ k.set (jr k.set v.aq) m):=H.err 8 rfl
   refine ⟨_,rfl,c,rfl,d,rfl,rfl,xY.isNil ?_⟩
   by_cases h0:oQ k.set (jr k.set v.aq) m=0
   ·rw [h0] at hC
    rw [hC,if_pos rfl] at hN hL hS
    refine ite_false (by rw [decide_eq_true h0]; rfl) (H.an 2 rfl (au p1 0) rfl ⟨c,d,.nilIface,?_,?_⟩)
    ·rw [hN]; rfl
    ·rw [hL,hS,hC]
     exact ((H.two 6 7 rfl rfl (by omega))).gG (Mod.refl _ _) (qw _ _)
   ·refine ite_true (by rw [decide_eq_false h0]; rfl) (no e2 _ h0 hC ⟨xY,fun b hb=>?_⟩ H.mod)
    exact (H.own 8 (aD.err e2 (oQ k.set (jr k.set v.aq) m)) rfl b hb).resolve_left (by simp)
def oC (k:aV) (bq:Int) (c:List B8):Int:=if js k bq j5=0 then xU k.set (vV k bq j5) c else js k bq j5
def oL (k:aV) (bq:Int) (c:List B8):List B8:=if oC k bq c=0 then uk k.set (vV k bq j5) c else []
theorem al4 {set:Int} {l c:List B8} (h:xU set l c≠0):uk set l c=[]:=by unfold uk; rw [if_neg h]
theorem ag0 (k:aV) (x xc:ah) (bq:Int) (c:List B8) (hl:k.aH.length≤1000000) (w:World) (hx:fY w x k.aH) (hc:Bytes w xc c):Ok Pr OG [.agg ⟨k.cs x⟩,.int .i64 bq,.slice xc.a xc.n xc.c] w fun r w'=>∃ (y:ah) (er:Value),r=.tuple ⟨[.slice y.a y.n y.c,er]⟩∧
  ak w [] w' [.cut y (oL k bq c),aD.err er (oC k bq c)]:=by
 refine afs ?_
 unfold Pm
 have hC:oC k bq c=if js k bq j5=0 then xU k.set (vV k bq j5) c else js k bq j5:=rfl
 have hL:oL k bq c=if oC k bq c=0 then uk k.set (vV k bq j5) c else []:=rfl
 generalize oC k bq c=C at *
 generalize oL k bq c=V at *
 refine (ak.start w).nw fun p w1 H _=>?_
 have H:ak w [] w1 [.av p (dF k.id k.ten k.set x) aZ]:=H
 refine H.bu 0 rfl (aB (Ot k x bq _ j5 XA hl _ (hx.aE H.mod)) ?_)
 rintro _ w2 ⟨y,z,er,rfl,D⟩
 have H:=H.join D
 have he:gm w2 er (js k bq j5):=H.err 3 rfl
 refine ⟨_,rfl,y,rfl,z,rfl,rfl,he.isNil ?_⟩
 by_cases h0:js k bq j5=0
 ·rw [if_pos h0] at hC
  refine ite_false (by rw [decide_eq_true h0]; rfl) (H.an 0 rfl (au p 2) rfl (aB (ahz k.set z xc _ c _ (H.bytes 2 rfl) (hc.aE H.mod)) ?_))
  rintro _ w3 ⟨u,e2,rfl,D2⟩
  refine ⟨_,rfl,u,rfl,rfl,u,e2,rfl,?_⟩
  have eV:V=uk k.set (vV k bq j5) c:=by
   rw [hL]
   by_cases h:C=0
   ·rw [if_pos h]
   ·rw [if_neg h,al4 (by rw [← hC]; exact h)]
  rw [eV,hC]
  exact (H.join D2).drop 4
 ·rw [if_neg h0] at hC
  rw [hC,if_neg h0] at hL
  refine ite_true (by rw [decide_eq_false h0]; rfl) ⟨⟨none,0,0⟩,er,rfl,?_⟩
  have H1:=(ak.start w).push (r:=.cut ⟨none,0,0⟩ []) (Mod.refl [] w) (.inl ⟨rfl,rfl⟩) (fun b hb=>by simp [aD.cut,ah.row] at hb)
  rw [hL,hC]
  exact H1.gG H.mod ⟨he,fun b hb=>(H.own 3 (aD.err er (js k bq j5)) rfl b hb).resolve_left (by simp)⟩
end Go.Proofs.YtgjoehgomjgckaaGreatDoor
end
section
set_option linter.unusedVariables false
set_option linter.unusedSimpArgs false
namespace Go.Proofs.YtgjoehgomjgckaaGreatDoor
open Go Go.Ev
set_option maxRecDepth 20000
set_option linter.unusedVariables false
def bt (u:aI) (k:Nat):aI:=(u >>> k) &&& 1
def fO (high:Int) (u:aI):Bool:=if high<0∨1099511627776<high then false else if high=0 then decide (u=0) else decide (high<64→u >>> high.toNat=0) && decide (u &&& 1=1)
def mY (high:Int) (u:aI) (n:Int):Bool:=if fO high u=true∧1≤n∧n≤1099511627776∧high - n<64 then decide (high<n) || decide (bt u (high - n).toNat=0) else false
def lW (high:Int) (u:aI) (n:Int):Int:=if fO high u=true then (if mY high u n=true then 0 else 8) else 2
def tI (high:Int) (u:aI) (n:Int):Int:=if lW high u n=0 then (if high<n then n else high) else 0
def xE (high:Int) (u:aI) (n:Int):aI:=if lW high u n=0 then (if high<n then (u <<< (min (n - high) 64).toNat) ||| 1 else u ||| ((1:aI) <<< (high - n).toNat)) else 0
theorem Re {high:Int} {u:aI} (h:fO high u=true):0≤high∧high≤1099511627776:=by
 unfold fO at h
 split at h
 ·cases h
 ·omega
theorem BB {x y:aI}:((x.toNat:Int)=(y.toNat:Int))↔x=y:=by
 rw [Int.ofNat_inj]
 exact ⟨BitVec.eq_of_toNat_eq,fun h=>by rw [h]⟩
theorem Su:(1:Int)=((1:aI).toNat:Int):=rfl
theorem al5:(0:Int)=((0:aI).toNat:Int):=rfl
theorem Jw (u:aI):iu .u64 (u.toNat:Int) 1=((u &&& 1).toNat:Int):=by
 have:=R7 u 1
 rw [← Su] at this
 exact this
theorem No (high:Int) (u:aI) (w:World):Ok Pr Dm [.int .i64 high,.int .u64 (u.toNat:Int)] w fun r w'=>r=.bool (fO high u)∧w'=w:=by
 refine aeH ?_
 unfold On
 refine ku fun go bZ=>?_
 by_cases h:high<0∨1099511627776<high
 ·exact ite_true (by simpa using h) ⟨by unfold fO; rw [if_pos h],rfl⟩
 refine ite_false (by simpa using h) ?_
 by_cases h0:high=0
 ·refine ite_true (decide_eq_true h0) ⟨?_,rfl⟩
  unfold fO
  rw [if_neg h,if_pos h0]
  congr 1
  exact decide_eq_decide.2 (BB (y:=0))
 refine ite_false (decide_eq_false h0) ?_
 have last:fO high u=decide (u &&& 1=1)→go w:=fun e=>by
  refine bZ _ ⟨?_,rfl⟩
  rw [e,Jw]
  congr 1
  exact decide_eq_decide.2 (BB (y:=1))
 by_cases gV:high<64
 ·refine ite_true (decide_eq_true gV) (kK (by omega) ?_)
  obtain ⟨k,rfl⟩:∃ k:Nat,high=(k:Int):=⟨high.toNat,by omega⟩
  rw [zx]
  have hM:fO (k:Int) u=(decide (u >>> k=0) && decide (u &&& 1=1)):=by
   unfold fO
   rw [if_neg h,if_neg h0,Int.toNat_natCast]
   congr 1
   exact decide_eq_decide.2 ⟨fun f=>f gV,fun f _=>f⟩
  by_cases hz:u >>> k=0
  ·exact ite_false (by rw [decide_eq_true (show ((u >>> k).toNat:Int)=0 by rw [hz]; rfl)]; rfl) (last (by rw [hM,decide_eq_true hz]; rfl))
  ·exact ite_true (by rw [decide_eq_false (show ¬ ((u >>> k).toNat:Int)=0 from fun f=>hz (BB.1 (f.trans al5)))]; rfl) ⟨by rw [hM,decide_eq_false hz]; rfl,rfl⟩
 ·refine ite_false (decide_eq_false gV) (last ?_)
  unfold fO
  rw [if_neg h,if_neg h0,decide_eq_true (fun f=>absurd f gV),Bool.true_and]
theorem anx {a b:Int} (ha:0≤a∧a≤1099511627776) (hb:1≤b∧b≤1099511627776):IntKind.wrap .i64 (a - b)=a - b:=wrap_i64 (by omega) (by omega)
theorem aeL (high:Int) (u:aI) (n:Int) (w:World):Ok Pr Mo [.int .i64 high,.int .u64 (u.toNat:Int),.int .i64 n] w fun r w'=>r=.bool (mY high u n)∧w'=w:=by
 refine adv ?_
 unfold MD
 refine aB (No high u w) ?_
 rintro _ w1 ⟨rfl,hw⟩
 subst hw
 refine bk ?_
 by_cases h:fO high u=true∧1≤n∧n≤1099511627776
 case neg=>
  have e:mY high u n=false:=by unfold mY; rw [if_neg fun f=>h ⟨f.1,f.2.1,f.2.2.1⟩]
  refine ite_true ?_ ⟨by rw [e],rfl⟩
  cases hm:fO high u with
  | false=>rfl
  | true=>
   rw [hm] at h
   by_cases h1:n<1
   ·rw [decide_eq_true h1]; rfl
   ·rw [decide_eq_true (show 1099511627776<n from Decidable.byContradiction fun f=>h ⟨rfl,by omega,by omega⟩)]; simp
 obtain ⟨hm,h1,h2⟩:=h
 rw [anx (Re hm) ⟨h1,h2⟩]
 by_cases gV:high - n<64
 case neg=>
  have e:mY high u n=false:=by unfold mY; rw [if_neg fun f=>gV f.2.2.2]
  exact ite_true (by rw [decide_eq_true (show (64:Int)≤high - n by omega)]; simp) ⟨by rw [e],rfl⟩
 have e:mY high u n=(decide (high<n) || decide (bt u (high - n).toNat=0)):=by unfold mY; rw [if_pos ⟨hm,h1,h2,gV⟩]
 refine ite_false (by rw [hm,decide_eq_false (show ¬ n<1 by omega),decide_eq_false (show ¬ 1099511627776<n by omega),decide_eq_false (show ¬ (64:Int)≤high - n by omega)]; rfl) ?_
 by_cases hh:high<n
 ·exact ite_true (decide_eq_true hh) ⟨by rw [e,decide_eq_true hh]; rfl,rfl⟩
 ·refine ite_false (decide_eq_false hh) (kK (by omega) ⟨?_,rfl⟩)
  rw [e,decide_eq_false hh,Bool.false_or]
  obtain ⟨k,hk⟩:∃ k:Nat,high - n=(k:Int):=⟨(high - n).toNat,by omega⟩
  rw [hk,Int.toNat_natCast,zx,Jw]
  congr 1
  exact decide_eq_decide.2 (BB (y:=0))
theorem ags (high:Int) (u:aI) (n:Int) (w:World):Ok Pr ND [.int .i64 high,.int .u64 (u.toNat:Int),.int .i64 n] w fun r w'=>∃ er:Value,r=.tuple ⟨[.int .i64 (tI high u n),.int .u64 ((xE high u n).toNat:Int),er]⟩∧cO w w' er (lW high u n)∧Mod [] w w':=by
 refine aeG ?_
 unfold Om
 have hC:lW high u n=if fO high u=true then (if mY high u n=true then 0 else 8) else 2:=rfl
 have hH:tI high u n=if lW high u n=0 then (if high<n then n else high) else 0:=rfl
 have hU:xE high u n=if lW high u n=0 then (if high<n then (u <<< (min (n - high) 64).toNat) ||| 1 else u ||| ((1:aI) <<< (high - n).toNat)) else 0:=rfl
 generalize lW high u n=C at *
 generalize tI high u n=A at *
 generalize xE high u n=B at *
 have no:∀ c:Int,c≠0→C=c→nw oW [.int .i64 c,.string QW] w fun p w2=>∃ er:Value,Value.tuple ⟨[.int .i64 0,.int .u64 0,.iface ju (.pointer (some p))]⟩=.tuple ⟨[.int .i64 A,.int .u64 (B.toNat:Int),er]⟩∧cO w w2 er C∧Mod [] w w2:=by
  intro c hc gY
  rw [gY,if_neg hc] at hH hU
  subst hH hU
  rw [gY]
  exact qv fun b w' hb h1 h2 _=>⟨_,rfl,cO.mk h1 (by omega) hc,h2⟩
 refine aB (No high u w) ?_
 rintro _ w1 ⟨rfl,hw⟩
 subst hw
 refine bk ?_
 cases hm:fO high u with
 | false=>
  rw [hm,if_neg (by decide)] at hC
  exact ite_true rfl (no 2 (by decide) hC)
 | true=>
  rw [hm,if_pos rfl] at hC
  refine ite_false rfl (aB (aeL high u n w1) ?_)
  rintro _ w2 ⟨rfl,hw⟩
  subst hw
  refine bk ?_
  cases hf:mY high u n with
  | false=>
   rw [hf,if_neg (by decide)] at hC
   exact ite_true rfl (no 8 (by decide) hC)
  | true=>
   rw [hf,if_pos rfl] at hC
   rw [hC,if_pos rfl] at hH hU
   subst hH hU
   rw [hC]
   have hr:=Re hm
   have hn:1≤n∧n≤1099511627776:=by
    unfold mY at hf
    split at hf
    ·rename_i hc; exact ⟨hc.2.1,hc.2.2.1⟩
    ·cases hf
   refine ite_false rfl ?_
   by_cases hh:high<n
   ·rw [if_pos hh,if_pos hh]
    obtain ⟨k,hk⟩:∃ k:Nat,min (n - high) 64=(k:Int):=⟨(min (n - high) 64).toNat,by omega⟩
    rw [hk,Int.toNat_natCast]
    refine ite_true (decide_eq_true hh) ⟨⟨by omega,by omega⟩,kK (by omega) ⟨.nilIface,?_,cO.zero _ _,Mod.drew _ _⟩⟩
    rw [I4,Su,SH]
   ·rw [if_neg hh,if_neg hh]
    obtain ⟨k,hk⟩:∃ k:Nat,high - n=(k:Int):=⟨(high - n).toNat,by omega⟩
    rw [hk,Int.toNat_natCast]
    refine ite_false (decide_eq_false hh) ⟨⟨by omega,by omega⟩,kK (by omega) ⟨.nilIface,?_,cO.zero _ _,Mod.drew _ _⟩⟩
    rw [Su,I4,SH]
end Go.Proofs.YtgjoehgomjgckaaGreatDoor
end
section
set_option linter.unusedVariables false
set_option linter.unusedSimpArgs false
namespace Go.Proofs.YtgjoehgomjgckaaGreatDoor
open Go Go.Ev
set_option maxRecDepth 20000
set_option linter.unusedVariables false
structure ct where
 id:Int
 par:Int
 name:ByteArray
def tz:ct:=⟨0,0,ByteArray.empty⟩
def ct.cs (t:ct) (_:ah):List Value:=ko t.id t.par t.name
theorem ct.cu (t:ct) (x:ah):(t.cs x).length=3:=rfl
def NoE (_:World) (_:ah) (_:ct):Prop:=True
def fU (w:World) (s:ah) (ts:List ct):Prop:=Dv ct.cs 3 NoE w s ts
theorem fU.aE {w w':World} {s:ah} {ts:List ct} (h:fU w s ts) (m:Mod [] w w'):fU w' s ts:=Dv.aE (E:=NoE) (fun _ _=>trivial) h m
theorem fU.len {w:World} {s:ah} {ts:List ct} (h:fU w s ts):ts.length=s.n:=Dv.len ct.cu (by omega) h
theorem fU.at {w:World} {s:ah} {ts:List ct} (h:fU w s ts) {i:Nat} (hi:i<ts.length) :
  (s.a.isSome=true∧(0:Int)≤(i:Int)∧(i:Int)<(s.n:Int))∧∀ (j:Nat) (v:Value),(ko (ts.getD i tz).id (ts.getD i tz).par (ts.getD i tz).name)[j]? = some v→w.cell? (Addr.add (Addr.add (base s.a) (Int.toNat (i:Int) * 3)) j)=some v:=by
 have ha:ts[i]? = some (ts.getD i tz):=by rw [List.getD_eq_getElem?_getD,List.getElem?_eq_getElem hi]; rfl
 obtain ⟨h1,x,_,h2⟩:=Dv.at ct.cu (by omega) h ha
 exact ⟨h1,h2⟩
theorem ad4 (c:Int) (hc:c≠0) (w:World):Ok Pr wk [.int .i64 c] w fun v w'=>cO w w' v c∧Mod [] w w':=by
 refine ade ?_
 unfold L8
 exact qv fun b w' hb h1 h2 _=>⟨cO.mk h1 (by omega) hc,h2⟩
def qx (s:ByteArray):Bool:=aP 1 300 (s.size:Int)
theorem UF (s:ByteArray) (w:World):Ok Pr GJ [.string s] w fun v w'=>v=.bool (qx s)∧w'=w:=by
 refine acZ ?_
 unfold L5
 exact ⟨rfl,rfl⟩
theorem UG (x:ah) (ts:List ct) (id:Int) (w:World) (hx:fU w x ts):Ok Pr GL [.slice x.a x.n x.c,.int .i64 id] w fun v w'=>v=.bool (aP 1 (ts.length:Int) id)∧w'=w:=by
 refine adf ?_
 unfold L9
 have:=hx.len
 refine ⟨?_,rfl⟩
 rw [this]; rfl
def Zu (w:World) (g:Value) (p:ct→Bool):Prop:=∀ (t:ct) (w':World),Mod [] w w'→lJ Pr g [.agg ⟨ko t.id t.par t.name⟩] w' fun v fo=>v=.bool (p t)∧Mod [] w' fo
theorem ab7 (g:Value) (p:ct→Bool) (x:ah) (ts:List ct) (hl:ts.length≤1000000000) (w:World) (hx:fU w x ts) (hg:Zu w g p) :
  Ok Pr Km [.slice x.a x.n x.c,g] w fun v w'=>∃ z:Int,v=.int .i64 z∧decide (0≤z)=ts.any p∧Mod [] w w':=by
 refine abK ?_
 unfold Ko
 have bT:=hx.len
 refine dw 0 ts.length (fun i w'=>(ts.take i).any p=false∧Mod [] w w') rfl (by omega) ⟨rfl,Mod.refl _ _⟩ ?_ ?_
 ·rintro again i w1 _ hi ⟨hn,m⟩ aM
  obtain ⟨dm,hc⟩:=(hx.aE m).at hi
  refine ite_true (decide_eq_true (by omega)) ⟨dm,C2 hc (DH (hg _ w1 m) ?_)⟩
  rintro _ w2 ⟨rfl,m2⟩
  refine bk (bU (fun hc=>?_) (fun hc=>?_))
  ·exact ⟨_,rfl,by rw [AO p ts i hi tz hc]; exact decide_eq_true (by omega),m.trans m2⟩
  ·exact ⟨⟨by omega,by omega⟩,aM w2 ⟨by rw [AN p ts i hi tz,hn,hc]; rfl,m.trans m2⟩⟩
 ·rintro again w1 ⟨hn,m⟩
  rw [List.take_of_length_le (Nat.le_refl _)] at hn
  exact ite_false (decide_eq_false (by omega)) ⟨_,rfl,by rw [hn]; rfl,m⟩
theorem abZ (g:Value) (p:ct→Bool) (x:ah) (ts:List ct) (hl:ts.length≤1000000000) (w:World) (hx:fU w x ts) (hg:Zu w g p) :
  Ok Pr Ki [.slice x.a x.n x.c,g] w fun v w'=>v=.bool (ts.any p)∧Mod [] w w':=by
 refine abI ?_
 unfold Kj
 refine aB (ab7 g p x ts hl w hx hg) ?_
 rintro _ w1 ⟨z,rfl,hz,m⟩
 exact ey ⟨by rw [hz],m⟩
def kZ (par:Int) (name:ByteArray) (t:ct):Bool:=decide (t.par=par) && decide (t.name=name)
theorem aib:jw Pr Lm=true:=by kernel_rfl
theorem UH (x:ah) (ts:List ct) (hl:ts.length≤1000000000) (par:Int) (name:ByteArray) (w:World) (hx:fU w x ts):Ok Pr GK [.slice x.a x.n x.c,.int .i64 par,.string name] w fun v w'=>v=.bool (ts.any (kZ par name))∧Mod [] w w':=by
 refine ada ?_
 unfold L6
 refine (ak.start w).nw fun p w1 H _=>H.nw fun p1 w2 H _=>?_
 refine aB (abZ _ (kZ par name) x ts hl w2 (hx.aE H.mod) fun t w3 m=>?_) ?_
 ·refine yW aib (acr ?_)
  unfold Lt
  have b1:bW w3 p [.int .i64 par] bG:=(H.frame m).av 0 rfl
  have b2:bW w3 p1 [.string name] yU:=(H.frame m).av 1 rfl
  have K:=((ak.start w3).frame (Mod.refl [] w3))
  refine K.nw fun q w4 K _=>?_
  have c1:=b1.aE K.mod
  have c2:=b2.aE K.mod
  exact K.an 0 rfl (au q 1) rfl (c1.an rfl rfl (K.fW 0 rfl (au q 2) rfl ⟨_,by rw [c2.cell]; rfl,rfl,K.mod⟩))
 ·rintro _ w3 ⟨rfl,m⟩
  exact bk ⟨rfl,H.mod.trans m⟩
end Go.Proofs.YtgjoehgomjgckaaGreatDoor
end
section
set_option linter.unusedVariables false
set_option linter.unusedSimpArgs false
namespace Go.Proofs.YtgjoehgomjgckaaGreatDoor
open Go Go.Ev
set_option maxRecDepth 20000
set_option linter.unusedVariables false
theorem YA:zc Pr dV=[.int .i64 0,.int .i64 0,.string ByteArray.empty]:=by kernel_rfl
def nH (ts:List ct) (i:Nat):Bool:=
 decide ((ts.getD i tz).id=(i:Int)+1) && (decide (min (i:Int) 1≤(ts.getD i tz).par) && (decide ((ts.getD i tz).par≤(i:Int)) && (qx (ts.getD i tz).name && !(ts.take i).any (kZ (ts.getD i tz).par (ts.getD i tz).name))))
def mL (ts:List ct):Nat→Bool
 | 0=>true
 | i+1=>mL ts i && nH ts i
def gJ (ts:List ct):Bool:=decide (ts.length≤8) && mL ts ts.length
theorem RR {ts:List ct} {i:Nat} (h:nH ts i=false):∀ n,i<n→mL ts n=false
 | 0,hn=>by omega
 | n+1,hn=>by
  show (mL ts n && _)=false
  rcases Nat.lt_or_ge i n with h2 | h2
  ·rw [RR h n h2,Bool.false_and]
  ·rw [show n=i by omega,h,Bool.and_false]
theorem fU.S0 {w:World} {s:ah} {ts:List ct} (h:fU w s ts) (k:Nat) (hk:k≤ts.length):fU w ⟨s.a,k,s.c⟩ (ts.take k):=by
 have hn:=h.len
 obtain ⟨xs,h1,h2⟩:=h
 have bT:=h2.1
 refine ⟨xs.take k,?_,by simp [bT],fun i x t _ _=>trivial⟩
 have e:bA ct.cs (ts.take k) (xs.take k)=(bA ct.cs ts xs).take (k * 3):=by
  have:=Bl (C:=ct.cs) (ts.take k) (xs.take k) (by simp [bT]) (ts.drop k) (xs.drop k)
  rw [List.take_append_drop,List.take_append_drop] at this
  have hd:(bA ct.cs (ts.take k) (xs.take k)).length=k * 3:=by
   rw [iO ct.cu _ _ (by simp [bT]),List.length_take,Nat.min_eq_left hk]
  rw [this,List.take_append_of_le_length (by omega)]
  exact (List.take_of_length_le (by omega)).symm
 rw [e]
 have hc:=h1.cap
 have hl:=h1.len
 rw [iO ct.cu _ _ bT] at hl
 refine ⟨by rw [List.length_take,iO ct.cu _ _ bT]; show min (k * 3) _=k * 3; omega,by show k≤s.c; omega,fun h0=>h1.pre (by have:0<k:=h0; omega),fun i v hv=>?_⟩
 rw [List.getElem?_take] at hv
 split at hv
 ·exact h1.cell i v hv
 ·cases hv
theorem MH (x:ah) (ts:List ct) (hl:ts.length≤1000000) (w:World) (hx:fU w x ts):Ok Pr C8 [.slice x.a x.n x.c] w fun v w'=>v=.bool (gJ ts)∧Mod [] w w':=by
 refine adV ?_
 unfold Nh
 rw [YA]
 have bT:=hx.len
 have tQ:x.n≤x.c:=by obtain ⟨xs,h1,_⟩:=hx; exact h1.cap
 by_cases h8:ts.length≤8
 case neg=>exact ite_true (decide_eq_true (by omega)) ⟨by unfold gJ; rw [decide_eq_false h8]; rfl,Mod.refl _ _⟩
 have eM:gJ ts=mL ts ts.length:=by unfold gJ; rw [decide_eq_true h8]; rfl
 refine ite_false (decide_eq_false (by omega)) ?_
 refine dw 0 ts.length (fun i w'=>mL ts i=true∧Mod [] w w') rfl (by omega) ⟨rfl,Mod.refl _ _⟩ ?_ ?_
 ·rintro again i w1 _ hi ⟨dU,m⟩ aM
  obtain ⟨dm,hc⟩:=(hx.aE m).at hi
  have hs:mL ts (i+1)=(mL ts i && nH ts i):=rfl
  have hF:nH ts i=(decide ((ts.getD i tz).id=(i:Int)+1) && (decide (min (i:Int) 1≤(ts.getD i tz).par) && (decide ((ts.getD i tz).par≤(i:Int)) && (qx (ts.getD i tz).name && !(ts.take i).any (kZ (ts.getD i tz).par (ts.getD i tz).name))))):=rfl
  have no:∀ {w2:World},Mod [] w w2→nH ts i=false→(fun v w'=>v=Value.bool (gJ ts)∧Mod [] w w') (.bool false) w2:=fun m h=>⟨by rw [eM,RR h _ hi],m⟩
  generalize ts.getD i tz=t at *
  refine ite_true (decide_eq_true (by omega)) ⟨dm,C2 hc ((ak.start w1).nw fun p w2 D _=>D.AM 0 rfl rfl fun w3 D=>?_)⟩
  have D:=D.drew
  refine D.an 0 rfl (au p 0) rfl ⟨⟨by omega,by omega⟩,D.an 0 rfl (au p 1) rfl (D.an 0 rfl (au p 1) rfl (D.fW 0 rfl (au p 2) rfl ?_))⟩
  by_cases hg:t.id=(i:Int)+1∧min (i:Int) 1≤t.par∧t.par≤(i:Int)
  case neg=>
   refine ite_true ?_ (no (m.trans D.mod) ?_)
   ·simp only [Bool.or_eq_true,Bool.not_eq_true',decide_eq_true_eq,decide_eq_false_iff_not]
    omega
   ·rw [hF]
    simp only [Bool.and_eq_false_iff,decide_eq_false_iff_not]
    by_cases q1:t.id=(i:Int)+1
    ·by_cases q2:min (i:Int) 1≤t.par
     ·exact .inr (.inr (.inl fun q3=>hg ⟨q1,q2,q3⟩))
     ·exact .inr (.inl q2)
    ·exact .inl q1
  obtain ⟨g1,g2,g3⟩:=hg
  rw [decide_eq_true g1,decide_eq_true g2,decide_eq_true g3,Bool.true_and,Bool.true_and,Bool.true_and] at hF
  refine ite_false ?_ (aB (UF _ _) ?_)
  ·rw [decide_eq_true g1,decide_eq_false (show ¬ t.par<min (i:Int) 1 by omega),decide_eq_false (show ¬ (i:Int)<t.par by omega)]; rfl
  rintro _ w4 ⟨rfl,hw⟩
  subst hw
  refine bk ?_
  cases hn:qx t.name with
  | false=>exact ite_true rfl (no (m.trans D.mod) (by rw [hF,hn]; rfl))
  | true=>
   rw [hn,Bool.true_and] at hF
   refine ite_false rfl ⟨⟨by omega,by omega⟩,D.an 0 rfl (au p 1) rfl (D.fW 0 rfl (au p 2) rfl ?_)⟩
   rw [Int.toNat_natCast]
   refine aB (UH ⟨x.a,i,x.c⟩ (ts.take i) (by rw [List.length_take]; omega) t.par t.name _ ((hx.aE (m.trans D.mod)).S0 i (by omega))) ?_
   rintro _ w5 ⟨rfl,m5⟩
   refine bk ?_
   cases ht:(ts.take i).any (kZ t.par t.name) with
   | true=>exact ite_true rfl (no (m.trans (D.mod.trans m5)) (by rw [hF,ht]; rfl))
   | false=>exact ite_false rfl ⟨⟨by omega,by omega⟩,aM _ ⟨by rw [hs,dU,hF,ht]; rfl,m.trans (D.mod.trans m5)⟩⟩
 ·rintro again w1 ⟨dU,m⟩
  exact ite_false (decide_eq_false (by omega)) ⟨by rw [eM,dU],m⟩
end Go.Proofs.YtgjoehgomjgckaaGreatDoor
end
section
set_option linter.unusedVariables false
set_option linter.unusedSimpArgs false
namespace Go.Proofs.YtgjoehgomjgckaaGreatDoor
open Go Go.Ev
set_option maxRecDepth 20000
set_option linter.unusedVariables false
theorem Ru:e6 Pr sP dV 3 32:=e6.of (by kernel_rfl)
theorem ct.lV (t:ct) (x:ah):∀ u∈t.cs x,ek u=true:=by
 intro u hu
 simp only [ct.cs,ko,List.mem_cons,List.not_mem_nil,or_false] at hu
 rcases hu with rfl | rfl | rfl <;> rfl
def iV (ts:List ct):List Value:=bA ct.cs ts (List.replicate ts.length ⟨none,0,0⟩)
theorem YB {ts:List ct} {xs:List ah} (h:xs.length=ts.length):bA ct.cs ts xs=iV ts:=by
 unfold iV
 induction ts generalizing xs with
 | nil=>simp [bA]
 | cons t r ih=>
  cases xs with
  | nil=>simp at h
  | cons x xs=>
   rw [List.length_cons,List.replicate_succ,rj,rj,ih (by simpa using h)]
   rfl
theorem fU.sl {w:World} {s:ah} {ts:List ct} (h:fU w s ts):Sl w s 3 (iV ts):=by
 obtain ⟨xs,h1,h2⟩:=h
 rw [YB h2.1] at h1
 exact h1
theorem fU.of {w:World} {s:ah} {ts:List ct} (h:Sl w s 3 (iV ts)):fU w s ts:=⟨_,h,by simp,fun _ _ _ _ _=>trivial⟩
theorem aj4 (ts:List ct) (t:ct):iV (ts ++ [t])=iV ts ++ ko t.id t.par t.name:=by
 have:=Bl (C:=ct.cs) ts (List.replicate ts.length ⟨none,0,0⟩) (by simp) [t] [⟨none,0,0⟩]
 rw [YB (by simp)] at this
 rw [this,wO]; rfl
theorem Uw (x:ah) (ts:List ct) (hl:ts.length≤1000000) (w:World) (hx:fU w x ts):Ok Pr Gx [.slice x.a x.n x.c] w fun v w'=>∃ y:ah,v=.slice y.a y.n y.c∧Own w' w.heap.size dV 3 y (iV ts)∧y.n=x.n∧Mod [] w w':=by
 refine abM ?_
 unfold Kt
 have bT:=hx.len
 have hs:=hx.sl
 refine bU (fun h=>?_) (fun h=>?_)
 ·have h0:x.n=0:=by
   rcases Nat.eq_zero_or_pos x.n with e | e
   ·exact e
   ·have:=Sl.pre hs e
    cases ha:x.a with
    | none=>rw [ha] at this; cases this
    | some a=>rw [ha] at h; cases h
  obtain rfl:ts=[]:=List.eq_nil_of_length_eq_zero (by omega)
  exact ⟨⟨none,0,0⟩,rfl,Own.nil _ _ _ _,h0.symm,Mod.refl _ _⟩
 ·refine (ak.start w).nw fun p w1 H _=>?_
  have H:=H.rz 0 3 0 0 rfl rfl (Nat.le_refl _) (by simp only [maxLen]; omega)
  refine H.app (s:=⟨some ⟨p,0,none⟩,0,0⟩) (vs:=[]) 0 Ru rfl (hs.aE H.mod) (uF ct.lV _ _) (by show (0+x.n) * 32≤_; omega) (by show 0+x.n≤_; omega) fun y w2 H hy=>?_
  exact ⟨y,rfl,H.fN 0 rfl,by rw [hy]; exact Nat.zero_add _,H.mod⟩
def oG (ts:List ct) (par:Int) (name:ByteArray):Int:=if gJ ts=true then (if aP 1 (ts.length:Int) par=true then (if qx name=true then (if ts.any (kZ par name)=true then 13 else if ts.length=8 then 12 else 0) else 2) else 9) else 2
def rP (ts:List ct) (par:Int) (name:ByteArray):List ct:=if oG ts par name=0 then ts ++ [⟨(ts.length:Int)+1,par,name⟩] else []
def E0 (ts:List ct) (par:Int) (name:ByteArray):Int:=if oG ts par name=0 then (ts.length:Int)+1 else 0
theorem afx (x:ah) (ts:List ct) (hl:ts.length≤1000000) (par:Int) (name:ByteArray) (w:World) (hx:fU w x ts):Ok Pr MN [.slice x.a x.n x.c,.int .i64 par,.string name] w fun v w'=>∃ (y:ah) (er:Value),v=.tuple ⟨[.slice y.a y.n y.c,.int .i64 (E0 ts par name),er]⟩∧ak w [] w' [.row dV 3 y (iV (rP ts par name)),aD.err er (oG ts par name)]:=by
 refine adY ?_
 unfold Nl
 have bT:=hx.len
 have hC:oG ts par name=if gJ ts=true then (if aP 1 (ts.length:Int) par=true then (if qx name=true then (if ts.any (kZ par name)=true then 13 else if ts.length=8 then 12 else 0) else 2) else 9) else 2:=rfl
 have hT:rP ts par name=if oG ts par name=0 then ts ++ [⟨(ts.length:Int)+1,par,name⟩] else []:=rfl
 have hI:E0 ts par name=if oG ts par name=0 then (ts.length:Int)+1 else 0:=rfl
 generalize oG ts par name=C at *
 generalize rP ts par name=T at *
 generalize E0 ts par name=I at *
 have no:∀ {w3:World} (c:Int),Mod [] w w3→c≠0→C=c→ay Pr wk [.int .i64 c] w3 fun v w4=>∃ (y:ah) (er:Value),Value.tuple ⟨[.slice none 0 0,.int .i64 0,v]⟩=.tuple ⟨[.slice y.a y.n y.c,.int .i64 I,er]⟩∧ak w [] w4 [.row dV 3 y (iV T),aD.err er C]:=by
  intro w3 c m hc gY
  rw [gY,if_neg hc] at hT hI
  subst hT hI
  rw [gY]
  refine aB (ad4 c hc w3) ?_
  rintro e w4 ⟨h,m4⟩
  exact ⟨⟨none,0,0⟩,e,rfl,(((ak.start w).iZ dV 3).frame m).gG m4 h⟩
 refine aB (MH x ts hl w hx) ?_
 rintro _ w1 ⟨rfl,m1⟩
 refine bk ?_
 cases h1:gJ ts with
 | false=>
  rw [h1,if_neg (by decide)] at hC
  exact ite_true rfl (no 2 m1 (by decide) hC)
 | true=>
  rw [h1,if_pos rfl] at hC
  refine ite_false rfl (aB (UG x ts par _ (hx.aE m1)) ?_)
  rintro _ w2 ⟨rfl,hw⟩
  subst hw
  refine bk ?_
  cases h2:aP 1 (ts.length:Int) par with
  | false=>
   rw [h2,if_neg (by decide)] at hC
   exact ite_true rfl (no 9 m1 (by decide) hC)
  | true=>
   rw [h2,if_pos rfl] at hC
   refine ite_false rfl (aB (UF name _) ?_)
   rintro _ w3 ⟨rfl,hw⟩
   subst hw
   refine bk ?_
   cases h3:qx name with
   | false=>
    rw [h3,if_neg (by decide)] at hC
    exact ite_true rfl (no 2 m1 (by decide) hC)
   | true=>
    rw [h3,if_pos rfl] at hC
    refine ite_false rfl (aB (UH x ts (by omega) par name _ (hx.aE m1)) ?_)
    rintro _ w4 ⟨rfl,m4⟩
    have m4:=m1.trans m4
    refine bk ?_
    cases h4:ts.any (kZ par name) with
    | true=>
     rw [h4,if_pos rfl] at hC
     exact ite_true rfl (no 13 m4 (by decide) hC)
    | false=>
     rw [h4,if_neg (by decide)] at hC
     refine ite_false rfl ?_
     by_cases h8:ts.length=8
     ·rw [if_pos h8] at hC
      exact ite_true (decide_eq_true (by omega)) (no 12 m4 (by decide) hC)
     rw [if_neg h8] at hC
     rw [hC,if_pos rfl] at hT hI
     subst hT hI
     rw [hC]
     refine ite_false (decide_eq_false (by omega)) ⟨⟨by omega,by omega⟩,tu (aB (Uw x ts hl _ (hx.aE m4)) ?_)⟩
     rintro _ w5 ⟨y,rfl,hy,xP,m5⟩
     have H:=((ak.start w).frame m4).cF m5 hy
     rw [show ((x.n:Nat):Int)+1=(ts.length:Int)+1 by omega]
     refine bV (H.B7 0 Ru rfl rfl (by intro u hu; exact ct.lV ⟨(ts.length:Int)+1,par,name⟩ ⟨none,0,0⟩ u hu) (by omega) (by omega) fun y' w6 H _=>⟨y',.nilIface,rfl,?_⟩)
     rw [aj4]
     exact H.gG (Mod.refl _ _) (cO.zero _ _)
end Go.Proofs.YtgjoehgomjgckaaGreatDoor
end
section
set_option linter.unusedVariables false
set_option linter.unusedSimpArgs false
namespace Go.Proofs.YtgjoehgomjgckaaGreatDoor
open Go Go.Ev
set_option maxRecDepth 20000
set_option linter.unusedVariables false
theorem Zv {ts:List ct}:∀ n,mL ts n=true→∀ i,i<n→nH ts i=true
 | 0,_,i,hi=>by omega
 | n+1,h,i,hi=>by
  change (mL ts n && nH ts n)=true at h
  rw [Bool.and_eq_true] at h
  rcases Nat.lt_or_ge i n with h2 | h2
  ·exact Zv n h.1 i h2
  ·rw [show i=n by omega]; exact h.2
theorem ala {ts:List ct} (h:gJ ts=true):ts.length≤8∧∀ i,i<ts.length→(ts.getD i tz).id=(i:Int)+1∧0≤(ts.getD i tz).par∧(ts.getD i tz).par≤(i:Int):=by
 unfold gJ at h
 rw [Bool.and_eq_true,decide_eq_true_eq] at h
 refine ⟨h.1,fun i hi=>?_⟩
 have:=Zv _ h.2 i hi
 unfold nH at this
 simp only [Bool.and_eq_true,decide_eq_true_eq] at this
 obtain ⟨a,b,c,_⟩:=this
 exact ⟨a,by omega,c⟩
def pn (ts:List ct):Nat→Int→List Int
 | 0,_=>[]
 | f+1,a=>if aP 1 (ts.length:Int) a=true then a :: pn ts f (ts.getD (a - 1).toNat tz).par else []
def xq (ts:List ct) (a:Int):List Int:=if gJ ts=true then pn ts (ts.length+1) a else []
theorem QM (ts:List ct):∀ (f:Nat) (a:Int),(pn ts f a).length≤f
 | 0,_=>by simp [pn]
 | f+1,a=>by
  unfold pn
  split
  ·have:=QM ts f (ts.getD (a - 1).toNat tz).par
   rw [List.length_cons]; omega
  ·simp
theorem aeM (x:ah) (ts:List ct) (hl:ts.length≤1000000) (a:Int) (w:World) (hx:fU w x ts):Ok Pr Mp [.slice x.a x.n x.c,.int .i64 a] w fun v w'=>qA w w' v (xq ts a):=by
 refine adw ?_
 unfold ME
 have bT:=hx.len
 refine aB (MH x ts hl w hx) ?_
 rintro _ w1 ⟨rfl,m1⟩
 refine bk ?_
 cases hm:gJ ts with
 | false=>exact ite_true rfl ⟨⟨none,0,0⟩,rfl,by unfold xq; rw [hm]; exact Own.nil _ _ _ _,m1⟩
 | true=>
  obtain ⟨h8,Js⟩:=ala hm
  have hP:xq ts a=pn ts (ts.length+1) a:=by unfold xq; rw [if_pos hm]
  have hPl:=QM ts (ts.length+1) a
  rw [hP]
  generalize anz:pn ts (ts.length+1) a=full at *
  refine ite_false rfl ?_
  refine wL (fun (b:Int) (out:ah) w'=>∃ (f:Nat) (pre:List Int),pre ++ pn ts f b=full∧(aP 1 (ts.length:Int) b=true→b.toNat<f)∧ak w [] w' [.row bG 1 out (cr pre)]) (fun b _ _=>b.toNat)
   ⟨ts.length+1,[],anz,fun h=>by unfold aP at h; simp only [Bool.and_eq_true,decide_eq_true_eq] at h; omega,by simpa [cr] using ((ak.start w).frame m1).iZ bG 1⟩ ?_
  rintro again b out w2 ⟨f,pre,rN,hf,H⟩ aM
  refine aB (UG x ts b _ (hx.aE H.mod)) ?_
  rintro _ w3 ⟨rfl,hw⟩
  subst hw
  refine bk ?_
  cases ew:aP 1 (ts.length:Int) b with
  | false=>
   have e:pn ts f b=[]:=by
    cases f with
    | zero=>rfl
    | succ f=>unfold pn; rw [ew]; rfl
   rw [e,List.append_nil] at rN
   subst rN
   exact ite_false rfl ⟨out,rfl,H.fN 0 rfl,H.mod⟩
  | true=>
   have bX:=hf ew
   obtain ⟨g,rfl⟩:∃ g,f=g+1:=⟨f - 1,by omega⟩
   have e:pn ts (g+1) b=b :: pn ts g (ts.getD (b - 1).toNat tz).par:=by
    show (if aP 1 (ts.length:Int) b=true then b :: pn ts g (ts.getD (b - 1).toNat tz).par else [])=_
    rw [if_pos ew]
   rw [e] at rN
   unfold aP at ew
   simp only [Bool.and_eq_true,decide_eq_true_eq] at ew
   obtain ⟨j,hj⟩:∃ j:Nat,b - 1=(j:Int):=⟨(b - 1).toNat,by omega⟩
   rw [hj,Int.toNat_natCast] at rN
   obtain ⟨q1,q2,q3⟩:=Js j (by omega)
   have nN:=(H.dH 0 rfl).len
   have ark:pre.length≤full.length:=by rw [← rN]; simp
   refine ite_true rfl (H.Sj 0 Bu rfl (by omega) fun k5 w4 H _=>⟨⟨by omega,by omega⟩,?_⟩)
   rw [hj]
   obtain ⟨dm,hc⟩:=(hx.aE H.mod).at (i:=j) (by omega)
   refine ⟨dm,_,hc 1 _ rfl,aM _ k5 w4 ⟨g,pre ++ [b],by rw [List.append_assoc]; exact rN,fun h=>?_,H⟩ ?_⟩
   ·omega
   ·show ((ts.getD j tz).par).toNat<b.toNat
    omega
end Go.Proofs.YtgjoehgomjgckaaGreatDoor
end
section
set_option linter.unusedVariables false
set_option linter.unusedSimpArgs false
namespace Go.Proofs.YtgjoehgomjgckaaGreatDoor
open Go Go.Ev
set_option maxRecDepth 20000
set_option linter.unusedVariables false
theorem acI (x:ah) (l:List Int) (hl:l.length≤1000000) (v:Int) (w:World) (hx:dQ w x l):Ok Pr KJ [.slice x.a x.n x.c,.int .i64 v] w fun r w'=>∃ z:Int,r=.int .i64 z∧decide (0≤z)=l.any (fun y=>decide (v=y))∧w'=w:=by
 refine ab1 ?_
 unfold KK
 have bT:=hx.len
 refine dw 0 l.length (fun i w'=>(l.take i).any (fun y=>decide (v=y))=false∧w'=w) rfl (by omega) ⟨rfl,rfl⟩ ?_ ?_
 ·rintro again i w1 _ hi ⟨hn,rfl⟩ aM
  refine ite_true (decide_eq_true (by omega)) (hx.ld (i:=i) hi rfl (bU (fun hc=>?_) (fun hc=>?_)))
  ·exact ⟨_,rfl,by rw [AO (fun y=>decide (v=y)) l i hi 0 hc]; exact decide_eq_true (by omega),rfl⟩
  ·exact ⟨⟨by omega,by omega⟩,aM w1 ⟨by rw [AN (fun y=>decide (v=y)) l i hi 0,hn,hc]; rfl,rfl⟩⟩
 ·rintro again w1 ⟨hn,rfl⟩
  rw [List.take_of_length_le (Nat.le_refl _)] at hn
  exact ite_false (decide_eq_false (by omega)) ⟨_,rfl,by rw [hn]; rfl,rfl⟩
def BL (ts:List ct) (a b:Int):Bool:=(xq ts b).any fun y=>decide (a=y)
theorem ai3 (ts:List ct) (a:Int) (h:ts.length≤1000):(xq ts a).length≤1001:=by
 unfold xq
 split
 ·have:=QM ts (ts.length+1) a; omega
 ·simp
theorem ad5 (x:ah) (ts:List ct) (hl:ts.length≤1000) (a b:Int) (w:World) (hx:fU w x ts):Ok Pr LM [.slice x.a x.n x.c,.int .i64 a,.int .i64 b] w fun v w'=>v=.bool (BL ts a b)∧Mod [] w w':=by
 refine acY ?_
 unfold L4
 refine aB (aeM x ts (by omega) b w hx) ?_
 rintro _ w1 ⟨y,rfl,hy,m1⟩
 have zX:=ai3 ts b hl
 refine bV (aB (R:=fun v w'=>v=.bool (BL ts a b)∧w'=w1) (abS ?_) ?_)
 ·unfold KA
  refine aB (acI y (xq ts b) (by omega) a w1 hy.dH) ?_
  rintro _ w2 ⟨z,rfl,hz,hw⟩
  subst hw
  exact ey ⟨by rw [hz]; rfl,rfl⟩
 ·rintro _ w2 ⟨rfl,hw⟩
  subst hw
  exact bk ⟨rfl,m1⟩
end Go.Proofs.YtgjoehgomjgckaaGreatDoor
end
section
set_option linter.unusedVariables false
set_option linter.unusedSimpArgs false
namespace Go.Proofs.YtgjoehgomjgckaaGreatDoor
open Go Go.Ev
set_option maxRecDepth 20000
set_option linter.unusedVariables false
def nI (l:List bO) (g:bO):bO:=⟨(l.length:Int)+1,g.n1,g.n2,g.n3,g.n4,false⟩
def oH (l:List bO) (g:bO):Int:=if gp l=true∧kY g=true then (if l.length=8 then 12 else 0) else 2
def k6 (l:List bO) (g:bO):List bO:=if oH l g=0 then l ++ [nI l g] else []
def vl (l:List bO) (g:bO):Int:=if oH l g=0 then (l.length:Int)+1 else 0
def anA (e:TypeId) (sz:Nat) (w w':World) (v:Value) (vs:List Value) (n c:Int):Prop:=
 ∃ (y:ah) (er:Value),v=.tuple ⟨[.slice y.a y.n y.c,.int .i64 n,er]⟩∧Own w' w.heap.size e sz y vs∧cO w w' er c∧(c≠0→y=⟨none,0,0⟩)∧Mod [] w w'
theorem YC {l:List bO} (h:gp l=true):l.length≤8:=by
 unfold gp at h
 simp only [Bool.and_eq_true,decide_eq_true_eq] at h
 exact h.2
theorem alb (g:bO):e8 [g]=g.cells:=by simp [e8]
theorem Zw {w0 w:World} {L:List aD} {K:ah→World→Prop} (i j:Nat) (y:ah) (p:Nat) (l:List bO) (g:bO) (H:ak w0 [] w L) (hi:L[i]? = some (.row cR 6 y (e8 l))) (hj:L[j]? = some (.av p g.cells cR)) (hl:l.length≤100000)
  (h:∀ z w',ak w0 [] w' (L.set i (.row cR 6 z (e8 (l ++ [g]))))→z.n=l.length+1→K z w'):cH Pr [mo,mo] mo [.slice y.a y.n y.c,.slice (some ⟨p,0,none⟩) 1 1] w K:=by
 have dS:=(H.av j hj).sl 6 1 1 (Nat.le_refl _) (Nat.le_refl _)
 have jS:=(H.fI i hi).len
 rw [Qk] at jS
 have dS:Sl w ⟨some ⟨p,0,none⟩,1,1⟩ 6 (e8 [g]):=by rw [alb]; exact dS
 refine H.app (x:=⟨some ⟨p,0,none⟩,1,1⟩) i RP hi dS (Rb _) (by show (y.n+1) * 48≤_; omega) (by show y.n+1≤_; omega) fun z w' H' hz=>h z w' ?_ (by rw [hz]; show y.n+1=_; omega)
 rw [ah9]
 exact H'
theorem agt (x:ah) (l:List bO) (g:bO) (hl:l.length≤100000) (w:World) (hx:gR w x l):Ok Pr NF [.slice x.a x.n x.c,.agg ⟨g.cells⟩] w fun v w'=>anA cR 6 w w' v (e8 (k6 l g)) (vl l g) (oH l g):=by
 refine aeA ?_
 unfold N7
 have bT:=hx.len
 rw [show ((x.n:Nat):Int)=((l.length:Nat):Int) by omega]
 obtain ⟨C,hC⟩:∃ C,C=oH l g:=⟨_,rfl⟩
 obtain ⟨Ls,hL⟩:∃ Ls,Ls=k6 l g:=⟨_,rfl⟩
 obtain ⟨N,hN⟩:∃ N,N=vl l g:=⟨_,rfl⟩
 rw [← hC,← hL,← hN]
 refine (ak.start w).nw fun p w1 H _=>ku fun go bZ=>jv fun jC iw=>?_
 have bad:∀ w',Mod [] w1 w'→¬ (gp l=true∧kY g=true)→jC true w':=by
  intro w' m dA
  have ec:C=2:=by rw [hC]; unfold oH; rw [if_neg dA]
  have el:Ls=[]:=by rw [hL]; unfold k6; rw [← hC,ec]; rfl
  have en:N=0:=by rw [hN]; unfold vl; rw [← hC,ec]; rfl
  subst ec el en
  refine iw true w' (ite_true rfl (aB (C5 2 (by decide) _) ?_))
  rintro e w2 ⟨h2,m2⟩
  exact ⟨⟨none,0,0⟩,e,rfl,Own.nil _ _ _ _,h2.from (H.frame m).mod.size,fun _=>rfl,((H.frame m).frame m2).mod⟩
 have aJ:∀ w',Mod [] w1 w'→gp l=true→kY g=true→jC false w':=by
  intro w' m hm jn
  have H:=H.frame m
  have h8:=YC hm
  refine iw false w' (ite_false rfl (bU (fun h=>?_) (fun h=>?_)))
  ·have h:=of_decide_eq_true h
   have ec:C=12:=by rw [hC]; unfold oH; rw [if_pos ⟨hm,jn⟩,if_pos (by omega)]
   have el:Ls=[]:=by rw [hL]; unfold k6; rw [← hC,ec]; rfl
   have en:N=0:=by rw [hN]; unfold vl; rw [← hC,ec]; rfl
   subst ec el en
   refine aB (C5 12 (by decide) _) ?_
   rintro e w2 ⟨h2,m2⟩
   exact ⟨⟨none,0,0⟩,e,rfl,Own.nil _ _ _ _,h2.from H.mod.size,fun _=>rfl,(H.frame m2).mod⟩
  ·have h:=of_decide_eq_false h
   have ec:C=0:=by rw [hC]; unfold oH; rw [if_pos ⟨hm,jn⟩,if_neg (by omega)]
   have el:Ls=l ++ [nI l g]:=by rw [hL]; unfold k6; rw [← hC,if_pos ec]
   have en:N=(l.length:Int)+1:=by rw [hN]; unfold vl; rw [← hC,if_pos ec]
   subst ec el en
   refine bZ w' ⟨⟨by omega,by omega⟩,H.st 0 rfl (au p 0) (by simp) rfl fun w2 H=>H.st 0 rfl (au p 5) (by simp) rfl fun w3 H=>?_⟩
   change ak w [] w3 [.av p (nI l g).cells cR] at H
   have H:=H.drew
   refine H.iF 0 rfl (H.an 0 rfl (au p 0) rfl ⟨?_,?_⟩)
   ·refine aB (GI x l (by omega) _ (hx.aE H.mod)) ?_
    rintro _ w5 ⟨y,rfl,hy,xP,m5⟩
    have H5:=H.cF m5 hy
    refine bV ⟨kL (H.av 0 rfl) (H5.av 0 rfl) (jH _ _),kL (H.av 0 rfl) (H5.av 0 rfl) rfl,H5.nw fun p1 w6 H6 _=>⟨kL (H5.av 0 rfl) (H6.av 0 rfl) (jH _ _),?_⟩⟩
    refine Zw 1 2 y p1 l (nI l g) H6 rfl rfl (by omega) fun z w7 H7 _=>⟨kL (H6.av 0 rfl) (H7.av 0 rfl) (jH _ _),z,.nilIface,rfl,H7.fN 1 rfl,cO.zero _ _,fun h=>absurd rfl h,H7.mod⟩
   ·refine H.nw fun p1 w5 H5 _=>⟨kL (H.av 0 rfl) (H5.av 0 rfl) (jH _ _),aB (GI x l (by omega) _ (hx.aE H5.mod)) ?_⟩
    rintro _ w6 ⟨y,rfl,hy,xP,m6⟩
    have H6:=H5.cF m6 hy
    refine bV ⟨kL (H5.av 0 rfl) (H6.av 0 rfl) (jH _ _),kL (H5.av 0 rfl) (H6.av 0 rfl) rfl,?_⟩
    refine Zw 2 1 y p1 l (nI l g) H6 rfl rfl (by omega) fun z w7 H7 _=>⟨kL (H6.av 0 rfl) (H7.av 0 rfl) (jH _ _),z,.nilIface,rfl,H7.fN 2 rfl,cO.zero _ _,fun h=>absurd rfl h,H7.mod⟩
 refine aB (G5 x l (by omega) _ (hx.aE H.mod)) ?_
 rintro _ w2 ⟨rfl,m2⟩
 have H:=H.frame m2
 refine bk ?_
 cases hm:gp l with
 | false=>exact ite_true rfl (bad w2 m2 (by rw [hm]; simp))
 | true=>
  refine ite_false rfl (H.iF 0 rfl (aB (U1 g _) ?_))
  rintro _ w3 ⟨rfl,m3⟩
  refine bk ?_
  cases jn:kY g with
  | false=>exact bad w3 (m2.trans m3) (by rw [jn]; simp)
  | true=>exact aJ w3 (m2.trans m3) hm jn
def xF (g:bO):bO:=⟨g.n0,g.n1,g.n2,g.n3,g.n4,true⟩
def oI (l:List bO) (id:Int):Int:=if gp l=true then (if 1≤id∧id≤(l.length:Int) then (if (l.getD (id - 1).toNat gz).rev=true then 11 else 0) else 9) else 2
def lX (l:List bO) (id:Int):List bO:=if oI l id=0 then l.set (id - 1).toNat (xF (l.getD (id - 1).toNat gz)) else []
theorem YD:∀ (l:List bO) (i:Nat),i<l.length→(e8 l).set (i * 6+5) (.bool true)=e8 (l.set i (xF (l.getD i gz)))
 | [],i,h=>by simp at h
 | a :: r,0,_=>by
  show (a.cells ++ e8 r).set (0 * 6+5) _=(xF a).cells ++ e8 r
  rw [List.set_append_left _ _ (by show 5<6; omega)]
  rfl
 | a :: r,i+1,h=>by
  show (a.cells ++ e8 r).set ((i+1) * 6+5) _=a.cells ++ e8 (r.set i (xF (r.getD i gz)))
  have hl:a.cells.length=6:=rfl
  rw [List.set_append_right _ _ (by omega),hl,show (i+1) * 6+5 - 6=i * 6+5 by omega,YD r i (by simpa using h)]
theorem al6 {w0 w:World} {L:List aD} {K:World→Prop} (k:Nat) (y:ah) (l:List bO) (i:Nat) (x:Int) (H:ak w0 [] w L) (hk:L[k]? = some (.row cR 6 y (e8 l))) (hi:i<l.length) (hx:x=(i:Int))
  (h:∀ w',ak w0 [] w' (L.set k (.row cR 6 y (e8 (l.set i (xF (l.getD i gz))))))→K w'):aQ y.a x y.n (Ev.st (Addr.add (Addr.add (base y.a) (Int.toNat x * 6)) 5) (.bool true) w K):=by
 subst hx
 have jS:l.length=y.n:=gR.len (H.fI k hk)
 refine ⟨⟨Sl.pre (H.fI k hk) (by omega),by omega,by omega⟩,?_⟩
 refine H.qz k hk (i:=i * 6+5) (by rw [Int.toNat_natCast,add_add]) (by rw [Qk]; omega) rfl fun w' H'=>h w' ?_
 rw [← YD l i hi]
 exact H'
theorem ad6 (x:ah) (l:List bO) (id:Int) (hl:l.length≤100000) (w:World) (hx:gR w x l):Ok Pr LO [.slice x.a x.n x.c,.int .i64 id] w fun v w'=>jy cR 6 w w' v (e8 (lX l id)) (oI l id):=by
 refine acX ?_
 unfold L3
 have bT:=hx.len
 rw [show ((x.n:Nat):Int)=((l.length:Nat):Int) by omega]
 refine aB (G5 x l (by omega) _ hx) ?_
 rintro _ w1 ⟨rfl,m1⟩
 have H:=(ak.start w).frame m1
 refine bk ?_
 have no:∀ (c:Int) (w':World),Mod [] w w'→c≠0→oI l id=c→ay Pr qm [.int .i64 c] w' fun v w2=>jy cR 6 w w2 (.tuple ⟨[.slice none 0 0,v]⟩) (e8 (lX l id)) (oI l id):=by
  intro c w' m hc ec
  have el:lX l id=[]:=by unfold lX; rw [ec,if_neg hc]
  rw [ec,el]
  refine aB (C5 c hc _) ?_
  rintro e w2 ⟨h2,m2⟩
  exact jy.no (h2.from m.size) (m.trans m2)
 cases hm:gp l with
 | false=>exact ite_true rfl (no 2 w1 m1 (by decide) (by unfold oI; rw [hm]; rfl))
 | true=>
  refine ite_false rfl (aB (Dr _ _ _ _) ?_)
  rintro _ w2 ⟨rfl,hw⟩
  subst hw
  refine bk ?_
  by_cases CQ:1≤id∧id≤(l.length:Int)
  ·have qR:aP 1 (l.length:Int) id=true:=by unfold aP; rw [decide_eq_true CQ.1,decide_eq_true CQ.2]; rfl
   rw [qR]
   obtain ⟨i,hi⟩:∃ i:Nat,id - 1=(i:Int):=⟨(id - 1).toNat,by omega⟩
   have J8:i<l.length:=by omega
   have nt:=(hx.aE m1).cell (i:=i) (j:=5) J8 rfl
   have TS:(id - 1).toNat=i:=by omega
   refine ite_false rfl ⟨⟨by omega,by omega⟩,⟨⟨Sl.pre hx (by omega),by omega,by omega⟩,?_⟩⟩
   rw [hi]
   refine ⟨(l.getD i gz).rev,by rw [Int.toNat_natCast]; exact nt,?_⟩
   cases hr:(l.getD i gz).rev with
   | true=>exact ite_true rfl (no 11 _ m1 (by decide) (by unfold oI; rw [if_pos hm,if_pos CQ,TS,hr]; rfl))
   | false=>
    have ec:oI l id=0:=by unfold oI; rw [if_pos hm,if_pos CQ,TS,hr]; rfl
    have el:lX l id=l.set i (xF (l.getD i gz)):=by unfold lX; rw [if_pos ec,TS]
    rw [ec,el]
    refine ite_false rfl (aB (GI x l (by omega) _ (hx.aE m1)) ?_)
    rintro _ w3 ⟨y,rfl,hy,xP,m3⟩
    have H:=H.cF m3 hy
    refine bV ⟨⟨by omega,by omega⟩,al6 0 y l i _ H rfl J8 rfl fun w4 H=>?_⟩
    exact jy.yes (H.fN 0 rfl) H.mod
  ·have qR:aP 1 (l.length:Int) id=false:=by
    unfold aP
    rw [Bool.and_eq_false_iff,decide_eq_false_iff_not,decide_eq_false_iff_not]
    omega
   rw [qR]
   exact ite_true rfl (no 9 _ m1 (by decide) (by unfold oI; rw [if_pos hm,if_neg CQ]))
end Go.Proofs.YtgjoehgomjgckaaGreatDoor
end
section
set_option linter.unusedVariables false
set_option linter.unusedSimpArgs false
namespace Go.Proofs.YtgjoehgomjgckaaGreatDoor
open Go Go.Ev
set_option maxRecDepth 20000
set_option linter.unusedVariables false
def bO.five (g:bO):List Int:=[g.n0,g.n1,g.n2,g.n3,g.n4]
@[irreducible] def tok (s:List B8) (g:bO):List B8:=BitVec.ofInt 8 g.n0 :: eZ 136 31 (laid s ++ iU g.five) 32
theorem ahD (l:List B8):(eZ 136 31 l 32).length=32:=by
 have:=sV 136 31 l 32 (by omega)
 exact this
theorem UR (x:ah) (s:List B8) (g:bO) (hs:s.length≤1000) (w:World) (hx:Bytes w x s):Ok Pr GO [.slice x.a x.n x.c,.agg ⟨g.cells⟩] w fun v w'=>nG w w' v (tok s g):=by
 refine ads ?_
 unfold MA
 have et:tok s g=[BitVec.ofInt 8 g.n0] ++ eZ 136 31 (laid s ++ iU g.five) 32:=by unfold tok; rfl
 have kG:=ahD (laid s ++ iU g.five)
 rw [et]
 have dS:(laid s).length=s.length+8:=by unfold laid; rw [List.length_append,Ih]; omega
 have h5:(iU g.five).length=40:=Qj _
 refine (ak.start w).nw fun p w1 H _=>?_
 refine H.an 0 rfl (au p 0) rfl (H.an 0 rfl (au p 1) rfl (H.an 0 rfl (au p 2) rfl (H.an 0 rfl (au p 3) rfl (H.an 0 rfl (au p 4) rfl (H.nw fun p1 w2 H _=>?_)))))
 refine aB (U0 ⟨none,0,0⟩ [] ⟨some ⟨p1,0,none⟩,5,5⟩ g.five (by simp) (by show 5≤1000000; omega) _ (Bytes.nil _) (H.Yu 1 (l:=g.five) rfl)) ?_
 rintro _ w3 ⟨f,rfl,hf,m3⟩
 rw [List.nil_append] at hf
 have H:=H.cF m3 hf
 have H:=H.drew
 refine bV (H.an 0 rfl (au p 0) rfl ?_)
 have k0:∀ {w' fo:World} {L L':List aD},ak w [] w' L→ak w [] fo L'→L[0]? = some (.av p g.cells cR)→L'[0]? = some (.av p g.cells cR)→kept (Addr.add ⟨p,0,none⟩ 0) 1 w' fo:=fun H H' h h'=>kL (H.av 0 h) (H'.av 0 h') (jH _ _)
 have cC:∀ {w':World} {L:List aD} {K:ah→World→Prop} (b p3:Nat),ak w [] w' L→L[b]? = some (.av p3 [x.v] bJ)→(∀ y fo,ak w [] fo (L ++ [.row bh 1 y (bp (laid s))])→K y fo)→ay Pr AR [.slice none 0 0,.slice (some ⟨p3,0,none⟩) 1 1] w' fun v fo=>aT v fun t=>K t fo:=by
  intro w' L K b p3 H hb hK
  refine aB (agk ⟨none,0,0⟩ [] ⟨some ⟨p3,0,none⟩,1,1⟩ [s] (by simp) (by simp) (fun q hq=>by rw [List.mem_singleton.1 hq]; omega) _ (Bytes.nil _) (eY.JF (H.av b hb) (by simp) (hx.aE H.mod) (jX _))) ?_
  rintro _ fo ⟨y,rfl,hy,m⟩
  rw [show [] ++ nv [s]=laid s by simp [nv]] at hy
  exact bV (hK y fo (H.cF m hy))
 have cE:∀ {w':World} {L:List aD} {K:ah→World→Prop} (b p4 c:Nat) (y:ah),ak w [] w' L→L[b]? = some (.av p4 [y.v,f.v] bJ)→L[c]? = some (.row bh 1 y (bp (laid s)))→L[2]? = some (.row bh 1 f (bp (iU g.five)))→
   (∀ z fo,ak w [] fo (L ++ [.row bh 1 z (bp (eZ 136 31 (laid s ++ iU g.five) 32))])→K z fo)→ay Pr sN [.int .i64 32,.slice (some ⟨p4,0,none⟩) 2 2] w' fun v fo=>aT v fun t=>K t fo:=by
  intro w' L K b p4 c y H hb hc h2 hK
  refine aB (KY 32 ⟨some ⟨p4,0,none⟩,2,2⟩ [laid s,iU g.five] _ (eY.zG (H.av b hb) (by simp) (H.bytes c hc) (jX _) (H.bytes 2 h2) (jX _)) (y7 rfl (by omega) (by omega))) ?_
  rintro _ fo ⟨z,rfl,hz,m⟩
  rw [show [laid s,iU g.five].flatten=laid s ++ iU g.five by simp] at hz
  exact bV (hK z fo (H.cF m hz))
 generalize eZ 136 31 (laid s ++ iU g.five) 32=o at *
 have fin:∀ {w':World} {L:List aD} (a e p2:Nat) (z:ah),ak w [] w' L→L[a]? = some (.av p2 [.int .u8 (IntKind.wrap .u8 g.n0)] bh)→L[e]? = some (.row bh 1 z (bp o))→
   cH Pr [bJ,bJ] bJ [.slice (some ⟨p2,0,none⟩) 1 1,.slice z.a z.n z.c] w' fun t fo=>nG w fo (.slice t.a t.n t.c) ([BitVec.ofInt 8 g.n0] ++ o):=by
  intro w' L a e p2 z H ha he
  have hz:=H.bytes e he
  have pT:=hz.len
  have sx:a<L.length:=(List.getElem?_eq_some_iff.1 ha).1
  have H:=H.rz a 1 1 1 ha rfl (Nat.le_refl _) (by simp only [maxLen]; omega)
  rw [yD] at H
  refine H.uV (s:=⟨some ⟨p2,0,none⟩,1,1⟩) (vs:=[BitVec.ofInt 8 g.n0]) a iG (by rw [List.getElem?_set_self sx]; rfl) hz (by show 1+z.n≤_; omega) fun t fo H _=>⟨t,rfl,?_,H.mod⟩
  exact H.fN a (by rw [List.getElem?_set_self (by simpa using sx)])
 refine ⟨?_,?_⟩
 ·refine H.nw fun p2 w4 H4 _=>H4.nw fun p3 w5 H5 _=>⟨k0 H4 H5 rfl rfl,cC 4 p3 H5 rfl fun y w6 H6=>⟨k0 H5 H6 rfl rfl,H6.nw fun p4 w7 H7 _=>⟨k0 H6 H7 rfl rfl,cE 6 p4 5 y H7 rfl rfl rfl fun z w8 H8=>⟨k0 H7 H8 rfl rfl,?_⟩⟩⟩⟩
  exact fin 3 7 p2 z H8 rfl rfl
 ·refine H.nw fun p3 w4 H4 _=>⟨k0 H H4 rfl rfl,?_,?_⟩
  ·refine H4.nw fun p2 w5 H5 _=>cC 3 p3 H5 rfl fun y w6 H6=>⟨k0 H5 H6 rfl rfl,H6.nw fun p4 w7 H7 _=>⟨k0 H6 H7 rfl rfl,cE 6 p4 5 y H7 rfl rfl rfl fun z w8 H8=>⟨k0 H7 H8 rfl rfl,?_⟩⟩⟩
   exact fin 4 7 p2 z H8 rfl rfl
  ·refine cC 3 p3 H4 rfl fun y w5 H5=>⟨k0 H4 H5 rfl rfl,?_,?_⟩
   ·refine H5.nw fun p2 w6 H6 _=>H6.nw fun p4 w7 H7 _=>⟨k0 H6 H7 rfl rfl,cE 6 p4 4 y H7 rfl rfl rfl fun z w8 H8=>⟨k0 H7 H8 rfl rfl,?_⟩⟩
    exact fin 5 7 p2 z H8 rfl rfl
   ·refine H5.nw fun p4 w6 H6 _=>⟨k0 H5 H6 rfl rfl,?_,?_⟩
    ·refine H6.nw fun p2 w7 H7 _=>cE 5 p4 4 y H7 rfl rfl rfl fun z w8 H8=>⟨k0 H7 H8 rfl rfl,?_⟩
     exact fin 6 7 p2 z H8 rfl rfl
    ·refine cE 5 p4 4 y H6 rfl rfl rfl fun z w7 H7=>⟨k0 H6 H7 rfl rfl,H7.nw fun p2 w8 H8 _=>?_⟩
     exact fin 7 6 p2 z H8 rfl rfl
end Go.Proofs.YtgjoehgomjgckaaGreatDoor
end
section
set_option linter.unusedVariables false
set_option linter.unusedSimpArgs false
namespace Go.Proofs.YtgjoehgomjgckaaGreatDoor
open Go Go.Ev Go.RowKit
set_option maxRecDepth 20000
set_option linter.unusedVariables false
theorem ai4:((Pr.fieldsOf cR).toList.map fun f=>(f.type,f.offset,decide (f.name= "_")))=[(bG,0,false),(bG,1,false),(bG,2,false),(bG,3,false),(bG,4,false),(ot,5,false)]:=by kernel_rfl
theorem al7:Pr.underlying cR=some (.struct (Pr.fieldsOf cR)):=by kernel_rfl
theorem alc:Pr.stoodInHeld cR=false:=by kernel_rfl
theorem aj5:Pr.eqGuardType Pr.depth cR=false:=by kernel_rfl
theorem YE:Pr.underlying bG=some (.int .i64):=by kernel_rfl
theorem aj6:Pr.underlying ot=some .bool:=by kernel_rfl
theorem Np {P:Program} (d:Nat) (xs ys:Array Value) (w:World):∀ (fs:List Field),(∀ f∈fs,∃ v,f.name≠ "_"∧(part f.type xs f.offset).run P w=.ok v w∧(part f.type ys f.offset).run P w=.ok v w∧(Op.equalIn d f.type v v).run P w=.ok true w)→(Op.eqFields d xs ys fs).run P w=.ok true w
 | [],_=>rfl
 | f :: fs,h=>by
  obtain ⟨v,hn,h1,h2,h3⟩:=h f List.mem_cons_self
  have ih:=Np d xs ys w fs fun g hg=>h g (List.mem_cons_of_mem _ hg)
  unfold Op.eqFields
  rw [if_pos hn]
  simp only [Sem.run_bind,h1,h2,h3,Result.andThen]
  exact ih
theorem aj7 (g:bO) (w:World):(Op.equalIn 10000 cR (.agg ⟨g.cells⟩) (.agg ⟨g.cells⟩)).run Pr w=.ok true w:=by
 rw [show 10000=9999+1 from rfl,run_equalIn_struct w 9999 cR _ _ al7 alc]
 refine Np _ _ _ _ _ fun f hf=>?_
 have hm:(f.type,f.offset,decide (f.name= "_"))∈((Pr.fieldsOf cR).toList.map fun f=>(f.type,f.offset,decide (f.name= "_"))):=List.mem_map_of_mem hf
 rw [ai4] at hm
 have hI:∀ z:Int,(Op.equalIn 9999 bG (.int .i64 z) (.int .i64 z)).run Pr w=.ok true w:=fun z=>by
  rw [show 9999=9998+1 from rfl,run_equalIn_int w 9998 bG .i64 .i64 z z YE]
  simp
 have hB:∀ z:Bool,(Op.equalIn 9999 ot (.bool z) (.bool z)).run Pr w=.ok true w:=fun z=>by
  rw [show 9999=9998+1 from rfl,run_equalIn_bool' w 9998 ot z z aj6]
  simp
 obtain ⟨n0,n1,n2,n3,n4,rv⟩:=g
 have q0:(part bG ⟨qY n0 n1 n2 n3 n4 rv⟩ 0).run Pr w=.ok (.int .i64 n0) w:=by kernel_rfl
 have q1:(part bG ⟨qY n0 n1 n2 n3 n4 rv⟩ 1).run Pr w=.ok (.int .i64 n1) w:=by kernel_rfl
 have q2:(part bG ⟨qY n0 n1 n2 n3 n4 rv⟩ 2).run Pr w=.ok (.int .i64 n2) w:=by kernel_rfl
 have q3:(part bG ⟨qY n0 n1 n2 n3 n4 rv⟩ 3).run Pr w=.ok (.int .i64 n3) w:=by kernel_rfl
 have q4:(part bG ⟨qY n0 n1 n2 n3 n4 rv⟩ 4).run Pr w=.ok (.int .i64 n4) w:=by kernel_rfl
 have q5:(part ot ⟨qY n0 n1 n2 n3 n4 rv⟩ 5).run Pr w=.ok (.bool rv) w:=by kernel_rfl
 simp only [List.mem_cons,List.not_mem_nil,or_false,Prod.mk.injEq,decide_eq_false_iff_not] at hm
 rcases hm with ⟨h1,h2,h3⟩ | ⟨h1,h2,h3⟩ | ⟨h1,h2,h3⟩ | ⟨h1,h2,h3⟩ | ⟨h1,h2,h3⟩ | ⟨h1,h2,h3⟩
 ·rw [h1,h2]; exact ⟨_,h3,q0,q0,hI _⟩
 ·rw [h1,h2]; exact ⟨_,h3,q1,q1,hI _⟩
 ·rw [h1,h2]; exact ⟨_,h3,q2,q2,hI _⟩
 ·rw [h1,h2]; exact ⟨_,h3,q3,q3,hI _⟩
 ·rw [h1,h2]; exact ⟨_,h3,q4,q4,hI _⟩
 ·rw [h1,h2]; exact ⟨_,h3,q5,q5,hB _⟩
theorem al8 {g:bO} {w:World} {K:Bool→World→Prop} (h:K false w):Fs Pr .neq cR g.cells g.cells w K:=by
 refine ⟨.bool false,w,?_,false,rfl,h⟩
 simp only [Sem.run_bind,run_eqGuard_agg w _ _ _ _ _ _ aj5,Result.andThen,run_neq_struct,aj7]
 rfl
theorem acs (x y:ah) (l:List bO) (w:World) (hx:gR w x l) (hy:gR w y l) (hl:l.length≤1000000):Ok Pr Lj [.slice x.a x.n x.c,.slice y.a y.n y.c] w fun v w'=>v=.bool true∧Mod [] w w':=by
 refine acq ?_
 unfold Lr
 have bT:=hx.len
 have jS:=hy.len
 refine ite_false (by rw [← bT,← jS]; simp) ?_
 refine dw 0 l.length (fun i w'=>Mod [] w w') rfl (by omega) (Mod.refl _ _) ?_ ?_
 ·intro again i w1 _ hi m aM
  have m':=m.trans (Mod.drew [] w1)
  refine ite_true (decide_eq_true (by omega)) ((hx.aE m').ld hi rfl ((hy.aE m').ld hi rfl (al8 (ite_false rfl ⟨⟨by omega,by omega⟩,aM _ m'⟩))))
 ·intro again w1 m
  exact ite_false (decide_eq_false (by omega)) ⟨rfl,m⟩
theorem adz (g:bO) (p q:Addr) (x y:ah) (s t:List B8) (hs:s.length≤1000) (w:World) (hp:w.cell? p=some x.v) (hq:w.cell? q=some y.v) (hx:Bytes w x s) (hy:Bytes w y t) :
  Ok Pr wj [.agg ⟨g.cells⟩,.pointer (some p),.pointer (some q)] w fun v w'=>v=.bool (decide (tok s g=t))∧Mod [] w w':=by
 refine acH ?_
 unfold LH
 refine (ak.start w).nw fun b w1 H _=>?_
 have H:=H.drew
 refine ⟨x,H.mod.o8 hp,H.iF 0 rfl ⟨y,H.mod.o8 hq,?_⟩⟩
 have hq1:=H.mod.o8 hq
 refine aB (UR x s g hs _ (hx.aE H.mod)) ?_
 rintro _ w2 ⟨z,rfl,hz,m2⟩
 have H:=H.cF m2 hz
 refine bV ⟨ang hq1 (H.mod.o8 hq),aB (My z y _ _ _ hz.bytes (hy.aE H.mod)) ?_⟩
 rintro _ w3 ⟨rfl,hw⟩
 subst hw
 exact bk ⟨rfl,H.mod⟩
theorem ahE:jw Pr wj=true:=by kernel_rfl
def anB (l:List bO) (s t:List B8) (n:Int):Prop:=(n = -1∧∀ j,j<l.length→tok s (l.getD j gz)≠t)∨∃ i:Nat,n=(i:Int)∧i<l.length∧tok s (l.getD i gz)=t∧∀ j,j<i→tok s (l.getD j gz)≠t
theorem aeN (l:List bO) (xl:ah) (p q:Addr) (x y:ah) (s t:List B8) (hs:s.length≤1000) (hl:l.length≤100000) (w:World) (hg:gR w xl l) (hp:w.cell? p=some x.v) (hq:w.cell? q=some y.v) (hx:Bytes w x s) (hy:Bytes w y t) :
  Ok Pr CU [.slice xl.a xl.n xl.c,.func (.func wj) ⟨[]⟩ ⟨[.pointer (some p),.pointer (some q)]⟩] w fun v w'=>∃ n:Int,v=.int .i64 n∧anB l s t n∧Mod [] w w':=by
 refine Un ?_
 unfold Gw
 have bT:=hg.len
 refine dw 0 l.length (fun i w'=>Mod [] w w'∧∀ j,j<i→tok s (l.getD j gz)≠t) rfl (by omega) ⟨Mod.refl _ _,fun j h=>by omega⟩ ?_ ?_
 ·rintro again i w1 _ hi ⟨m,dA⟩ aM
  refine ite_true (decide_eq_true (by omega)) ((hg.aE m).ld hi rfl ?_)
  have anC:∀ {K:Value→World→Prop},ay Pr wj [.agg ⟨(l.getD i gz).cells⟩,.pointer (some p),.pointer (some q)] w1 K→lJ Pr (.func (.func wj) ⟨[]⟩ ⟨[.pointer (some p),.pointer (some q)]⟩) [.agg ⟨(l.getD i gz).cells⟩] w1 K:=by
   intro K h
   show cond (jw Pr wj) _ False
   rw [ahE]
   exact h
  refine anC ?_
  refine aB (adz (l.getD i gz) p q x y s t hs _ (m.o8 hp) (m.o8 hq) (hx.aE m) (hy.aE m)) ?_
  rintro _ w2 ⟨rfl,m2⟩
  refine bk (bU (fun h=>?_) (fun h=>?_))
  ·exact ⟨_,rfl,.inr ⟨i,rfl,hi,of_decide_eq_true h,dA⟩,m.trans m2⟩
  ·have h:=of_decide_eq_false h
   refine ⟨⟨by omega,by omega⟩,aM w2 ⟨m.trans m2,fun j hj=>?_⟩⟩
   rcases Nat.lt_or_ge j i with h1 | h1
   ·exact dA j h1
   ·have:j=i:=by omega
    rw [this]; exact h
 ·rintro again w1 ⟨m,dA⟩
  exact ite_false (decide_eq_false (by omega)) ⟨_,rfl,.inl ⟨rfl,dA⟩,m⟩
def Told (l:List bO) (s t:List B8) (g:bO) (c:Int):Prop:=
 (gp l=false∧g=gz∧c=2)∨(gp l=true∧(∀ j,j<l.length→tok s (l.getD j gz)≠t)∧g=gz∧c=15)∨(gp l=true∧(∃ i,i<l.length∧tok s (l.getD i gz)=t∧(∀ j,j<i→tok s (l.getD j gz)≠t)∧g=l.getD i gz)∧c=0)
theorem Told.unique {l:List bO} {s t:List B8} {g g':bO} {c c':Int} (h:Told l s t g c) (h':Told l s t g' c'):g=g'∧c=c':=by
 rcases h with ⟨h1,rfl,rfl⟩ | ⟨h1,h2,rfl,rfl⟩ | ⟨h1,⟨i,h2,h3,h4,rfl⟩,rfl⟩ <;> rcases h' with ⟨k1,rfl,rfl⟩ | ⟨k1,k2,rfl,rfl⟩ | ⟨k1,⟨j,k2,k3,k4,rfl⟩,rfl⟩
 ·exact ⟨rfl,rfl⟩
 ·rw [h1] at k1; cases k1
 ·rw [h1] at k1; cases k1
 ·rw [h1] at k1; cases k1
 ·exact ⟨rfl,rfl⟩
 ·exact absurd k3 (h2 j k2)
 ·rw [h1] at k1; cases k1
 ·exact absurd h3 (k2 i h2)
 ·have:i=j:=by
   rcases Nat.lt_trichotomy i j with h | h | h
   ·exact absurd h3 (k4 i h)
   ·exact h
   ·exact absurd k3 (h4 j h)
  subst this
  exact ⟨rfl,rfl⟩
theorem ZX:zc Pr cR=gz.cells:=by kernel_rfl
theorem US (l:List bO) (xl x y:ah) (s t:List B8) (hs:s.length≤1000) (hl:l.length≤100000) (w:World) (hg:gR w xl l) (hx:Bytes w x s) (hy:Bytes w y t) :
  Ok Pr GN [.slice xl.a xl.n xl.c,.slice x.a x.n x.c,.slice y.a y.n y.c] w fun v w'=>∃ g c er,v=.tuple ⟨[.agg ⟨g.cells⟩,er]⟩∧Told l s t g c∧cO w w' er c∧Mod [] w w':=by
 refine adq ?_
 unfold Mz
 rw [ZX]
 have bT:=hg.len
 refine (ak.start w).nw fun p w1 H _=>H.nw fun p1 w2 H _=>H.nw fun p2 w3 H _=>aB (G5 xl l (by omega) _ (hg.aE H.mod)) ?_
 rintro _ w4 ⟨rfl,m4⟩
 have H:=H.frame m4
 refine bk ?_
 have no:∀ (c:Int) (w':World),Mod [] w4 w'→c≠0→Told l s t gz c→ay Pr qm [.int .i64 c] w' fun v w5=>om ⟨p2,0,none⟩ 0 0 0 0 0 false w5 fun w6=>iF ⟨p2,0,none⟩ w6 fun r0 r1 r2 r3 r4 r5=>
   ∃ g c er,Value.tuple ⟨[.agg ⟨[.int .i64 r0,.int .i64 r1,.int .i64 r2,.int .i64 r3,.int .i64 r4,.bool r5]⟩,v]⟩=.tuple ⟨[.agg ⟨g.cells⟩,er]⟩∧Told l s t g c∧cO w w6 er c∧Mod [] w w6:=by
  intro c w' m hc ht
  have H:=H.frame m
  refine aB (C5 c hc _) ?_
  rintro e w5 ⟨h5,m5⟩
  have H:=H.gG m5 h5
  exact H.om 2 rfl rfl fun w6 H=>H.iF 2 rfl ⟨gz,c,e,rfl,ht,⟨H.err 3 rfl,fun b hb=>(H.own 3 _ rfl b hb).resolve_left (by simp)⟩,H.mod⟩
 cases hm:gp l with
 | false=>exact ite_true rfl (no 2 w4 (Mod.refl _ _) (by decide) (.inl ⟨hm,rfl,rfl⟩))
 | true=>
  refine ite_false rfl (aB (aeN l xl ⟨p,0,none⟩ ⟨p1,0,none⟩ x y s t hs hl _ (hg.aE H.mod) (H.cell 0 rfl rfl rfl) (H.cell 1 rfl rfl rfl) (hx.aE H.mod) (hy.aE H.mod)) ?_)
  rintro _ w5 ⟨n,rfl,hn,m5⟩
  refine ey ?_
  rcases hn with ⟨rfl,dA⟩ | ⟨i,rfl,hi,qP,dA⟩
  ·exact ite_true rfl (no 15 w5 m5 (by decide) (.inr (.inl ⟨hm,dA,rfl,rfl⟩)))
  ·have H:=H.frame m5
   refine ite_false (decide_eq_false (by omega)) ((hg.aE H.mod).ld hi rfl (H.om 2 rfl rfl fun w6 H=>H.iF 2 rfl ⟨l.getD i gz,0,.nilIface,rfl,.inr (.inr ⟨hm,⟨i,hi,qP,dA,rfl⟩,rfl⟩),cO.zero _ _,H.mod⟩))
def wY (g:bO) (key dI op clock:Int):Int:=if g.rev=true∨g.n1≠key∨g.n2≠dI∨op<1∨13<op∨iu .i64 (shr .i64 g.n3 op) 1=0∨g.n4<clock then 10 else 0
theorem ad7 (g:bO) (key dI op clock:Int) (w:World):Ok Pr LN [.agg ⟨g.cells⟩,.int .i64 key,.int .i64 dI,.int .i64 op,.int .i64 clock] w fun v w'=>cO w w' v (wY g key dI op clock)∧Mod [] w w':=by
 refine acW ?_
 unfold L0
 refine (ak.start w).nw fun p w1 H _=>jv fun go bZ=>?_
 have yes:(g.rev=true∨g.n1≠key∨g.n2≠dI∨op<1∨13<op∨iu .i64 (shr .i64 g.n3 op) 1=0∨g.n4<clock)→go true w1:=by
  intro h
  have ec:wY g key dI op clock=10:=by unfold wY; rw [if_pos h]
  rw [ec] at bZ
  refine bZ true w1 (ite_true rfl (aB (C5 10 (by decide) _) ?_))
  rintro e w2 ⟨h2,m2⟩
  exact ⟨h2.from H.mod.size,(H.frame m2).mod⟩
 refine H.l5 0 rfl (au p 5) rfl (H.an 0 rfl (au p 1) rfl (H.an 0 rfl (au p 2) rfl (bU (fun h=>?_) (fun h=>?_))))
 ·refine H.an 0 rfl (au p 3) rfl (H.an 0 rfl (au p 4) rfl (yes ?_))
  simp only [Bool.or_eq_true,Bool.not_eq_true',decide_eq_false_iff_not] at h
  rcases h with (h | h) | h
  ·exact .inl h
  ·exact .inr (.inl h)
  ·exact .inr (.inr (.inl h))
 ·simp only [Bool.or_eq_false_iff,Bool.not_eq_false',decide_eq_true_eq] at h
  refine aB (Dr _ _ _ _) ?_
  rintro _ w2 ⟨rfl,hw⟩
  subst hw
  refine bk (H.an 0 rfl (au p 3) rfl ?_)
  by_cases CM:1≤op∧op≤13
  ·have ew:aP 1 13 op=true:=by unfold aP; rw [decide_eq_true CM.1,decide_eq_true CM.2]; rfl
   rw [ew]
   refine ite_false rfl (kK (by omega) (H.an 0 rfl (au p 4) rfl ?_))
   cases hb:(decide (iu .i64 (shr .i64 g.n3 op) (1:Int)=(0:Int)) || decide (g.n4<clock)) with
   | true=>
    refine yes ?_
    simp only [Bool.or_eq_true,decide_eq_true_eq] at hb
    rcases hb with hb | hb
    ·exact .inr (.inr (.inr (.inr (.inr (.inl hb)))))
    ·exact .inr (.inr (.inr (.inr (.inr (.inr hb)))))
   | false=>
    simp only [Bool.or_eq_false_iff,decide_eq_false_iff_not] at hb
    have ec:wY g key dI op clock=0:=by
     unfold wY
     rw [if_neg]
     rintro (k | k | k | k | k | k | k)
     ·rw [h.1.1] at k; cases k
     ·exact k h.1.2
     ·exact k h.2
     ·omega
     ·omega
     ·exact hb.1 k
     ·exact hb.2 k
    rw [ec] at bZ
    exact bZ false _ (ite_false rfl ⟨cO.zero _ _,H.mod⟩)
  ·have ew:aP 1 13 op=false:=by
    unfold aP
    rw [Bool.and_eq_false_iff,decide_eq_false_iff_not,decide_eq_false_iff_not]
    omega
   rw [ew]
   refine ite_true rfl (H.an 0 rfl (au p 4) rfl (yes ?_))
   by_cases h1:op<1
   ·exact .inr (.inr (.inr (.inl h1)))
   ·exact .inr (.inr (.inr (.inr (.inl (by omega)))))
end Go.Proofs.YtgjoehgomjgckaaGreatDoor
end
section
set_option linter.unusedVariables false
set_option linter.unusedSimpArgs false
namespace Go.Proofs.YtgjoehgomjgckaaGreatDoor
open Go Go.Ev
set_option maxRecDepth 20000
set_option linter.unusedVariables false
structure cB where
 id:Int
 ten:Int
 key:List B8
 high:Int
 used:aI
def fz:cB:=⟨0,0,[],0,0⟩
def cB.cs (p:cB) (x:ah):List Value:=lD p.id p.ten x p.high (p.used.toNat:Int)
theorem cB.cu (p:cB) (x:ah):(p.cs x).length=5:=rfl
def xZ (w:World) (x:ah) (p:cB):Prop:=Bytes w x p.key
theorem xZ.aE {w w':World} {x:ah} {p:cB} (m:Mod [] w w') (h:xZ w x p):xZ w' x p:=Bytes.aE h m
def um (w:World) (s:ah) (ps:List cB):Prop:=Dv cB.cs 5 xZ w s ps
theorem um.aE {w w':World} {s:ah} {ps:List cB} (h:um w s ps) (m:Mod [] w w'):um w' s ps:=Dv.aE (E:=xZ) (fun m h=>xZ.aE m h) h m
theorem um.len {w:World} {s:ah} {ps:List cB} (h:um w s ps):ps.length=s.n:=Dv.len cB.cu (by omega) h
def Ay (w:World) (x:ah) (k:aV):Prop:=fY w x k.aH
theorem Ay.aE {w w':World} {x:ah} {k:aV} (m:Mod [] w w') (h:Ay w x k):Ay w' x k:=fY.aE h m
def xG (w:World) (s:ah) (ks:List aV):Prop:=Dv aV.cs 4 Ay w s ks
theorem xG.aE {w w':World} {s:ah} {ks:List aV} (h:xG w s ks) (m:Mod [] w w'):xG w' s ks:=Dv.aE (E:=Ay) (fun m h=>Ay.aE m h) h m
theorem xG.len {w:World} {s:ah} {ks:List aV} (h:xG w s ks):ks.length=s.n:=Dv.len aV.cu (by omega) h
structure aS where
 clock:Int
 bS:List B8
 bY:List ct
 aG:List cB
 keys:List aV
 bz:List bO
structure dY where
 sec:ah
 ten:ah
 aG:ah
 key:ah
 gr:ah
def aS.cs (t:aS) (s:dY):List Value:=kV t.clock s.sec s.ten s.aG s.key s.gr
structure gL (w:World) (s:dY) (t:aS):Prop where
 sec:Bytes w s.sec t.bS
 ten:fU w s.ten t.bY
 aG:um w s.aG t.aG
 key:xG w s.key t.keys
 gr:gR w s.gr t.bz
theorem gL.aE {w w':World} {s:dY} {t:aS} (h:gL w s t) (m:Mod [] w w'):gL w' s t:=⟨Bytes.aE h.sec m,h.ten.aE m,h.aG.aE m,h.key.aE m,h.gr.aE m⟩
structure aS.small (t:aS):Prop where
 sec:t.bS.length≤1000000
 ten:t.bY.length≤1000
 aG:t.aG.length≤1000
 key:t.keys.length≤1000
 gr:t.bz.length≤1000
 pk:∀ p∈t.aG,p.key.length≤1000000
 bq:∀ k∈t.keys,k.aH.length≤1000
 aq:∀ k∈t.keys,∀ v∈k.aH,v.aq.length≤1000000
 gf:∀ g∈t.bz,g.fit
theorem Rv:e6 Pr sQ fR 5 56:=e6.of (by kernel_rfl)
theorem Rw:e6 Pr sS aZ 4 48:=e6.of (by kernel_rfl)
theorem cB.lV (p:cB) (x:ah):∀ u∈p.cs x,ek u=true:=by
 intro u hu
 simp only [cB.cs,lD,List.mem_cons,List.not_mem_nil,or_false] at hu
 rcases hu with rfl | rfl | rfl | rfl | rfl <;> rfl
theorem aV.lV (k:aV) (x:ah):∀ u∈k.cs x,ek u=true:=by
 intro u hu
 simp only [aV.cs,dF,List.mem_cons,List.not_mem_nil,or_false] at hu
 rcases hu with rfl | rfl | rfl | rfl <;> rfl
end Go.Proofs.YtgjoehgomjgckaaGreatDoor
end
section
set_option linter.unusedVariables false
set_option linter.unusedSimpArgs false
namespace Go.Proofs.YtgjoehgomjgckaaGreatDoor
open Go Go.Ev
set_option maxRecDepth 20000
set_option linter.unusedVariables false
theorem acJ (x:ah) (ps:List cB) (xs:List ah) (jM:xs.length=ps.length) (hl:ps.length≤1000000) (w:World) (hx:Sl w x 5 (bA cB.cs ps xs)):Ok Pr Ks [.slice x.a x.n x.c] w fun v w'=>∃ y:ah,v=.slice y.a y.n y.c∧Own w' w.heap.size fR 5 y (bA cB.cs ps xs)∧y.n=x.n∧Mod [] w w':=by
 refine abN ?_
 unfold Ku
 have bT:=hx.len
 rw [iO cB.cu ps xs jM] at bT
 refine bU (fun h=>?_) (fun h=>?_)
 ·have h0:x.n=0:=by
   rcases Nat.eq_zero_or_pos x.n with e | e
   ·exact e
   ·have:=Sl.pre hx e
    cases ha:x.a with
    | none=>rw [ha] at this; cases this
    | some a=>rw [ha] at h; cases h
  obtain rfl:ps=[]:=List.eq_nil_of_length_eq_zero (by omega)
  exact ⟨⟨none,0,0⟩,rfl,Own.nil _ _ _ _,h0.symm,Mod.refl _ _⟩
 ·refine (ak.start w).nw fun p w1 H _=>?_
  have H:=H.rz 0 5 0 0 rfl rfl (Nat.le_refl _) (by simp only [maxLen]; omega)
  refine H.app (s:=⟨some ⟨p,0,none⟩,0,0⟩) (vs:=[]) 0 Rv rfl (hx.aE H.mod) (uF cB.lV ps xs) (by show (0+x.n) * 56≤_; omega) (by show 0+x.n≤_; omega) fun y w2 H hy=>?_
  exact ⟨y,rfl,H.fN 0 rfl,by rw [hy]; exact Nat.zero_add _,H.mod⟩
theorem acK (x:ah) (ks:List aV) (xs:List ah) (jM:xs.length=ks.length) (hl:ks.length≤1000000) (w:World) (hx:Sl w x 4 (bA aV.cs ks xs)):Ok Pr Kw [.slice x.a x.n x.c] w fun v w'=>∃ y:ah,v=.slice y.a y.n y.c∧Own w' w.heap.size aZ 4 y (bA aV.cs ks xs)∧y.n=x.n∧Mod [] w w':=by
 refine abP ?_
 unfold Kx
 have bT:=hx.len
 rw [iO aV.cu ks xs jM] at bT
 refine bU (fun h=>?_) (fun h=>?_)
 ·have h0:x.n=0:=by
   rcases Nat.eq_zero_or_pos x.n with e | e
   ·exact e
   ·have:=Sl.pre hx e
    cases ha:x.a with
    | none=>rw [ha] at this; cases this
    | some a=>rw [ha] at h; cases h
  obtain rfl:ks=[]:=List.eq_nil_of_length_eq_zero (by omega)
  exact ⟨⟨none,0,0⟩,rfl,Own.nil _ _ _ _,h0.symm,Mod.refl _ _⟩
 ·refine (ak.start w).nw fun p w1 H _=>?_
  have H:=H.rz 0 4 0 0 rfl rfl (Nat.le_refl _) (by simp only [maxLen]; omega)
  refine H.app (s:=⟨some ⟨p,0,none⟩,0,0⟩) (vs:=[]) 0 Rw rfl (hx.aE H.mod) (uF aV.lV ks xs) (by show (0+x.n) * 48≤_; omega) (by show 0+x.n≤_; omega) fun y w2 H hy=>?_
  exact ⟨y,rfl,H.fN 0 rfl,by rw [hy]; exact Nat.zero_add _,H.mod⟩
theorem Hz (n lo hi:Int) (w:World):Ok Pr A7 [.int .i64 n,.int .i64 lo,.int .i64 hi] w fun v w'=>v=.bool (aP lo hi n)∧w'=w:=by
 refine agl ?_
 unfold Ql
 exact ⟨rfl,rfl⟩
end Go.Proofs.YtgjoehgomjgckaaGreatDoor
end
section
set_option linter.unusedVariables false
set_option linter.unusedSimpArgs false
namespace Go.Proofs.YtgjoehgomjgckaaGreatDoor
open Go Go.Ev
set_option maxRecDepth 20000
set_option linter.unusedVariables false
theorem Zx (u:aI) (k:Nat):bt u k=1↔u.getLsbD k=true:=by
 unfold bt
 constructor
 ·intro h
  have:=congrArg (fun x=>x.getLsbD 0) h
  simpa using this
 ·intro h
  refine BitVec.eq_of_getLsbD_eq fun i hi=>?_
  by_cases h0:i=0
  ·subst h0; simpa using h
  ·simp [h0]
theorem XB (u:aI) (k:Nat):u >>> k=0↔∀ i,k≤i→i<64→¬ bt u i=1:=by
 constructor
 ·intro h i h1 h2
  rw [Zx]
  have:=congrArg (fun x=>x.getLsbD (i - k)) h
  simp only [BitVec.getLsbD_ushiftRight] at this
  rw [show k+(i - k)=i by omega] at this
  rw [this]; simp
 ·intro h
  refine BitVec.eq_of_getLsbD_eq fun i hi=>?_
  rw [BitVec.getLsbD_ushiftRight]
  by_cases h2:k+i<64
  ·have:=h (k+i) (by omega) h2
   rw [Zx] at this
   simpa using this
  ·rw [BitVec.getLsbD_of_ge _ _ (by omega)]; simp
theorem ag1 (high:Int) (u:aI) (w:World):Ok Pr OD [.int .i64 high,.int .u64 (u.toNat:Int)] w fun r w'=>r=.bool (fO high u)∧w'=w:=by
 refine afp ?_
 unfold Ph
 by_cases h:high<0∨1099511627776<high
 ·exact ite_true (by simpa using h) ⟨by unfold fO; rw [if_pos h],rfl⟩
 refine ite_false (by simpa using h) ?_
 obtain ⟨k,rfl⟩:∃ k:Nat,high=(k:Int):=⟨high.toNat,by omega⟩
 refine dw 0 64 (fun i w'=>(∀ j,k≤j→j<i→¬ bt u j=1)∧w'=w) rfl (by omega) ⟨fun j h1 h2=>by omega,rfl⟩ ?_ ?_
 ·rintro again i w1 _ hi ⟨lQ,rfl⟩ aM
  refine ite_true (decide_eq_true (by omega)) ?_
  by_cases hk:k≤i
  ·refine ite_true (decide_eq_true (by omega)) (kK (by omega) ?_)
   rw [zx,Jw]
   by_cases hb:bt u i=1
   ·refine ite_true (decide_eq_true (show ((u >>> i &&& 1).toNat:Int)=1 by
     have:u >>> i &&& 1=1:=hb
     rw [this]; rfl)) ⟨?_,rfl⟩
    have hz:¬ u >>> k=0:=fun f=>(XB u k).1 f i hk (by omega) hb
    have e:fO (k:Int) u=false:=by
     unfold fO
     rw [if_neg h]
     by_cases h0:(k:Int)=0
     ·rw [if_pos h0,decide_eq_false]
      intro f; exact hz (by rw [f]; simp)
     ·rw [if_neg h0,Int.toNat_natCast,decide_eq_false (fun f=>hz (f (by omega)))]; rfl
    rw [e]
   ·refine ite_false (decide_eq_false (show ¬ ((u >>> i &&& 1).toNat:Int)=1 from fun f=>hb (BB (y:=1) |>.1 f))) ⟨⟨by omega,by omega⟩,aM w1 ⟨fun j h1 h2=>?_,rfl⟩⟩
    rcases Nat.lt_or_ge j i with h3 | h3
    ·exact lQ j h1 h3
    ·rw [show j=i by omega]; exact hb
  ·refine ite_false (decide_eq_false (by omega)) ⟨⟨by omega,by omega⟩,aM w1 ⟨fun j h1 h2=>?_,rfl⟩⟩
   omega
 ·rintro again w1 ⟨lQ,rfl⟩
  have hz:k<64→u >>> k=0:=fun hk=>(XB u k).2 fun i h1 h2=>lQ i h1 h2
  refine ite_false (decide_eq_false (by omega)) ⟨?_,rfl⟩
  rw [Jw]
  congr 1
  unfold fO
  rw [if_neg h]
  by_cases h0:(k:Int)=0
  ·have:k=0:=by omega
   subst this
   have:=hz (by omega)
   rw [if_pos h0,decide_eq_true h0,decide_eq_true (show u=0 by simpa using this)]; rfl
  ·rw [if_neg h0,decide_eq_false h0,Int.toNat_natCast,decide_eq_true (fun f=>hz (by omega)),Bool.true_and,Bool.false_or]
   exact (decide_eq_decide.2 (BB (y:=1)))
end Go.Proofs.YtgjoehgomjgckaaGreatDoor
end
section
set_option linter.unusedVariables false
set_option linter.unusedSimpArgs false
namespace Go.Proofs.YtgjoehgomjgckaaGreatDoor
open Go Go.Ev
set_option maxRecDepth 20000
set_option linter.unusedVariables false
theorem U3 (x:ah) (ts:List ct) (id:Int) (w:World) (hx:fU w x ts):Ok Pr GV [.slice x.a x.n x.c,.int .i64 id] w fun v w'=>v=.bool (aP 1 (ts.length:Int) id)∧w'=w:=by
 refine adX ?_
 unfold Nk
 have:=hx.len
 refine ⟨?_,rfl⟩
 rw [this]; rfl
theorem ag2 (x:ah) (ts:List ct) (hl:ts.length≤1000000) (w:World) (hx:fU w x ts):Ok Pr OB [.slice x.a x.n x.c] w fun v w'=>v=.bool (gJ ts)∧Mod [] w w':=by
 refine afo ?_
 unfold Pg
 rw [YA]
 have bT:=hx.len
 by_cases h8:ts.length≤8
 case neg=>
  have eM:gJ ts=false:=by unfold gJ; rw [decide_eq_false h8]; rfl
  refine yV (fun i w'=>w'=w) (fun _ _=>0) rfl ?_
  rintro again i _ rfl aM
  exact ite_false (by rw [decide_eq_false (show ¬ ((x.n:Nat):Int)≤8 by omega),Bool.and_false]) ⟨by rw [eM,decide_eq_false (show ¬ ((x.n:Nat):Int)≤8 by omega)],Mod.refl _ _⟩
 have eM:gJ ts=mL ts ts.length:=by unfold gJ; rw [decide_eq_true h8]; rfl
 refine dw 0 ts.length (fun i w'=>mL ts i=true∧Mod [] w w') rfl (by omega) ⟨rfl,Mod.refl _ _⟩ ?_ ?_
 ·rintro again i w1 _ hi ⟨dU,m⟩ aM
  obtain ⟨dm,hc⟩:=(hx.aE m).at hi
  have hs:mL ts (i+1)=(mL ts i && nH ts i):=rfl
  have hF:nH ts i=(decide ((ts.getD i tz).id=(i:Int)+1) && (decide (min (i:Int) 1≤(ts.getD i tz).par) && (decide ((ts.getD i tz).par≤(i:Int)) && (qx (ts.getD i tz).name && !(ts.take i).any (kZ (ts.getD i tz).par (ts.getD i tz).name))))):=rfl
  have no:∀ {w2:World},Mod [] w w2→nH ts i=false→(fun v w'=>v=Value.bool (gJ ts)∧Mod [] w w') (.bool false) w2:=fun m h=>⟨by rw [eM,RR h _ hi],m⟩
  generalize ts.getD i tz=t at *
  refine ite_true (by rw [decide_eq_true (show (i:Int)<((x.n:Nat):Int) by omega),decide_eq_true (show ((x.n:Nat):Int)≤8 by omega)]; rfl) ⟨dm,C2 hc ((ak.start w1).nw fun p w2 D _=>D.AM 0 rfl rfl fun w3 D=>?_)⟩
  refine D.an 0 rfl (au p 0) rfl ⟨⟨by omega,by omega⟩,D.fW 0 rfl (au p 2) rfl (D.fW 0 rfl (au p 2) rfl (D.an 0 rfl (au p 1) rfl (D.an 0 rfl (au p 1) rfl (D.an 0 rfl (au p 1) rfl ?_))))⟩
  have eN:qx t.name=true↔1≤t.name.size∧t.name.size≤300:=by
   unfold qx aP
   simp only [Bool.and_eq_true,decide_eq_true_eq]
   omega
  have eq:((decide (t.par=0)) == (decide ((i:Int)=0)))=decide (t.par=0↔(i:Int)=0):=by
   by_cases a:t.par=0 <;> by_cases b:(i:Int)=0 <;> simp [a,b]
  rw [eq]
  by_cases hg:t.id=(i:Int)+1∧min (i:Int) 1≤t.par∧t.par≤(i:Int)∧qx t.name=true
  case neg=>
   refine ite_true ?_ (no (m.trans D.mod) ?_)
   ·simp only [Bool.or_eq_true,Bool.not_eq_true',decide_eq_true_eq,decide_eq_false_iff_not]
    rw [eN] at hg
    omega
   ·rw [hF]
    cases hn:qx t.name with
    | false=>simp
    | true=>
     rw [hn] at hg
     simp only [Bool.and_eq_false_iff,decide_eq_false_iff_not]
     by_cases q1:t.id=(i:Int)+1
     ·by_cases q2:min (i:Int) 1≤t.par
      ·exact .inr (.inr (.inl fun q3=>hg ⟨q1,q2,q3,rfl⟩))
      ·exact .inr (.inl q2)
     ·exact .inl q1
  obtain ⟨g1,g2,g3,g4⟩:=hg
  rw [decide_eq_true g1,decide_eq_true g2,decide_eq_true g3,g4,Bool.true_and,Bool.true_and,Bool.true_and,Bool.true_and] at hF
  refine ite_false ?_ ?_
  ·simp only [Bool.or_eq_false_iff,Bool.not_eq_false',decide_eq_true_eq,decide_eq_false_iff_not]
   have:=eN.1 g4
   omega
  refine dw 0 i (fun kv w'=>(ts.take kv).any (kZ t.par t.name)=false∧ak w1 [] w' [.av p (ko t.id t.par t.name) dV]) rfl (by omega) ⟨rfl,D⟩ ?_ ?_
  ·rintro mu kv w4 _ hkv ⟨hn,D⟩ jz
   have D:=D.drew
   obtain ⟨aau,hck⟩:=(hx.aE (m.trans D.mod)).at (i:=kv) (by omega)
   have tC:=AN (kZ t.par t.name) ts kv (by omega) tz
   have anD:kZ t.par t.name (ts.getD kv tz)=true→(ts.take i).any (kZ t.par t.name)=true:=fun h=>by
    have h1:=AO (kZ t.par t.name) (ts.take i) kv (by rw [List.length_take]; omega) tz (by
     rw [List.getD_eq_getElem?_getD,List.getElem?_take,if_pos hkv,← List.getD_eq_getElem?_getD]; exact h)
    exact h1
   generalize ts.getD kv tz=q at *
   refine ite_true (decide_eq_true (by omega)) ⟨aau,_,hck 1 _ rfl,D.an 0 rfl (au p 1) rfl ?_⟩
   by_cases hp:q.par=t.par
   ·refine ite_true (decide_eq_true hp) ⟨aau,_,hck 2 _ rfl,D.fW 0 rfl (au p 2) rfl ?_⟩
    by_cases hq:q.name=t.name
    ·have hsm:kZ t.par t.name q=true:=by unfold kZ; rw [decide_eq_true hp,decide_eq_true hq]; rfl
     exact ite_true (decide_eq_true hq) (no (m.trans D.mod) (by rw [hF,anD hsm]; rfl))
    ·exact ite_false (decide_eq_false hq) ⟨⟨by omega,by omega⟩,jz _ ⟨by rw [tC,hn]; unfold kZ; rw [decide_eq_false hq,Bool.and_false]; rfl,D⟩⟩
   ·exact ite_false (decide_eq_false hp) ⟨⟨by omega,by omega⟩,jz _ ⟨by rw [tC,hn]; unfold kZ; rw [decide_eq_false hp]; rfl,D⟩⟩
  ·rintro mu w4 ⟨hn,D⟩
   exact ite_false (decide_eq_false (by omega)) ⟨⟨by omega,by omega⟩,aM _ ⟨by rw [hs,dU,hF,hn]; rfl,m.trans D.mod⟩⟩
 ·rintro again w1 ⟨dU,m⟩
  exact ite_false (by rw [decide_eq_false (show ¬ ((ts.length:Nat):Int)<((x.n:Nat):Int) by omega)]; rfl) ⟨by rw [eM,dU,decide_eq_true (show ((x.n:Nat):Int)≤8 by omega)],m⟩
end Go.Proofs.YtgjoehgomjgckaaGreatDoor
end
section
set_option linter.unusedVariables false
set_option linter.unusedSimpArgs false
namespace Go.Proofs.YtgjoehgomjgckaaGreatDoor
open Go Go.Ev
set_option maxRecDepth 20000
set_option linter.unusedVariables false
theorem ad8 (v:bn) (x:ah) (n:Int) (w:World) (hx:kB w x v):Ok Pr LP [.agg ⟨v.cs x⟩,.int .i64 n] w fun r w'=>r=.bool (gA v n)∧Mod [] w w':=by
 refine adb ?_
 unfold L7
 have bT:=Bytes.len hx
 refine (ak.start w).nw fun p w1 H _=>?_
 have H:ak w [] w1 [.av p (uv v.n v.st v.due x) cI]:=H
 refine H.an 0 rfl (au p 0) rfl (H.an 0 rfl (au p 1) rfl (H.an 0 rfl (au p 1) rfl ?_))
 have hM:gA v n=(decide (v.n=n) && (if v.st=3 then aP 1 1099511627776 v.due && decide (v.aq.length=64) else if v.st=4 then decide (v.due=0) && decide (v.aq.length=0) else if v.st=1∨v.st=2 then decide (v.due=0) && decide (v.aq.length=64) else false)):=rfl
 by_cases h1:v.n=n
 case neg=>
  rw [decide_eq_false h1,Bool.false_and] at hM
  exact ite_true (by rw [decide_eq_false h1]; rfl) ⟨by rw [hM],H.mod⟩
 rw [decide_eq_true h1,Bool.true_and] at hM
 by_cases hs:1≤v.st∧v.st≤4
 case neg=>
  rw [if_neg (by omega),if_neg (by omega),if_neg (by omega)] at hM
  refine ite_true ?_ ⟨by rw [hM],H.mod⟩
  by_cases h:v.st<1
  ·rw [decide_eq_true h,Bool.or_true,Bool.true_or]
  ·rw [decide_eq_true (show 4<v.st by omega),Bool.or_true]
 refine ite_false (by rw [decide_eq_true h1,decide_eq_false (show ¬ v.st<1 by omega),decide_eq_false (show ¬ 4<v.st by omega)]; rfl) (H.an 0 rfl (au p 1) rfl (H.ax 0 rfl (au p 3) rfl (H.an 0 rfl (au p 1) rfl (H.ax 0 rfl (au p 3) rfl ?_))))
 have TR:decide (((x.n:Nat):Int)=64)=decide (v.aq.length=64):=decide_eq_decide.2 (by omega)
 have e0:decide (((x.n:Nat):Int)=0)=decide (v.aq.length=0):=decide_eq_decide.2 (by omega)
 rw [TR,e0]
 by_cases h4:v.st=4
 ·rw [if_neg (by omega),if_pos h4] at hM
  by_cases h:v.aq.length=0
  ·rw [decide_eq_true h,Bool.and_true] at hM
   exact ite_false (by rw [decide_eq_true h4,decide_eq_true h]; rfl) (H.an 0 rfl (au p 1) rfl (ite_false (decide_eq_false (by omega)) (H.an 0 rfl (au p 2) rfl ⟨by rw [hM],H.mod⟩)))
  ·rw [decide_eq_false h,Bool.and_false] at hM
   exact ite_true (by rw [decide_eq_true h4,decide_eq_false h]; rfl) ⟨by rw [hM],H.mod⟩
 ·by_cases h:v.aq.length=64
  ·rw [decide_eq_true h,Bool.and_true,Bool.and_true] at hM
   refine ite_false (by rw [decide_eq_false h4,decide_eq_true h]; rfl) (H.an 0 rfl (au p 1) rfl ?_)
   by_cases h3:v.st=3
   ·rw [if_pos h3] at hM
    exact ite_true (decide_eq_true h3) (H.an 0 rfl (au p 2) rfl (H.an 0 rfl (au p 2) rfl ⟨by rw [hM]; rfl,H.mod⟩))
   ·rw [if_neg h3,if_neg h4,if_pos (by omega)] at hM
    exact ite_false (decide_eq_false h3) (H.an 0 rfl (au p 2) rfl ⟨by rw [hM],H.mod⟩)
  ·rw [decide_eq_false h,Bool.and_false,Bool.and_false,if_neg h4] at hM
   refine ite_true (by rw [decide_eq_false h4,decide_eq_false h]; rfl) ⟨?_,H.mod⟩
   rw [hM]
   split
   ·rfl
   ·split <;> rfl
theorem ag3 (k:aV) (x:ah) (hl:k.aH.length≤1000000) (w:World) (hx:fY w x k.aH):Ok Pr OE [.agg ⟨k.cs x⟩] w fun r w'=>r=.bool (cS k)∧Mod [] w w':=by
 refine afq ?_
 unfold Pj
 have bT:=hx.len
 refine (ak.start w).nw fun p w1 H _=>?_
 have H:ak w [] w1 [.av p (dF k.id k.ten k.set x) aZ]:=H
 refine H.an 0 rfl (au p 0) rfl (H.an 0 rfl (au p 0) rfl (H.an 0 rfl (au p 1) rfl (H.an 0 rfl (au p 1) rfl (H.an 0 rfl (au p 2) rfl (H.an 0 rfl (au p 2) rfl (H.ax 0 rfl (au p 3) rfl (H.ax 0 rfl (au p 3) rfl ?_)))))))
 by_cases h:(1≤k.id∧k.id≤6)∧(1≤k.ten∧k.ten≤8)∧(1≤k.set∧k.set≤3)∧(1≤k.aH.length∧k.aH.length≤5)
 case neg=>
  refine ite_true ?_ ⟨?_,H.mod⟩
  ·simp only [Bool.or_eq_true,decide_eq_true_eq]; omega
  ·have:cS k=false:=Bool.eq_false_iff.2 fun hm=>by
    obtain ⟨a,b,c,d,_⟩:=wS hm
    exact h ⟨a,b,c,d⟩
   rw [this]
 obtain ⟨h1,h2,h3,h4⟩:=h
 refine ite_false ?_ ?_
 ·simp only [Bool.or_eq_false_iff,decide_eq_false_iff_not]; omega
 have eK:cS k=l9 k.aH k.aH.length:=by
  unfold cS aP
  rw [decide_eq_true h1.1,decide_eq_true h1.2,decide_eq_true h2.1,decide_eq_true h2.2,decide_eq_true h3.1,decide_eq_true h3.2,decide_eq_true (show (1:Int)≤(k.aH.length:Int) by omega),decide_eq_true (show (k.aH.length:Int)≤5 by omega)]
  simp
 refine dw 0 k.aH.length (fun i w'=>l9 k.aH i=true∧ak w [] w' [.av p (dF k.id k.ten k.set x) aZ]) rfl (by omega) ⟨rfl,H⟩ ?_ ?_
 ·rintro again i w3 _ hi ⟨dU,H⟩ aM
  have ha:k.aH[i]? = some (k.aH.getD i vz):=by rw [List.getD_eq_getElem?_getD,List.getElem?_eq_getElem hi]; rfl
  obtain ⟨dm,y,hy,hc⟩:=Dv.at bn.cu (by omega) (hx.aE H.mod) ha
  have hs:l9 k.aH (i+1)=(l9 k.aH i && gA (k.aH.getD i vz) ((i:Int)+1)):=rfl
  have dA:=RQ (vs:=k.aH) (i:=i)
  generalize k.aH.getD i vz=v at *
  refine H.ax 0 rfl (au p 3) rfl (ite_true (decide_eq_true (by omega)) (H.ax 0 rfl (au p 3) rfl ⟨dm,yq hc ⟨⟨by omega,by omega⟩,aB (ad8 v y _ _ hy) ?_⟩⟩))
  rintro _ w6 ⟨rfl,m6⟩
  refine bk ?_
  cases hv:gA v ((i:Int)+1) with
  | false=>exact ite_true rfl ⟨by rw [eK,dA hv _ hi],H.mod.trans m6⟩
  | true=>exact ite_false rfl ⟨⟨by omega,by omega⟩,aM _ ⟨by rw [hs,dU,hv]; rfl,H.frame m6⟩⟩
 ·rintro again w3 ⟨dU,H⟩
  exact H.ax 0 rfl (au p 3) rfl (ite_false (decide_eq_false (by omega)) ⟨by rw [eK,dU],H.mod⟩)
theorem agu (k:aV) (x:ah) (hl:k.aH.length≤1000) (hs:∀ v∈k.aH,v.aq.length≤1000000) (w:World) (hx:fY w x k.aH):Ok Pr NB [.agg ⟨k.cs x⟩] w fun r w'=>∃ y:ah,r=.agg ⟨k.cs y⟩∧Jv w w' y k.aH:=by
 refine aeE ?_
 unfold Oj
 rw [o5]
 have bT:=hx.len
 obtain ⟨xs,dS,cA⟩:=hx
 refine (ak.start w).nw fun p w1 H _=>H.nw fun p1 w2 H _=>?_
 have H:ak w [] w2 [.av p (dF k.id k.ten k.set x) aZ,.av p1 [.int .i64 0,.int .i64 0,.int .i64 0,.slice none 0 0] aZ]:=H
 refine H.ax 0 rfl (au p 3) rfl (H.clone Rq (dS.aE H.mod) (uF bn.lV k.aH xs) (by omega) (by omega) fun y w3 H xP=>?_)
 refine H.st 0 rfl (au p 3) (by show 3<4; omega) rfl fun w4 H=>?_
 have H:ak w [] w4 ([.av p (dF k.id k.ten k.set y) aZ,.av p1 [.int .i64 0,.int .i64 0,.int .i64 0,.slice none 0 0] aZ] ++ [.row cI 4 y (bA bn.cs k.aH xs)]):=H
 refine dw 0 k.aH.length (fun i w'=>gh bn.cs 4 ir cI w [] [.av p (dF k.id k.ten k.set y) aZ,.av p1 [.int .i64 0,.int .i64 0,.int .i64 0,.slice none 0 0] aZ] w' y k.aH xs i) rfl (by omega) (gh.start H) ?_ ?_
 ·intro again i w5 _ hi R aM
  refine R.front.ax 0 rfl (au p 3) rfl (ite_true (decide_eq_true (by omega)) ?_)
  have R:=R.frame (Mod.drew [] w5)
  have ha:k.aH[i]? = some k.aH[i]:=List.getElem?_eq_getElem hi
  have dB:xs[i]? = some (xs[i]'(by rw [cA.1]; exact hi)):=List.getElem?_eq_getElem _
  have iL:=hs _ (List.getElem_mem hi)
  have sF:=cA.2 i _ _ dB ha
  obtain ⟨dm,hc⟩:=R.at bn.cu (by omega) cA.1 ha dB
  generalize k.aH[i]=v at *
  generalize xs[i]'(by rw [cA.1]; exact hi)=z at *
  have F:=R.front
  have hb:kB w5.drew z v:=Bytes.aE sF F.mod
  have pT:=Bytes.len hb
  refine F.ax 0 rfl (au p 3) rfl (F.ax 0 rfl (au p 3) rfl ⟨dm,z,hc 3 z.v rfl,(ak.start w5.drew).RG iG hb (by omega) fun u w6 U hu=>?_⟩)
  have F3:fJ w5.drew w6 fun w=>ir w u v:=U.boxed fun w' h=>h 0 _ rfl
  exact ⟨F.j0 0 rfl F3.mod 3,dm,R.step bn.cu cA.1 ha dB F3 (by omega:3<4) (Rc v z u) fun w7 R=>⟨⟨by omega,by omega⟩,aM w7 R⟩⟩
 ·intro again w5 R
  refine R.front.ax 0 rfl (au p 3) rfl (ite_false (decide_eq_false (by omega)) ?_)
  obtain ⟨ys,fp,H⟩:=R.done rfl cA.1
  exact H.bu 0 rfl (H.cD 1 rfl rfl fun w8 H=>H.bu 1 rfl ⟨y,rfl,ys,fp,H.drop 2⟩)
end Go.Proofs.YtgjoehgomjgckaaGreatDoor
end
section
set_option linter.unusedVariables false
set_option linter.unusedSimpArgs false
namespace Go.Proofs.YtgjoehgomjgckaaGreatDoor
open Go Go.Ev
set_option maxRecDepth 20000
set_option linter.unusedVariables false
theorem YF:zc Pr fR=lD 0 0 ⟨none,0,0⟩ 0 0:=by kernel_rfl
theorem uH:zc Pr aN=kV 0 ⟨none,0,0⟩ ⟨none,0,0⟩ ⟨none,0,0⟩ ⟨none,0,0⟩ ⟨none,0,0⟩:=by kernel_rfl
def pL (t:aS) (i:Nat) (p:cB):Bool:=decide (p.id=(i:Int)+1) && (aP 1 (t.bY.length:Int) p.ten && (decide (p.key.length=jD 1) && fO p.high p.used))
def lY (t:aS):Nat→Bool
 | 0=>true
 | i+1=>lY t i && pL t i (t.aG.getD i fz)
def kC (t:aS) (i:Nat) (k:aV):Bool:=decide (k.id=(i:Int)+1) && (aP 1 (t.bY.length:Int) k.ten && cS k)
def lZ (t:aS):Nat→Bool
 | 0=>true
 | i+1=>lZ t i && kC t i (t.keys.getD i kz)
def pM (t:aS) (g:bO):Bool:=decide ((t.keys.length:Int)<g.n1) || decide ((t.aG.length:Int)<g.n2)
def zP (t:aS):Bool:=aP 0 1099511627776 t.clock && (decide (t.bS.length=32) && (decide (1≤t.bY.length) && (gJ t.bY && (aP 1 6 (t.aG.length:Int) && (decide (t.keys.length≤6) && gp t.bz)))))
def fC (t:aS):Bool:=zP t && (lY t t.aG.length && (lZ t t.keys.length && !t.bz.any (pM t)))
theorem Rx {t:aS} {i:Nat} (h:pL t i (t.aG.getD i fz)=false):∀ n,i<n→lY t n=false
 | 0,hn=>by omega
 | n+1,hn=>by
  show (lY t n && _)=false
  rcases Nat.lt_or_ge i n with h2 | h2
  ·rw [Rx h n h2,Bool.false_and]
  ·rw [show n=i by omega,h,Bool.and_false]
theorem Ry {t:aS} {i:Nat} (h:kC t i (t.keys.getD i kz)=false):∀ n,i<n→lZ t n=false
 | 0,hn=>by omega
 | n+1,hn=>by
  show (lZ t n && _)=false
  rcases Nat.lt_or_ge i n with h2 | h2
  ·rw [Ry h n h2,Bool.false_and]
  ·rw [show n=i by omega,h,Bool.and_false]
theorem um.at {w:World} {s:ah} {ps:List cB} (h:um w s ps) {i:Nat} (hi:i<ps.length) :
  (s.a.isSome=true∧(0:Int)≤(i:Int)∧(i:Int)<(s.n:Int))∧∃ x:ah,Bytes w x (ps.getD i fz).key∧∀ (j:Nat) (v:Value),((ps.getD i fz).cs x)[j]? = some v→w.cell? (Addr.add (Addr.add (base s.a) (Int.toNat (i:Int) * 5)) j)=some v:=
 Dv.at cB.cu (by omega) h (by rw [List.getD_eq_getElem?_getD,List.getElem?_eq_getElem hi]; rfl)
theorem xG.at {w:World} {s:ah} {ks:List aV} (h:xG w s ks) {i:Nat} (hi:i<ks.length) :
  (s.a.isSome=true∧(0:Int)≤(i:Int)∧(i:Int)<(s.n:Int))∧∃ x:ah,fY w x (ks.getD i kz).aH∧∀ (j:Nat) (v:Value),((ks.getD i kz).cs x)[j]? = some v→w.cell? (Addr.add (Addr.add (base s.a) (Int.toNat (i:Int) * 4)) j)=some v:=
 Dv.at aV.cu (by omega) h (by rw [List.getD_eq_getElem?_getD,List.getElem?_eq_getElem hi]; rfl)
theorem wT {t:aS} (hs:t.small) {i:Nat} (hi:i<t.keys.length):(t.keys.getD i kz).aH.length≤1000:=by
 refine hs.bq _ ?_
 rw [List.getD_eq_getElem?_getD,List.getElem?_eq_getElem hi]
 exact List.getElem_mem hi
def Zy (w:World) (g:Value) (p:bO→Bool):Prop:=∀ (t:bO) (w':World),Mod [] w w'→lJ Pr g [.agg ⟨t.cells⟩] w' fun v fo=>v=.bool (p t)∧Mod [] w' fo
theorem ab8 (g:Value) (p:bO→Bool) (x:ah) (ts:List bO) (hl:ts.length≤1000000000) (w:World) (hx:gR w x ts) (hg:Zy w g p) :
  Ok Pr CU [.slice x.a x.n x.c,g] w fun v w'=>∃ z:Int,v=.int .i64 z∧decide (0≤z)=ts.any p∧Mod [] w w':=by
 refine Un ?_
 unfold Gw
 have bT:=hx.len
 refine dw 0 ts.length (fun i w'=>(ts.take i).any p=false∧Mod [] w w') rfl (by omega) ⟨rfl,Mod.refl _ _⟩ ?_ ?_
 ·rintro again i w1 _ hi ⟨hn,m⟩ aM
  refine ite_true (decide_eq_true (by omega)) ((hx.aE m).ld hi rfl (DH (hg _ w1 m) ?_))
  rintro _ w2 ⟨rfl,m2⟩
  refine bk (bU (fun hc=>?_) (fun hc=>?_))
  ·exact ⟨_,rfl,by rw [AO p ts i hi gz hc]; exact decide_eq_true (by omega),m.trans m2⟩
  ·exact ⟨⟨by omega,by omega⟩,aM w2 ⟨by rw [AN p ts i hi gz,hn,hc]; rfl,m.trans m2⟩⟩
 ·rintro again w1 ⟨hn,m⟩
  rw [List.take_of_length_le (Nat.le_refl _)] at hn
  exact ite_false (decide_eq_false (by omega)) ⟨_,rfl,by rw [hn]; rfl,m⟩
theorem ab0 (g:Value) (p:bO→Bool) (x:ah) (ts:List bO) (hl:ts.length≤1000000000) (w:World) (hx:gR w x ts) (hg:Zy w g p) :
  Ok Pr Kk [.slice x.a x.n x.c,g] w fun v w'=>v=.bool (ts.any p)∧Mod [] w w':=by
 refine abJ ?_
 unfold Kl
 refine aB (ab8 g p x ts hl w hx hg) ?_
 rintro _ w1 ⟨z,rfl,hz,m⟩
 exact ey ⟨by rw [hz],m⟩
theorem aic:jw Pr MK=true:=by kernel_rfl
theorem VB (s:dY) (t:aS) (hs:t.small) (w:World) (hx:gL w s t):Ok Pr Hi [.agg ⟨t.cs s⟩] w fun v w'=>v=.bool (fC t)∧Mod [] w w':=by
 refine afn ?_
 unfold Pf
 rw [YF,o5]
 have TT:=hx.sec.len
 have vX:=hx.ten.len
 have qT:=hx.aG.len
 have uo:=hx.key.len
 have J9:=hx.gr.len
 have x5:=hs.ten
 have x6:=hs.aG
 have vY:=hs.key
 have Az:=hs.gr
 refine (ak.start w).nw fun p w1 H _=>?_
 have H:ak w [] w1 [.av p (t.cs s) aN]:=H
 have no:∀ {w2:World},Mod [] w w2→fC t=false→(fun v w'=>v=Value.bool (fC t)∧Mod [] w w') (.bool false) w2:=fun m h=>⟨by rw [h],m⟩
 refine ku fun go bZ=>?_
 have S3:∀ w2,Mod [] w1 w2→zP t=true→go w2:=by
  intro w2 m2 hp
  refine bZ w2 (aB (Vo 1 w2) ?_)
  have eM:fC t=(lY t t.aG.length && (lZ t t.keys.length && !t.bz.any (pM t))):=by unfold fC; rw [hp]; rfl
  rintro _ w3 ⟨rfl,m3⟩
  have H:=H.frame (m2.trans m3)
  refine ⟨_,rfl,_,rfl,_,rfl,_,rfl,rfl,H.ax 0 rfl (au p 3) rfl ?_⟩
  refine dw 0 t.aG.length (fun i w'=>lY t i=true∧ak w [] w' [.av p (t.cs s) aN]) rfl (by omega) ⟨rfl,H⟩ ?_ ?_
  ·rintro again i w4 _ hi ⟨dU,H⟩ aM
   obtain ⟨dm,x,uq,hc⟩:=(hx.aG.aE H.mod).at hi
   have hS:lY t (i+1)=(lY t i && pL t i (t.aG.getD i fz)):=rfl
   have hN:=Rx (t:=t) (i:=i)
   have nn:∀ {w2:World},Mod [] w w2→pL t i (t.aG.getD i fz)=false→(fun v w'=>v=Value.bool (fC t)∧Mod [] w w') (.bool false) w2:=fun m h=>no m (by rw [eM,hN h _ hi]; rfl)
   have bM:=uq.len
   have hP:pL t i (t.aG.getD i fz)=(decide ((t.aG.getD i fz).id=(i:Int)+1) && (aP 1 (t.bY.length:Int) (t.aG.getD i fz).ten && (decide ((t.aG.getD i fz).key.length=jD 1) && fO (t.aG.getD i fz).high (t.aG.getD i fz).used))):=rfl
   generalize t.aG.getD i fz=q at *
   refine ite_true (decide_eq_true (by omega)) ⟨dm,UE hc (H.nw fun p1 w5 D _=>D.AK 1 rfl rfl fun w6 D=>?_)⟩
   have D:ak w [] w6 [.av p (t.cs s) aN,.av p1 (q.cs x) fR]:=D
   refine D.an 1 rfl (au p1 0) rfl ⟨⟨by omega,by omega⟩,D.an 1 rfl (au p1 1) rfl (D.ax 0 rfl (au p 2) rfl ?_)⟩
   by_cases e1:q.id=(i:Int)+1
   case neg=>
    refine ite_true (by rw [decide_eq_false e1]; rfl) (D.ax 1 rfl (au p1 2) rfl (D.an 1 rfl (au p1 3) rfl (D.an 1 rfl (au p1 4) rfl (nn D.mod ?_))))
    rw [hP,decide_eq_false e1]; rfl
   refine ite_false (by rw [decide_eq_true e1]; rfl) (aB (Hz _ _ _ _) ?_)
   rintro _ w7 ⟨rfl,sI⟩
   subst sI
   refine bk (D.ax 1 rfl (au p1 2) rfl (D.an 1 rfl (au p1 3) rfl (D.an 1 rfl (au p1 4) rfl ?_)))
   have e2:aP 1 (s.ten.n:Int) q.ten=aP 1 (t.bY.length:Int) q.ten:=by rw [vX]
   rw [e2]
   have e3:(decide ((x.n:Int)=(jD 1:Int)))=decide (q.key.length=jD 1):=by
    by_cases h:q.key.length=jD 1
    ·rw [decide_eq_true h]; exact decide_eq_true (by omega)
    ·rw [decide_eq_false h]; exact decide_eq_false (by omega)
   rw [e3]
   rw [decide_eq_true e1,Bool.true_and] at hP
   cases c1:aP 1 (t.bY.length:Int) q.ten with
   | false=>exact ite_true rfl (nn D.mod (by rw [hP,c1]; rfl))
   | true=>
    rw [c1,Bool.true_and] at hP
    cases c2:decide (q.key.length=jD 1) with
    | false=>exact ite_true rfl (nn D.mod (by rw [hP,c2]; rfl))
    | true=>
     rw [c2,Bool.true_and] at hP
     refine ite_false rfl (aB (No _ _ _) ?_)
     rintro _ w8 ⟨rfl,F4⟩
     subst F4
     refine bk ?_
     cases c3:fO q.high q.used with
     | false=>exact ite_true rfl (nn D.mod (by rw [hP,c3]))
     | true=>exact ite_false rfl ⟨⟨by omega,by omega⟩,aM _ ⟨by rw [hS,dU,hP,c3]; rfl,D.front (L:=[_])⟩⟩
  ·rintro again w4 ⟨TU,H⟩
   rw [TU,Bool.true_and] at eM
   refine ite_false (decide_eq_false (by omega)) (H.ax 0 rfl (au p 4) rfl ?_)
   refine dw 0 t.keys.length (fun i w'=>lZ t i=true∧ak w [] w' [.av p (t.cs s) aN]) rfl (by omega) ⟨rfl,H⟩ ?_ ?_
   ·rintro again i w4 _ hi ⟨dU,H⟩ aM
    obtain ⟨dm,x,uq,hc⟩:=hx.key.at hi
    have hS:lZ t (i+1)=(lZ t i && kC t i (t.keys.getD i kz)):=rfl
    have hN:=Ry (t:=t) (i:=i)
    have nn:∀ {w2:World},Mod [] w w2→kC t i (t.keys.getD i kz)=false→(fun v w'=>v=Value.bool (fC t)∧Mod [] w w') (.bool false) w2:=fun m h=>no m (by rw [eM,hN h _ hi]; rfl)
    have vG:=wT hs hi
    have hP:kC t i (t.keys.getD i kz)=(decide ((t.keys.getD i kz).id=(i:Int)+1) && (aP 1 (t.bY.length:Int) (t.keys.getD i kz).ten && cS (t.keys.getD i kz))):=rfl
    generalize t.keys.getD i kz=q at *
    refine ite_true (decide_eq_true (by omega)) ⟨dm,qn (fun j v h=>H.mod.o8 (hc j v h)) (H.nw fun p1 w5 D _=>D.cD 1 rfl rfl fun w6 D=>?_)⟩
    have D:ak w [] w6 [.av p (t.cs s) aN,.av p1 (dF q.id q.ten q.set x) aZ]:=D
    refine D.an 1 rfl (au p1 0) rfl ⟨⟨by omega,by omega⟩,D.an 1 rfl (au p1 1) rfl (D.ax 0 rfl (au p 2) rfl ?_)⟩
    by_cases e1:q.id=(i:Int)+1
    case neg=>
     refine ite_true (by rw [decide_eq_false e1]; rfl) (D.bu 1 rfl (nn D.mod ?_))
     rw [hP,decide_eq_false e1]; rfl
    refine ite_false (by rw [decide_eq_true e1]; rfl) (aB (Hz _ _ _ _) ?_)
    rintro _ w7 ⟨rfl,sI⟩
    subst sI
    refine bk (D.bu 1 rfl ?_)
    have e2:aP 1 (s.ten.n:Int) q.ten=aP 1 (t.bY.length:Int) q.ten:=by rw [vX]
    rw [e2]
    rw [decide_eq_true e1,Bool.true_and] at hP
    cases c1:aP 1 (t.bY.length:Int) q.ten with
    | false=>exact ite_true rfl (nn D.mod (by rw [hP,c1]; rfl))
    | true=>
     rw [c1,Bool.true_and] at hP
     refine ite_false rfl (aB (wC q x (by omega) _ (uq.aE D.mod)) ?_)
     rintro _ w8 ⟨rfl,m8⟩
     refine bk ?_
     cases c3:cS q with
     | false=>exact ite_true rfl (nn (D.mod.trans m8) (by rw [hP,c3]))
     | true=>exact ite_false rfl ⟨⟨by omega,by omega⟩,aM _ ⟨by rw [hS,dU,hP,c3]; rfl,(D.front (L:=[_])).frame m8⟩⟩
   ·rintro again w4 ⟨TV,H⟩
    rw [TV,Bool.true_and] at eM
    refine ite_false (decide_eq_false (by omega)) (H.ax 0 rfl (au p 5) rfl (aB (ab0 _ (pM t) s.gr t.bz (by omega) w4 (hx.gr.aE H.mod) fun g w5 m=>?_) ?_))
    ·refine yW aic (adW ?_)
     unfold Nj
     have b1:bW w5 p (t.cs s) aN:=(H.frame m).av 0 rfl
     refine (ak.start w5).nw fun q w6 K _=>?_
     have c1:=b1.aE K.mod
     refine K.an 0 rfl (au q 1) rfl (c1.ax rfl rfl (K.an 0 rfl (au q 2) rfl (c1.ax rfl rfl ⟨?_,K.mod⟩)))
     unfold pM
     rw [uo,qT]
    ·rintro _ w5 ⟨rfl,m⟩
     exact bk ⟨by rw [eM],H.mod.trans m⟩
 refine H.an 0 rfl (au p 0) rfl (aB (Hz _ _ _ _) ?_)
 rintro _ w2 ⟨rfl,qR⟩
 subst qR
 refine bk (H.ax 0 rfl (au p 1) rfl (H.ax 0 rfl (au p 2) rfl (H.ax 0 rfl (au p 2) rfl ?_)))
 have eP:zP t=(aP 0 1099511627776 t.clock && (decide (t.bS.length=32) && (decide (1≤t.bY.length) && (gJ t.bY && (aP 1 6 (t.aG.length:Int) && (decide (t.keys.length≤6) && gp t.bz)))))):=rfl
 have AA:∀ {w2:World},Mod [] w w2→zP t=false→(fun v w'=>v=Value.bool (fC t)∧Mod [] w w') (.bool false) w2:=fun m h=>no m (by unfold fC; rw [h]; rfl)
 have e1:decide ((s.sec.n:Int)=32)=decide (t.bS.length=32):=by
  by_cases h:t.bS.length=32
  ·rw [decide_eq_true h]; exact decide_eq_true (by omega)
  ·rw [decide_eq_false h]; exact decide_eq_false (by omega)
 have e2:decide ((s.ten.n:Int)=0)=!decide (1≤t.bY.length):=by
  by_cases h:1≤t.bY.length
  ·rw [decide_eq_true h]; exact decide_eq_false (by omega)
  ·rw [decide_eq_false h]; exact decide_eq_true (by omega)
 rw [e1,e2]
 cases c1:aP 0 1099511627776 t.clock with
 | false=>exact ite_true rfl (H.ax 0 rfl (au p 3) rfl (H.ax 0 rfl (au p 4) rfl (H.ax 0 rfl (au p 5) rfl (AA H.mod (by rw [eP,c1]; rfl)))))
 | true=>
 cases c2:decide (t.bS.length=32) with
 | false=>exact ite_true rfl (H.ax 0 rfl (au p 3) rfl (H.ax 0 rfl (au p 4) rfl (H.ax 0 rfl (au p 5) rfl (AA H.mod (by rw [eP,c1,c2]; rfl)))))
 | true=>
 cases c3:decide (1≤t.bY.length) with
 | false=>exact ite_true rfl (H.ax 0 rfl (au p 3) rfl (H.ax 0 rfl (au p 4) rfl (H.ax 0 rfl (au p 5) rfl (AA H.mod (by rw [eP,c1,c2,c3]; rfl)))))
 | true=>
 rw [c1,c2,c3,Bool.true_and,Bool.true_and,Bool.true_and] at eP
 refine ite_false rfl (aB (MH s.ten t.bY (by omega) _ (hx.ten.aE H.mod)) ?_)
 rintro _ w3 ⟨rfl,m3⟩
 have H:=H.frame m3
 refine bk (H.ax 0 rfl (au p 3) rfl ?_)
 cases c4:gJ t.bY with
 | false=>exact ite_true rfl (H.ax 0 rfl (au p 4) rfl (H.ax 0 rfl (au p 5) rfl (AA H.mod (by rw [eP,c4]; rfl))))
 | true=>
 rw [c4,Bool.true_and] at eP
 refine ite_false rfl (aB (Hz _ _ _ _) ?_)
 rintro _ w4 ⟨rfl,TW⟩
 subst TW
 refine bk (H.ax 0 rfl (au p 4) rfl (H.ax 0 rfl (au p 5) rfl ?_))
 have e3:aP 1 6 (s.aG.n:Int)=aP 1 6 (t.aG.length:Int):=by rw [qT]
 have e4:decide (6<(s.key.n:Int))=!decide (t.keys.length≤6):=by
  by_cases h:t.keys.length≤6
  ·rw [decide_eq_true h]; exact decide_eq_false (by omega)
  ·rw [decide_eq_false h]; exact decide_eq_true (by omega)
 rw [e3,e4]
 cases c5:aP 1 6 (t.aG.length:Int) with
 | false=>exact ite_true rfl (AA H.mod (by rw [eP,c5]; rfl))
 | true=>
 cases c6:decide (t.keys.length≤6) with
 | false=>exact ite_true rfl (AA H.mod (by rw [eP,c5,c6]; rfl))
 | true=>
 rw [c5,c6,Bool.true_and,Bool.true_and] at eP
 refine ite_false rfl (aB (G5 s.gr t.bz (by omega) _ (hx.gr.aE H.mod)) ?_)
 rintro _ w5 ⟨rfl,m5⟩
 refine bk ?_
 cases c7:gp t.bz with
 | false=>exact ite_true rfl (AA (H.mod.trans m5) (by rw [eP,c7]))
 | true=>exact ite_false rfl (S3 _ (m3.trans m5) (by rw [eP,c7]))
end Go.Proofs.YtgjoehgomjgckaaGreatDoor
end
section
set_option linter.unusedVariables false
set_option linter.unusedSimpArgs false
namespace Go.Proofs.YtgjoehgomjgckaaGreatDoor
open Go Go.Ev
set_option maxRecDepth 20000
set_option linter.unusedVariables false
def TX (a x:Int):Int:=if a / 2<x % a then x % a - a else x % a
def GG (g:Int):Prop:=g=95232∨g=261888
def aav (g x:Int):Int:=if x % 8380417 - TX (2 * g) (x % 8380417)=8380416 then TX (2 * g) (x % 8380417) - 1 else TX (2 * g) (x % 8380417)
end Go.Proofs.YtgjoehgomjgckaaGreatDoor
end
section
set_option linter.unusedVariables false
set_option linter.unusedSimpArgs false
namespace Go.Proofs.YtgjoehgomjgckaaGreatDoor
open Go Go.Ev
set_option maxRecDepth 20000
set_option linter.unusedVariables false
def part (G:Nat→Int) (n i:Nat):List Int:=(List.range i).map G ++ List.replicate (n - i) 0
end Go.Proofs.YtgjoehgomjgckaaGreatDoor
end
section
set_option linter.unusedVariables false
set_option linter.unusedSimpArgs false
namespace Go.Proofs.YtgjoehgomjgckaaGreatDoor
open Go Go.Ev
set_option maxRecDepth 20000
set_option linter.unusedVariables false
structure anE (s:pG):Prop where
 k0:0<s.k
 k:s.k≤8
 l0:0<s.l
 l:s.l≤7
 eta:(s.eta:Int)=2∨(s.eta:Int)=4
 c:s.c≤64
theorem anF {set:Int} (h:isSet set=true):anE (dO set):=by
 unfold isSet at h
 simp only [Bool.or_eq_true,decide_eq_true_eq] at h
 rcases h with rfl | rfl | rfl
 ·exact ⟨by decide,by decide,by decide,by decide,.inl rfl,by decide⟩
 ·exact ⟨by decide,by decide,by decide,by decide,.inr rfl,by decide⟩
 ·exact ⟨by decide,by decide,by decide,by decide,.inl rfl,by decide⟩
end Go.Proofs.YtgjoehgomjgckaaGreatDoor
end
section
set_option linter.unusedVariables false
set_option linter.unusedSimpArgs false
namespace Go.Proofs.YtgjoehgomjgckaaGreatDoor
open Go Go.Ev
set_option maxRecDepth 20000
set_option linter.unusedVariables false
def wid (s:pG):Nat:=if s.eta=2 then 3 else 4
end Go.Proofs.YtgjoehgomjgckaaGreatDoor
end
section
set_option linter.unusedVariables false
set_option linter.unusedSimpArgs false
namespace Go.Proofs.YtgjoehgomjgckaaGreatDoor
open Go Go.Ev
set_option maxRecDepth 20000
set_option linter.unusedVariables false
def Below (b:Int) (fs:List (List Int)):Prop:=∀ f∈fs,f.length=256∧∀ x∈f,0≤x∧x<b
structure anG (s:pG):Prop where
 g2:GG (s.g2:Int)
 g1:s.g1=131072∨s.g1=524288
 omega:s.omega≤80
 beta:s.beta≤196
theorem anH {set:Int} (h:isSet set=true):anG (dO set):=by
 unfold isSet at h
 simp only [Bool.or_eq_true,decide_eq_true_eq] at h
 rcases h with rfl | rfl | rfl
 ·exact ⟨.inl rfl,.inl rfl,by decide,by decide⟩
 ·exact ⟨.inr rfl,.inr rfl,by decide,by decide⟩
 ·exact ⟨.inr rfl,.inr rfl,by decide,by decide⟩
def al9 (f:List Int) (n:Nat):List B8:=(List.range n).flatMap fun j=>if f.getD j 0=1 then [BitVec.ofNat 8 j] else []
def plc (fs:List (List Int)) (n:Nat):List B8:=(List.range n).flatMap fun j=>al9 (fs.getD j []) 256
def anI (s:pG) (fs:List (List Int)):Int:=if (plc fs fs.length).length≤s.omega then 0 else 5
end Go.Proofs.YtgjoehgomjgckaaGreatDoor
end
section
set_option linter.unusedVariables false
set_option linter.unusedSimpArgs false
namespace Go.Proofs.YtgjoehgomjgckaaGreatDoor
open Go Go.Ev
set_option maxRecDepth 20000
set_option linter.unusedVariables false
def aop (g:Int) (m:Int) (f:List Int):Int:=f.foldl (fun m v=>max (max m (aav g v)) (0 - aav g v)) m
def aoq (g:Int) (X:List (List Int)):Int:=X.foldl (aop g) 0
def Ju (s:pG) (Z X T H:List (List Int)):Bool:=decide (ZU Z<(s.g1:Int) - s.beta) && (decide (aoq s.g2 X<(s.g2:Int) - s.beta) && (decide (ZU T<(s.g2:Int)) && decide (anI s H=0)))
end Go.Proofs.YtgjoehgomjgckaaGreatDoor
end
section
set_option linter.unusedVariables false
set_option linter.unusedSimpArgs false
namespace Go.Proofs.YtgjoehgomjgckaaGreatDoor
open Go Go.Ev
set_option maxRecDepth 20000
set_option linter.unusedVariables false
theorem aj8 {set:Int} (cG:isSet set=true):32+320 * (dO set).k=jD set∧128+32 * (((dO set).k+(dO set).l) * wid (dO set)+13 * (dO set).k)=CH set∧(dO set).c+32 * (dO set).l * tw (dO set)+(dO set).omega+(dO set).k=CI set:=by
 unfold isSet at cG
 simp only [Bool.or_eq_true,decide_eq_true_eq] at cG
 rcases cG with rfl | rfl | rfl <;> decide
theorem afy (set:Int) (cG:isSet set=true) (w:World):Ok Pr ML [.int .i64 set] w fun v w'=>v=.tuple ⟨[.int .i64 (jD set),.int .i64 (CH set),.int .i64 (CI set)]⟩∧Mod [] w w':=by
 refine adH ?_
 unfold MY
 rw [WK]
 obtain ⟨e1,e2,e3⟩:=aj8 cG
 have hG:=anF cG
 have hX:=anH cG
 have hg1:=alM cG
 refine aB (ahi set w) ?_
 rintro _ w1 ⟨rfl,m1⟩
 rw [cG]
 generalize dO set=s at *
 have hk8:=hG.k
 have hl7:=hG.l
 have hc:=hG.c
 have hom:=hX.omega
 have hwi:(if s.eta=2 then (3:Int) else 4)=((wid s:Nat):Int):=by unfold wid; split <;> rfl
 have TW:wid s≤4:=by unfold wid; split <;> omega
 have aor:tw s≤20:=by unfold tw; split <;> omega
 refine ⟨_,rfl,akT ⟨_,rfl,rfl,((ak.start w).frame m1).nw fun p w2 H _=>H.qo 0 rfl rfl fun w3 H=>ite_false rfl (H.oU 0 rfl (aB (afX hg1 _) ?_))⟩⟩
 rintro _ w4 ⟨rfl,m4⟩
 have H:=(H.frame m4).drew
 rw [hwi]
 have h1:((s.k:Int)+(s.l:Int)) * ((wid s:Nat):Int)=(((s.k+s.l) * wid s:Nat):Int):=by push_cast; rfl
 have h2:(32:Int) * (s.l:Int) * ((tw s:Nat):Int)=((32 * s.l * tw s:Nat):Int):=by push_cast; rfl
 have b1:(s.k+s.l) * wid s≤15 * 4:=Nat.mul_le_mul (by omega) TW
 have b2:32 * s.l * tw s≤224 * 20:=Nat.mul_le_mul (by omega) aor
 generalize (s.k+s.l) * wid s=A at *
 generalize 32 * s.l * tw s=B at *
 refine ⟨_,rfl,_,rfl,_,rfl,rfl,H.an 0 rfl (au p 0) rfl ⟨⟨by omega,by omega⟩,⟨by omega,by omega⟩,H.an 0 rfl (au p 0) rfl (H.an 0 rfl (au p 1) rfl ⟨⟨by omega,by omega⟩,⟨by omega,by omega⟩,H.an 0 rfl (au p 0) rfl ⟨⟨by omega,by omega⟩,⟨by omega,by omega⟩,⟨by omega,by omega⟩,⟨by omega,by omega⟩,H.an 0 rfl (au p 8) rfl (H.an 0 rfl (au p 1) rfl ⟨⟨by omega,by omega⟩,⟨by omega,by omega⟩,⟨by omega,by omega⟩,H.an 0 rfl (au p 5) rfl ⟨⟨by omega,by omega⟩,H.an 0 rfl (au p 0) rfl ⟨⟨by omega,by omega⟩,?_,H.mod⟩⟩⟩)⟩⟩)⟩⟩
 rw [h1,h2,← e1,← e2,← e3]
 push_cast
 rfl
end Go.Proofs.YtgjoehgomjgckaaGreatDoor
end
section
set_option linter.unusedVariables false
set_option linter.unusedSimpArgs false
namespace Go.Proofs.YtgjoehgomjgckaaGreatDoor
open Go Go.Ev
set_option maxRecDepth 20000
set_option linter.unusedVariables false
theorem aeO (s:dY) (t:aS) (hs:t.small) (w:World) (hx:gL w s t):Ok Pr Mn [.agg ⟨t.cs s⟩] w fun v w'=>v=.bool (aP 1 6 (t.aG.length:Int) && lY t t.aG.length)∧Mod [] w w':=by
 refine adu ?_
 unfold MC
 rw [YF]
 have vX:=hx.ten.len
 have qT:=hx.aG.len
 have x6:=hs.aG
 refine (ak.start w).nw fun p w1 H _=>?_
 have H:ak w [] w1 [.av p (t.cs s) aN]:=H
 refine aB (afy 1 rfl w1) ?_
 rintro _ w3 ⟨rfl,m3⟩
 have H:=H.frame m3
 refine ⟨_,rfl,_,rfl,_,rfl,_,rfl,rfl,?_⟩
 by_cases h6:t.aG.length≤6
 case neg=>
  refine yV (fun x w'=>ak w [] w' [.av p (t.cs s) aN]) (fun _ _=>0) H ?_
  intro again i w4 H aM
  refine H.ax 0 rfl (au p 3) rfl (H.ax 0 rfl (au p 3) rfl (ite_false ?_ (H.ax 0 rfl (au p 3) rfl (H.ax 0 rfl (au p 3) rfl ⟨?_,H.mod⟩))))
  ·rw [show decide ((s.aG.n:Int)≤6)=false from decide_eq_false (by omega),Bool.and_false]
  ·have e:aP 1 6 (t.aG.length:Int)=false:=by unfold aP; rw [show decide ((t.aG.length:Int)≤6)=false from decide_eq_false (by omega),Bool.and_false]
   rw [e,show decide ((s.aG.n:Int)≤6)=false from decide_eq_false (by omega),Bool.and_false]; rfl
 have CR:decide ((s.aG.n:Int)≤6)=true:=decide_eq_true (by omega)
 refine dw 0 t.aG.length (fun i w'=>lY t i=true∧ak w [] w' [.av p (t.cs s) aN]) rfl (by omega) ⟨rfl,H⟩ ?_ ?_
 ·rintro again i w4 _ hi ⟨dU,H⟩ aM
  obtain ⟨dm,x,uq,hc⟩:=(hx.aG.aE H.mod).at hi
  have hS:lY t (i+1)=(lY t i && pL t i (t.aG.getD i fz)):=rfl
  have hN:=Rx (t:=t) (i:=i)
  have nn:∀ {w2:World},Mod [] w w2→pL t i (t.aG.getD i fz)=false→(fun v w'=>v=Value.bool (aP 1 6 (t.aG.length:Int) && lY t t.aG.length)∧Mod [] w w') (.bool false) w2:=fun m h=>⟨by rw [hN h _ hi,Bool.and_false],m⟩
  have bM:=uq.len
  have hP:pL t i (t.aG.getD i fz)=(decide ((t.aG.getD i fz).id=(i:Int)+1) && (aP 1 (t.bY.length:Int) (t.aG.getD i fz).ten && (decide ((t.aG.getD i fz).key.length=jD 1) && fO (t.aG.getD i fz).high (t.aG.getD i fz).used))):=rfl
  generalize t.aG.getD i fz=q at *
  refine H.ax 0 rfl (au p 3) rfl (H.ax 0 rfl (au p 3) rfl (ite_true (by rw [CR,Bool.and_true]; exact decide_eq_true (by omega)) (H.ax 0 rfl (au p 3) rfl ⟨dm,UE hc (H.nw fun p1 w5 D _=>D.AK 1 rfl rfl fun w6 D=>?_)⟩)))
  have D:ak w [] w6 [.av p (t.cs s) aN,.av p1 (q.cs x) fR]:=D
  refine D.an 1 rfl (au p1 0) rfl ⟨⟨by omega,by omega⟩,D.ax 0 rfl (au p 2) rfl (D.an 1 rfl (au p1 1) rfl ?_)⟩
  by_cases e1:q.id=(i:Int)+1
  case neg=>
   refine ite_true (by rw [decide_eq_false e1]; rfl) (D.ax 1 rfl (au p1 2) rfl (D.an 1 rfl (au p1 3) rfl (D.an 1 rfl (au p1 4) rfl (nn D.mod ?_))))
   rw [hP,decide_eq_false e1]; rfl
  refine ite_false (by rw [decide_eq_true e1]; rfl) (aB (U3 s.ten t.bY q.ten w6 (hx.ten.aE D.mod)) ?_)
  rintro _ w7 ⟨rfl,sI⟩
  subst sI
  refine bk (D.ax 1 rfl (au p1 2) rfl (D.an 1 rfl (au p1 3) rfl (D.an 1 rfl (au p1 4) rfl ?_)))
  have e3:(decide ((x.n:Int)=(jD 1:Int)))=decide (q.key.length=jD 1):=by
   by_cases h:q.key.length=jD 1
   ·rw [decide_eq_true h]; exact decide_eq_true (by omega)
   ·rw [decide_eq_false h]; exact decide_eq_false (by omega)
  rw [e3]
  rw [decide_eq_true e1,Bool.true_and] at hP
  cases c1:aP 1 (t.bY.length:Int) q.ten with
  | false=>exact ite_true rfl (nn D.mod (by rw [hP,c1]; rfl))
  | true=>
   rw [c1,Bool.true_and] at hP
   cases c2:decide (q.key.length=jD 1) with
   | false=>exact ite_true rfl (nn D.mod (by rw [hP,c2]; rfl))
   | true=>
    rw [c2,Bool.true_and] at hP
    refine ite_false rfl (aB (ag1 _ _ _) ?_)
    rintro _ w8 ⟨rfl,F4⟩
    subst F4
    refine bk ?_
    cases c3:fO q.high q.used with
    | false=>exact ite_true rfl (nn D.mod (by rw [hP,c3]))
    | true=>exact ite_false rfl ⟨⟨by omega,by omega⟩,aM _ ⟨by rw [hS,dU,hP,c3]; rfl,D.front (L:=[_])⟩⟩
 ·rintro again w4 ⟨TU,H⟩
  refine H.ax 0 rfl (au p 3) rfl (H.ax 0 rfl (au p 3) rfl (ite_false (by rw [CR,Bool.and_true]; exact decide_eq_false (by omega)) (H.ax 0 rfl (au p 3) rfl (H.ax 0 rfl (au p 3) rfl ⟨?_,H.mod⟩))))
  rw [TU,Bool.and_true,qT]; rfl
theorem agv (s:dY) (t:aS) (hs:t.small) (w:World) (hx:gL w s t):Ok Pr NC [.agg ⟨t.cs s⟩] w fun v w'=>v=.bool (decide (t.keys.length≤6) && lZ t t.keys.length)∧Mod [] w w':=by
 refine aeF ?_
 unfold Ol
 rw [o5]
 have uo:=hx.key.len
 have vY:=hs.key
 refine (ak.start w).nw fun p w1 H _=>?_
 have H:ak w [] w1 [.av p (t.cs s) aN]:=H
 by_cases h6:t.keys.length≤6
 case neg=>
  refine yV (fun x w'=>ak w [] w' [.av p (t.cs s) aN]) (fun _ _=>0) H ?_
  intro again i w4 H aM
  refine H.ax 0 rfl (au p 4) rfl (H.ax 0 rfl (au p 4) rfl (ite_false ?_ (H.ax 0 rfl (au p 4) rfl ⟨?_,H.mod⟩)))
  ·rw [show decide ((s.key.n:Int)≤6)=false from decide_eq_false (by omega),Bool.and_false]
  ·rw [decide_eq_false h6,show decide ((s.key.n:Int)≤6)=false from decide_eq_false (by omega)]; rfl
 have CR:decide ((s.key.n:Int)≤6)=true:=decide_eq_true (by omega)
 refine dw 0 t.keys.length (fun i w'=>lZ t i=true∧ak w [] w' [.av p (t.cs s) aN]) rfl (by omega) ⟨rfl,H⟩ ?_ ?_
 ·rintro again i w4 _ hi ⟨dU,H⟩ aM
  obtain ⟨dm,x,uq,hc⟩:=hx.key.at hi
  have hS:lZ t (i+1)=(lZ t i && kC t i (t.keys.getD i kz)):=rfl
  have hN:=Ry (t:=t) (i:=i)
  have nn:∀ {w2:World},Mod [] w w2→kC t i (t.keys.getD i kz)=false→(fun v w'=>v=Value.bool (decide (t.keys.length≤6) && lZ t t.keys.length)∧Mod [] w w') (.bool false) w2:=fun m h=>⟨by rw [hN h _ hi,Bool.and_false],m⟩
  have vG:=wT hs hi
  have hP:kC t i (t.keys.getD i kz)=(decide ((t.keys.getD i kz).id=(i:Int)+1) && (aP 1 (t.bY.length:Int) (t.keys.getD i kz).ten && cS (t.keys.getD i kz))):=rfl
  generalize t.keys.getD i kz=q at *
  refine H.ax 0 rfl (au p 4) rfl (H.ax 0 rfl (au p 4) rfl (ite_true (by rw [CR,Bool.and_true]; exact decide_eq_true (by omega)) (H.ax 0 rfl (au p 4) rfl ⟨dm,qn (fun j v h=>H.mod.o8 (hc j v h)) (H.nw fun p1 w5 D _=>D.cD 1 rfl rfl fun w6 D=>?_)⟩)))
  have D:ak w [] w6 [.av p (t.cs s) aN,.av p1 (dF q.id q.ten q.set x) aZ]:=D
  refine D.an 1 rfl (au p1 0) rfl ⟨⟨by omega,by omega⟩,D.bu 1 rfl ?_⟩
  by_cases e1:q.id=(i:Int)+1
  case neg=>
   refine ite_true (by rw [decide_eq_false e1]; rfl) (D.ax 0 rfl (au p 2) rfl (D.an 1 rfl (au p1 1) rfl (nn D.mod ?_)))
   rw [hP,decide_eq_false e1]; rfl
  refine ite_false (by rw [decide_eq_true e1]; rfl) (aB (ag3 q x (by omega) _ (uq.aE D.mod)) ?_)
  rintro _ w7 ⟨rfl,m7⟩
  have D:=D.frame m7
  refine bk (D.ax 0 rfl (au p 2) rfl (D.an 1 rfl (au p1 1) rfl ?_))
  rw [decide_eq_true e1,Bool.true_and] at hP
  cases c3:cS q with
  | false=>exact ite_true rfl (nn D.mod (by rw [hP,c3,Bool.and_false]))
  | true=>
   rw [c3,Bool.and_true] at hP
   refine ite_false rfl (aB (U3 s.ten t.bY q.ten _ (hx.ten.aE D.mod)) ?_)
   rintro _ w8 ⟨rfl,F4⟩
   subst F4
   refine bk ?_
   cases c1:aP 1 (t.bY.length:Int) q.ten with
   | false=>exact ite_true rfl (nn D.mod (by rw [hP,c1]))
   | true=>exact ite_false rfl ⟨⟨by omega,by omega⟩,aM _ ⟨by rw [hS,dU,hP,c1]; rfl,D.front (L:=[_])⟩⟩
 ·rintro again w4 ⟨TV,H⟩
  refine H.ax 0 rfl (au p 4) rfl (H.ax 0 rfl (au p 4) rfl (ite_false (by rw [CR,Bool.and_true]; exact decide_eq_false (by omega)) (H.ax 0 rfl (au p 4) rfl ⟨?_,H.mod⟩)))
  rw [TV,Bool.and_true,CR,decide_eq_true h6]
theorem ag4 (s:dY) (t:aS) (hs:t.small) (w:World) (hx:gL w s t):Ok Pr OA [.agg ⟨t.cs s⟩] w fun v w'=>v=.bool (fC t)∧Mod [] w w':=by
 refine afm ?_
 unfold Pe
 have TT:=hx.sec.len
 have vX:=hx.ten.len
 have qT:=hx.aG.len
 have uo:=hx.key.len
 have J9:=hx.gr.len
 have x5:=hs.ten
 have x6:=hs.aG
 have vY:=hs.key
 have Az:=hs.gr
 refine (ak.start w).nw fun p w1 H _=>?_
 have H:ak w [] w1 [.av p (t.cs s) aN]:=H
 have no:∀ {w2:World},Mod [] w w2→fC t=false→(fun v w'=>v=Value.bool (fC t)∧Mod [] w w') (.bool false) w2:=fun m h=>⟨by rw [h],m⟩
 have eT:fC t=(aP 0 1099511627776 t.clock && (decide (t.bS.length=32) && (decide (1≤t.bY.length) && (gJ t.bY && (aP 1 6 (t.aG.length:Int) && (decide (t.keys.length≤6) && gp t.bz))))) && (lY t t.aG.length && (lZ t t.keys.length && !t.bz.any (pM t)))):=rfl
 refine ku fun go bZ=>?_
 have S3:∀ w2,Mod [] w1 w2→(fC t=!t.bz.any (pM t))→go w2:=by
  intro w2 m2 hp
  refine bZ w2 ?_
  have H:=H.frame m2
  refine dw 0 t.bz.length (fun i w'=>(t.bz.take i).any (pM t)=false∧ak w [] w' [.av p (t.cs s) aN]) rfl (by omega) ⟨rfl,H⟩ ?_ ?_
  ·rintro again i w3 _ hi ⟨dU,H⟩ aM
   have hS:=AN (pM t) t.bz i hi gz
   have hT:pM t (t.bz.getD i gz)=true→fC t=false:=fun h=>by rw [hp,AO (pM t) t.bz i hi gz h]; rfl
   have D:=H.drew
   have hg:=hx.gr.aE D.mod
   have hb:pM t (t.bz.getD i gz)=(decide ((t.keys.length:Int)<(t.bz.getD i gz).n1) || decide ((t.aG.length:Int)<(t.bz.getD i gz).n2)):=rfl
   have dm:s.gr.a.isSome=true∧(0:Int)≤(i:Int)∧(i:Int)<(s.gr.n:Int):=⟨hg.pre (by omega),by omega,by omega⟩
   have nt:∀ (j:Nat) (v:Value),(t.bz.getD i gz).cells[j]? = some v→w3.drew.cell? (Addr.add (Addr.add (base s.gr.a) (Int.toNat (i:Int) * 6)) j)=some v:=fun j v hv=>by
    rw [Int.toNat_natCast]; exact gR.cell hg hi hv
   generalize t.bz.getD i gz=g at *
   refine H.ax 0 rfl (au p 5) rfl (ite_true (decide_eq_true (by omega)) (D.ax 0 rfl (au p 5) rfl ⟨dm,_,nt 1 _ rfl,D.ax 0 rfl (au p 4) rfl (D.ax 0 rfl (au p 5) rfl ?_)⟩))
   show aA (decide ((s.key.n:Int)<g.n1)) _ _
   rw [← uo]
   cases c1:decide ((t.keys.length:Int)<g.n1) with
   | true=>exact ite_true rfl (no D.mod (hT (by rw [hb,c1]; rfl)))
   | false=>
    refine ite_false rfl ⟨dm,_,nt 2 _ rfl,D.ax 0 rfl (au p 3) rfl ?_⟩
    show aA (decide ((s.aG.n:Int)<g.n2)) _ _
    rw [← qT]
    cases c2:decide ((t.aG.length:Int)<g.n2) with
    | true=>exact ite_true rfl (no D.mod (hT (by rw [hb,c2,Bool.or_true])))
    | false=>exact ite_false rfl ⟨⟨by omega,by omega⟩,aM _ ⟨by rw [hS,dU,hb,c1,c2]; rfl,D⟩⟩
  ·rintro again w3 ⟨dU,H⟩
   rw [List.take_of_length_le (Nat.le_refl _)] at dU
   exact H.ax 0 rfl (au p 5) rfl (ite_false (decide_eq_false (by omega)) ⟨by rw [hp,dU]; rfl,H.mod⟩)
 refine H.an 0 rfl (au p 0) rfl (H.an 0 rfl (au p 0) rfl (H.ax 0 rfl (au p 1) rfl (H.ax 0 rfl (au p 2) rfl (H.ax 0 rfl (au p 2) rfl ?_))))
 by_cases hf:(0≤t.clock∧t.clock≤1099511627776)∧t.bS.length=32∧1≤t.bY.length
 case neg=>
  refine ite_true ?_ (H.bN 0 rfl (H.bN 0 rfl (H.ax 0 rfl (au p 5) rfl (no H.mod ?_))))
  ·simp only [Bool.or_eq_true,decide_eq_true_eq,Bool.not_eq_true',decide_eq_false_iff_not]; omega
  ·refine Bool.eq_false_iff.2 fun h=>hf ?_
   rw [eT] at h
   simp only [Bool.and_eq_true,decide_eq_true_eq,aP] at h
   exact ⟨h.1.1,h.1.2.1,h.1.2.2.1⟩
 refine ite_false ?_ ?_
 ·simp only [Bool.or_eq_false_iff,decide_eq_false_iff_not,Bool.not_eq_false',decide_eq_true_eq]; omega
 have e0:aP 0 1099511627776 t.clock=true:=by unfold aP; rw [decide_eq_true hf.1.1,decide_eq_true hf.1.2]; rfl
 rw [e0,decide_eq_true hf.2.1,decide_eq_true hf.2.2,Bool.true_and,Bool.true_and,Bool.true_and] at eT
 refine aB (ag2 s.ten t.bY (by omega) _ (hx.ten.aE H.mod)) ?_
 rintro _ w3 ⟨rfl,m3⟩
 have H3:=H.frame m3
 refine bk (H3.bN 0 rfl ?_)
 cases c4:gJ t.bY with
 | false=>exact ite_true rfl (H3.bN 0 rfl (H3.ax 0 rfl (au p 5) rfl (no H3.mod (by rw [eT,c4]; rfl))))
 | true=>
 rw [c4,Bool.true_and] at eT
 refine ite_false rfl (aB (aeO s t hs _ (hx.aE H3.mod)) ?_)
 rintro _ w4 ⟨rfl,m4⟩
 have H4:=H3.frame m4
 refine bk (H4.bN 0 rfl ?_)
 cases c5:(aP 1 6 (t.aG.length:Int) && lY t t.aG.length) with
 | false=>
  refine ite_true rfl (H4.ax 0 rfl (au p 5) rfl (no H4.mod ?_))
  rw [eT]
  rcases Bool.and_eq_false_iff.1 c5 with h | h <;> rw [h] <;> simp
 | true=>
 rw [Bool.and_eq_true] at c5
 rw [c5.1,c5.2,Bool.true_and,Bool.true_and] at eT
 refine ite_false rfl (aB (agv s t hs _ (hx.aE H4.mod)) ?_)
 rintro _ w5 ⟨rfl,m5⟩
 have H5:=H4.frame m5
 refine bk (H5.ax 0 rfl (au p 5) rfl ?_)
 cases c6:(decide (t.keys.length≤6) && lZ t t.keys.length) with
 | false=>
  refine ite_true rfl (no H5.mod ?_)
  rw [eT]
  rcases Bool.and_eq_false_iff.1 c6 with h | h <;> rw [h] <;> simp
 | true=>
 rw [Bool.and_eq_true] at c6
 rw [c6.1,c6.2,Bool.true_and,Bool.true_and] at eT
 refine ite_false rfl (aB (agW s.gr t.bz hs.gf (by omega) _ (hx.gr.aE H5.mod)) ?_)
 rintro _ w6 ⟨rfl,m6⟩
 refine bk ?_
 cases c7:gp t.bz with
 | false=>exact ite_true rfl (no (H5.mod.trans m6) (by rw [eT,c7]; rfl))
 | true=>exact ite_false rfl (S3 _ (((m3.trans m4).trans m5).trans m6) (by rw [eT,c7]; rfl))
end Go.Proofs.YtgjoehgomjgckaaGreatDoor
end
section
set_option linter.unusedVariables false
set_option linter.unusedSimpArgs false
namespace Go.Ev
open Go Go.RowKit
set_option linter.unusedVariables false
theorem ak.dh {w0 w:World} {S:List Nat} {L L':List aD} (H:ak w0 S w L) (idx:List Nat) (hn:idx.Nodup) (h:idx.map (fun i=>L[i]?)=L'.map some):ak w0 S w L':=by
 have hl:idx.length=L'.length:=by have:=congrArg List.length h; simpa using this
 have key:∀ (k:Nat) (r:aD),L'[k]? = some r→∃ i,idx[k]? = some i∧L[i]? = some r:=fun k r hk=>by
  have fG:k<idx.length:=by rw [hl]; exact (List.getElem?_eq_some_iff.1 hk).1
  refine ⟨idx[k],List.getElem?_eq_getElem fG,?_⟩
  have:=congrArg (·[k]?) h
  simp only [List.getElem?_map,List.getElem?_eq_getElem fG,hk,Option.map_some] at this
  exact Option.some.inj this
 refine ⟨H.mod,fun k r hk=>?_,fun k r hk=>?_,fun j k r s k9 hj hk=>?_⟩
 ·obtain ⟨i,_,hi⟩:=key k r hk
  exact H.ok i r hi
 ·obtain ⟨i,_,hi⟩:=key k r hk
  exact H.own i r hi
 ·obtain ⟨i,hi1,hi⟩:=key j r hj
  obtain ⟨i',aos,Al⟩:=key k s hk
  refine H.apart i i' r s (fun e=>k9 ?_) hi Al
  subst e
  exact (List.getElem?_inj (List.getElem?_eq_some_iff.1 hi1).1 hn).1 (hi1.trans aos.symm)
theorem ak.ama {w0 w:World} {S:List Nat} {L:List aD} {te:TypeId} {sz:Nat} {y:ah} {vs:List Value} {fq:List Nat} {Q:World→Prop} (H:ak w0 S w (L ++ [.row te sz y vs,.box fq Q])):∃ fp,ak w0 S w (L ++ [.box fp fun w=>Own w 0 te sz y vs∧Q w]):=by
 have H2:=H.merge L.length (L.length+1) (t:=.box (y.row ++ fq) fun w=>Own w 0 te sz y vs∧Q w) zH SN (by omega) (fun h1 h2=>?_) (fun b hb=>List.mem_append.1 hb)
 ·refine ⟨y.row ++ fq,?_⟩
  have e:((L ++ [aD.row te sz y vs,aD.box fq Q]).set (L.length+1) aD.no).set L.length (.box (y.row ++ fq) fun w=>Own w 0 te sz y vs∧Q w)=(L ++ [.box (y.row ++ fq) fun w=>Own w 0 te sz y vs∧Q w]) ++ [aD.no]:=by
   rw [List.set_append_right _ _ (by omega),Nat.add_sub_cancel_left,List.set_append_right _ _ (Nat.le_refl _),Nat.sub_self,List.append_assoc]; rfl
  rw [e] at H2
  exact H2.front
 ·refine ⟨fun b hb=>?_,fun w2 h3=>⟨?_,h2.2 w2 fun b hb=>h3 b (List.mem_append_right _ hb)⟩⟩
  ·rcases List.mem_append.1 hb with h | h
   ·exact (Own.D7 h1 b h).2
   ·exact h2.1 b h
  ·exact (aD.row te sz y vs).kD w w2 (fun b hb=>h3 b (List.mem_append_left _ hb)) h1
section
variable {A:Type} {C:A→ah→List Value} {sz:Nat} {E:World→ah→A→Prop} {te:TypeId} {w0 w w':World} {S:List Nat} {L M:List aD} {s:ah} {ls:List A} {xs ys:List ah} {i:Nat}
theorem AX {A:Type} {l:List A} {i:Nat} {a:A} (h:l[i]? = some a):l.set i a=l:=by
 refine List.ext_getElem? fun k=>?_
 rw [List.getElem?_set]
 by_cases e:i=k
 ·subst e; rw [if_pos rfl,if_pos (List.getElem?_eq_some_iff.1 h).1,h]
 ·rw [if_neg e]
theorem ak.anJ (H:ak w0 S w (L ++ .row te sz s (bA C ls (ys ++ xs.drop i)) :: M)) (hC:∀ a x,(C a x).length=sz) (hy:ys.length=i) (hx:xs.length=ls.length) {a:A} {x z:ah} (ha:ls[i]? = some a) (dB:xs[i]? = some x) {j:Nat} (hj:j<sz) (hz:C a z=(C a x).set j z.v) {K:World→Prop}
  (hk:∀ w2,ak w0 S w2 (L ++ .row te sz s (bA C ls (ys ++ z :: xs.drop (i+1))) :: M)→K w2):Ev.st (Addr.add (Addr.add (base s.a) (Int.toNat (i:Int) * sz)) j) (.slice z.a z.n z.c) w K:=by
 have hi:=(List.getElem?_eq_some_iff.1 ha).1
 have FJ:(ys ++ xs.drop i).length=ls.length:=by rw [List.length_append,List.length_drop]; omega
 have SO:(ys ++ xs.drop i)[i]? = some x:=by rw [List.getElem?_append_right (by omega),hy,Nat.sub_self,List.getElem?_drop,Nat.add_zero]; exact dB
 have qF:(ys ++ xs.drop i).set i z=ys ++ z :: xs.drop (i+1):=by
  rw [List.set_append_right _ _ (by omega),hy,Nat.sub_self,List.drop_eq_getElem_cons (by omega),List.set_cons_zero]
 refine H.qz L.length (i:=i * sz+j) (v:=z.v) zH (by rw [add_add,Int.toNat_natCast]) ?_ rfl fun w2 H4=>hk w2 ?_
 ·rw [iO hC _ _ FJ]
  have:=Nat.mul_le_mul_right sz (show i+1≤ls.length from hi)
  rw [Nat.succ_mul] at this
  omega
 ·rw [List.set_append_right _ _ (Nat.le_refl _),Nat.sub_self,List.set_cons_zero,s4 hC ls (ys ++ xs.drop i) i j a a x z z.v ha SO hj hz,qF,AX ha] at H4
  exact H4
theorem gh.close (hy:ys.length=i) {a:A} {z:ah} (ha:ls[i]? = some a) {fp dZ:List Nat} (H:ak w0 S w (L ++ [.row te sz s (bA C ls (ys ++ z :: xs.drop (i+1))),.box fp fun w=>bB E w ys (ls.take i),.box dZ fun w=>E w z a])):gh C sz E te w0 S L w s ls xs (i+1):=by
 have Tt:ls.take (i+1)=ls.take i ++ [a]:=by rw [List.take_add_one,ha]; rfl
 have H2:=H.merge (L.length+1) (L.length+2) (t:=.box (fp ++ dZ) fun w=>bB E w (ys ++ [z]) (ls.take (i+1))) SN aan (by omega) (fun h1 h2=>?_) (fun b hb=>List.mem_append.1 hb)
 ·have e:(((L ++ [aD.row te sz s (bA C ls (ys ++ z :: xs.drop (i+1))),aD.box fp fun w=>bB E w ys (ls.take i),aD.box dZ fun w=>E w z a]).set (L.length+2) aD.no).set (L.length+1) (aD.box (fp ++ dZ) fun w=>bB E w (ys ++ [z]) (ls.take (i+1)))) =
    (L ++ [aD.row te sz s (bA C ls (ys ++ z :: xs.drop (i+1))),aD.box (fp ++ dZ) fun w=>bB E w (ys ++ [z]) (ls.take (i+1))]) ++ [aD.no]:=by
   rw [List.set_append_right _ _ (by omega),Nat.add_sub_cancel_left,List.set_append_right _ _ (by omega),Nat.add_sub_cancel_left,List.append_assoc]
   rfl
  rw [e] at H2
  refine ⟨ys ++ [z],fp ++ dZ,by simp [hy],?_⟩
  have H3:=H2.front
  rw [show ys ++ z :: xs.drop (i+1)=(ys ++ [z]) ++ xs.drop (i+1) by simp] at H3
  exact H3
 ·refine ⟨fun b hb=>?_,fun w2 h3=>?_⟩
  ·rcases List.mem_append.1 hb with h | h
   ·exact h1.1 b h
   ·exact h2.1 b h
  ·rw [Tt]
   exact bB.snoc (h1.2 w2 fun b hb=>h3 b (List.mem_append_left _ hb)) (h2.2 w2 fun b hb=>h3 b (List.mem_append_right _ hb))
end
end Go.Ev
end
section
set_option linter.unusedVariables false
set_option linter.unusedSimpArgs false
namespace Go.Proofs.YtgjoehgomjgckaaGreatDoor
open Go Go.Ev
set_option maxRecDepth 20000
set_option linter.unusedVariables false
def j8 (w:World) (x:ah) (p:cB):Prop:=Own w 0 bh 1 x (bp p.key)
def iD (w:World) (x:ah) (k:aV):Prop:=j3 w x k.aH
def iT (s:dY) (t:aS) (ys zs:List ah) (fp fq:List Nat):List aD:=
 [.row bh 1 s.sec (bp t.bS),.row dV 3 s.ten (iV t.bY),.row cR 6 s.gr (e8 t.bz),.row fR 5 s.aG (bA cB.cs t.aG ys),.box fp fun w=>bB j8 w ys t.aG,.row aZ 4 s.key (bA aV.cs t.keys zs),.box fq fun w=>bB iD w zs t.keys]
theorem XC {w:World} {ys:List ah} {l:List cB} (h:bB j8 w ys l):bB xZ w ys l:=⟨h.1,fun i x v hx hv=>Own.bytes (h.2 i x v hx hv)⟩
theorem XD {w:World} {ys:List ah} {l:List aV} (h:bB iD w ys l):bB Ay w ys l:=⟨h.1,fun i x v hx hv=>(h.2 i x v hx hv).aH⟩
theorem o7 {w0 w:World} {S:List Nat} {L:List aD} {s:dY} {t:aS} {ys zs:List ah} {fp fq:List Nat} (H:ak w0 S w (L ++ iT s t ys zs fp fq)):gL w s t:=by
 have H:=H.drop L.length
 rw [List.drop_left] at H
 exact ⟨Own.bytes (H.qE 0 rfl),fU.of (H.fI 1 rfl),⟨ys,H.fI 3 rfl,XC (H.box 4 rfl)⟩,⟨zs,H.fI 5 rfl,XD (H.box 6 rfl)⟩,H.fI 2 rfl⟩
theorem YG (p:cB) (x z:ah):p.cs z=(p.cs x).set 2 z.v:=rfl
theorem ald (k:aV) (x z:ah):k.cs z=(k.cs x).set 3 z.v:=rfl
theorem Nq (s:dY) (t:aS) (hs:t.small) (w:World) (hx:gL w s t):Ok Pr Dl [.agg ⟨t.cs s⟩] w fun r w'=>∃ s' ys zs fp fq,r=.agg ⟨t.cs s'⟩∧ak w [] w' (iT s' t ys zs fp fq):=by
 refine aeC ?_
 unfold N9
 rw [uH]
 have At:=hs.sec
 have x5:=hs.ten
 have x6:=hs.aG
 have vY:=hs.key
 have Az:=hs.gr
 have FT:=hs.pk
 have TY:=hs.bq
 have iL:=hs.aq
 obtain ⟨h1,h2,⟨xs,h3,nY⟩,⟨us,h4,mM⟩,h5⟩:=hx
 have TT:=h1.len
 refine (ak.start w).nw fun p w1 H _=>H.nw fun p1 w2 H _=>?_
 have H:ak w [] w2 [.av p (t.cs s) aN,.av p1 (kV 0 ⟨none,0,0⟩ ⟨none,0,0⟩ ⟨none,0,0⟩ ⟨none,0,0⟩ ⟨none,0,0⟩) aN]:=H
 have H:=H.drew
 refine H.ax 0 rfl (au p 1) rfl (H.ax 0 rfl (au p 2) rfl (H.ax 0 rfl (au p 3) rfl (H.ax 0 rfl (au p 4) rfl (H.ax 0 rfl (au p 5) rfl (aB (CX s.sec t.bS At _ (h1.aE H.mod)) ?_)))))
 rintro _ w3 ⟨y1,rfl,sy,m3⟩
 have H3:=H.cF m3 sy
 refine bV ⟨H.kept m3 0 rfl (au p 5) 1,H.kept m3 0 rfl (au p 4) 1,H.kept m3 0 rfl (au p 3) 1,H.kept m3 0 rfl (au p 2) 1,aB (Uw s.ten t.bY (by omega) _ (h2.aE H3.mod)) ?_⟩
 rintro _ w4 ⟨y2,rfl,sA,_,m4⟩
 have H4:=H3.cF m4 sA
 refine bV ⟨H3.kept m4 0 rfl (au p 5) 1,H3.kept m4 0 rfl (au p 4) 1,H3.kept m4 0 rfl (au p 3) 1,aB (acJ s.aG t.aG xs nY.1 (by omega) _ (h3.aE H4.mod)) ?_⟩
 rintro _ w5 ⟨y3,rfl,FW,An,m5⟩
 have H5:=H4.cF m5 FW
 refine bV ⟨H4.kept m5 0 rfl (au p 5) 1,H4.kept m5 0 rfl (au p 4) 1,aB (acK s.key t.keys us mM.1 (by omega) _ (h4.aE H5.mod)) ?_⟩
 rintro _ w6 ⟨y4,rfl,TI,FK,m6⟩
 have H6:=H5.cF m6 TI
 refine bV ⟨H5.kept m6 0 rfl (au p 5) 1,aB (GI s.gr t.bz (by omega) _ (h5.aE H6.mod)) ?_⟩
 rintro _ w7 ⟨y5,rfl,FX,hn5,m7⟩
 have H7:=H6.cF m7 FX
 refine bV ?_
 refine H7.st 0 rfl (au p 1) (by show 1<6; omega) rfl fun w8 H8=>H8.st 0 rfl (au p 2) (by show 2<6; omega) rfl fun w9 H9=>H9.st 0 rfl (au p 3) (by show 3<6; omega) rfl fun cJ JM=>JM.st 0 rfl (au p 4) (by show 4<6; omega) rfl fun cY JN=>JN.st 0 rfl (au p 5) (by show 5<6; omega) rfl fun fP JO=>?_
 have H:ak w [] fP [.av p (t.cs ⟨y1,y2,y3,y4,y5⟩) aN,.av p1 (kV 0 ⟨none,0,0⟩ ⟨none,0,0⟩ ⟨none,0,0⟩ ⟨none,0,0⟩ ⟨none,0,0⟩) aN,.row bh 1 y1 (bp t.bS),.row dV 3 y2 (iV t.bY),.row fR 5 y3 (bA cB.cs t.aG xs),.row aZ 4 y4 (bA aV.cs t.keys us),.row cR 6 y5 (e8 t.bz)]:=JO
 have CL:=(H.fI 4 rfl).len
 rw [iO cB.cu _ _ nY.1] at CL
 have Ar:=(H.fI 5 rfl).len
 rw [iO aV.cu _ _ mM.1] at Ar
 have e3:t.aG.length=y3.n:=by omega
 have e4:t.keys.length=y4.n:=by omega
 have H:=H.dh (L':=[.av p (t.cs ⟨y1,y2,y3,y4,y5⟩) aN,.av p1 (kV 0 ⟨none,0,0⟩ ⟨none,0,0⟩ ⟨none,0,0⟩ ⟨none,0,0⟩ ⟨none,0,0⟩) aN,.row bh 1 y1 (bp t.bS),.row dV 3 y2 (iV t.bY),.row cR 6 y5 (e8 t.bz),.row aZ 4 y4 (bA aV.cs t.keys us)] ++ [.row fR 5 y3 (bA cB.cs t.aG xs)]) [0,1,2,3,6,5,4] (by decide) rfl
 refine H.ax 0 rfl (au p 3) rfl ?_
 refine dw 0 t.aG.length (fun i w'=>gh cB.cs 5 j8 fR w [] [.av p (t.cs ⟨y1,y2,y3,y4,y5⟩) aN,.av p1 (kV 0 ⟨none,0,0⟩ ⟨none,0,0⟩ ⟨none,0,0⟩ ⟨none,0,0⟩ ⟨none,0,0⟩) aN,.row bh 1 y1 (bp t.bS),.row dV 3 y2 (iV t.bY),.row cR 6 y5 (e8 t.bz),.row aZ 4 y4 (bA aV.cs t.keys us)] w' y3 t.aG xs i) rfl (by omega) (gh.start H) ?_ ?_
 ·intro again i fE _ hi R aM
  have R:=R.frame (Mod.drew [] fE)
  have ha:t.aG[i]? = some t.aG[i]:=List.getElem?_eq_getElem hi
  have dB:xs[i]? = some (xs[i]'(by rw [nY.1]; exact hi)):=List.getElem?_eq_getElem _
  have iL:=FT _ (List.getElem_mem hi)
  have sF:=nY.2 i _ _ dB ha
  obtain ⟨dm,hc⟩:=R.at cB.cu (by omega) nY.1 ha dB
  generalize t.aG[i]=v at *
  generalize xs[i]'(by rw [nY.1]; exact hi)=z at *
  have F:=R.front
  refine ite_true (decide_eq_true (show (i:Int)<(y3.n:Int) by omega)) (F.ax 0 rfl (au p 3) rfl (F.ax 0 rfl (au p 3) rfl ⟨dm,z,hc 2 z.v rfl,aB (CX z v.key iL _ (Bytes.aE sF F.mod)) ?_⟩))
  rintro _ fQ xQ
  obtain ⟨u,rfl,hu⟩:=xQ.S2
  exact bV ⟨F.kept hu.mod 0 rfl (au p 3) 1,dm,R.step cB.cu nY.1 ha dB (hu:fJ _ _ fun w=>j8 w u v) (by omega:2<5) (YG v z u) fun jT R=>⟨⟨by omega,by omega⟩,aM jT R⟩⟩
 ·intro again fE R
  obtain ⟨ys,fp,H⟩:=R.done rfl nY.1
  have H:=H.dh (L':=[.av p (t.cs ⟨y1,y2,y3,y4,y5⟩) aN,.av p1 (kV 0 ⟨none,0,0⟩ ⟨none,0,0⟩ ⟨none,0,0⟩ ⟨none,0,0⟩ ⟨none,0,0⟩) aN,.row bh 1 y1 (bp t.bS),.row dV 3 y2 (iV t.bY),.row cR 6 y5 (e8 t.bz),.row fR 5 y3 (bA cB.cs t.aG ys),.box fp fun w=>bB j8 w ys t.aG] ++ [.row aZ 4 y4 (bA aV.cs t.keys us)]) [0,1,2,3,4,6,7,5] (by decide) rfl
  refine ite_false (decide_eq_false (by show ¬ ((t.aG.length:Int)<(y3.n:Int)); omega)) (H.ax 0 rfl (au p 4) rfl ?_)
  obtain ⟨L,hL⟩:∃ L,L=[aD.av p (t.cs ⟨y1,y2,y3,y4,y5⟩) aN,.av p1 (kV 0 ⟨none,0,0⟩ ⟨none,0,0⟩ ⟨none,0,0⟩ ⟨none,0,0⟩ ⟨none,0,0⟩) aN,.row bh 1 y1 (bp t.bS),.row dV 3 y2 (iV t.bY),.row cR 6 y5 (e8 t.bz),.row fR 5 y3 (bA cB.cs t.aG ys),.box fp fun w=>bB j8 w ys t.aG]:=⟨_,rfl⟩
  rw [← hL] at H
  have CS:L[0]? = some (.av p (t.cs ⟨y1,y2,y3,y4,y5⟩) aN):=by rw [hL]; rfl
  refine dw 0 t.keys.length (fun i w'=>gh aV.cs 4 iD aZ w [] L w' y4 t.keys us i) rfl (by omega) (gh.start H) ?_ ?_
  ·intro again i l8 _ hi R aM
   have ha:t.keys[i]? = some t.keys[i]:=List.getElem?_eq_getElem hi
   have dB:us[i]? = some (us[i]'(by rw [mM.1]; exact hi)):=List.getElem?_eq_getElem _
   have hv1:=TY _ (List.getElem_mem hi)
   have TZ:=iL _ (List.getElem_mem hi)
   have sF:=mM.2 i _ _ dB ha
   obtain ⟨dm,hc⟩:=R.at aV.cu (by omega) mM.1 ha dB
   generalize t.keys[i]=k at *
   generalize us[i]'(by rw [mM.1]; exact hi)=z at *
   have F:=R.front
   obtain ⟨vs,vB,x7⟩:=sF
   refine ite_true (decide_eq_true (show (i:Int)<(y4.n:Int) by omega)) (F.ax 0 CS (au p 4) rfl ⟨dm,z,hc 3 z.v rfl,aB (Uv z k.aH vs x7.1 (by omega) _ (vB.aE F.mod)) ?_⟩)
   rintro _ xR ⟨u,rfl,hu,FL,TP⟩
   have mD:=(Own.sl hu).len
   rw [iO bn.cu _ _ x7.1] at mD
   have arz:k.aH.length=u.n:=by omega
   obtain ⟨qs,fq,hq,D⟩:=R
   have D:=D.cF TP hu
   rw [List.append_assoc] at D
   refine bV (D.anJ aV.cu hq mM.1 ha dB (by omega:3<4) (ald k z u) fun kH D=>?_)
   have D:ak w [] kH ((L ++ [.row aZ 4 y4 (bA aV.cs t.keys (qs ++ u :: us.drop (i+1))),.box fq fun w=>bB iD w qs (t.keys.take i)]) ++ [.row cI 4 u (bA bn.cs k.aH vs)]):=by rw [List.append_assoc]; exact D
   have hqu:(qs ++ u :: us.drop (i+1))[i]? = some u:=by rw [List.getElem?_append_right (by omega),hq,Nat.sub_self]; rfl
   have cell:∀ {w2:World},ak w [] w2 (L ++ [.row aZ 4 y4 (bA aV.cs t.keys (qs ++ u :: us.drop (i+1))),.box fq fun w=>bB iD w qs (t.keys.take i)])→w2.cell? (Addr.add (Addr.add (base y4.a) (Int.toNat (i:Int) * 4)) 3)=some u.v:=fun G=>by
    rw [Int.toNat_natCast]
    exact (G.fI L.length zH).uO aV.cu ha hqu (j:=3) rfl
   refine ⟨u,cell D.front,?_⟩
   refine dw 0 k.aH.length (fun n w'=>gh bn.cs 4 ir cI w [] (L ++ [.row aZ 4 y4 (bA aV.cs t.keys (qs ++ u :: us.drop (i+1))),.box fq fun w=>bB iD w qs (t.keys.take i)]) w' u k.aH vs n) rfl (by omega) (gh.start D) ?_ ?_
   ·intro El n pZ _ hn R2 EX
    have R2:=R2.frame (Mod.drew [] pZ)
    have hb:k.aH[n]? = some k.aH[n]:=List.getElem?_eq_getElem hn
    have T1:vs[n]? = some (vs[n]'(by rw [x7.1]; exact hn)):=List.getElem?_eq_getElem _
    have At:=TZ _ (List.getElem_mem hn)
    have oM:=x7.2 n _ _ T1 hb
    obtain ⟨I8,hc2⟩:=R2.at bn.cu (by omega) x7.1 hb T1
    generalize k.aH[n]=v at *
    generalize vs[n]'(by rw [x7.1]; exact hn)=x at *
    have F2:=R2.front
    refine ite_true (decide_eq_true (by omega)) ⟨u,cell F2,u,cell F2,I8,x,hc2 3 x.v rfl,aB (CX x v.aq At _ (Bytes.aE oM F2.mod)) ?_⟩
    rintro _ As h20
    obtain ⟨y,rfl,hy⟩:=h20.S2
    exact bV ⟨yT hy.mod (cell F2),I8,R2.step bn.cu x7.1 hb T1 (hy:fJ _ _ fun w=>ir w y v) (by omega:3<4) (Rc v x y) fun F5 R2=>⟨⟨by omega,by omega⟩,EX F5 R2⟩⟩
   ·intro El pZ R2
    obtain ⟨zs,f2,G⟩:=R2.done rfl x7.1
    obtain ⟨f3,G⟩:=G.ama
    have G:=G.Rs (Q':=fun w=>iD w u k) (L ++ [aD.row aZ 4 y4 (bA aV.cs t.keys (qs ++ u :: us.drop (i+1))),.box fq fun w=>bB iD w qs (t.keys.take i)]).length zH fun w h=>⟨zs,h.1,h.2⟩
    rw [List.set_append_right _ _ (Nat.le_refl _),Nat.sub_self,List.set_cons_zero,List.append_assoc] at G
    exact ite_false (decide_eq_false (by omega)) ⟨⟨by omega,by omega⟩,aM _ (gh.close hq ha G)⟩
  ·intro again l8 R
   obtain ⟨zs,fq,H⟩:=R.done rfl mM.1
   subst hL
   refine ite_false (decide_eq_false (show ¬ ((t.keys.length:Int)<(y4.n:Int)) by omega)) (H.bN 0 rfl (H.bI 1 rfl rfl fun xR H=>H.bN 1 rfl ?_))
   exact ⟨⟨y1,y2,y3,y4,y5⟩,ys,zs,fp,fq,rfl,H.drop 2⟩
end Go.Proofs.YtgjoehgomjgckaaGreatDoor
end
section
set_option linter.unusedVariables false
set_option linter.unusedSimpArgs false
namespace Go.Ev
open Go Go.RowKit
set_option linter.unusedVariables false
def ov (vs:List Value) (p:Nat) (l:List Value):List Value:=vs.take p ++ (l ++ vs.drop (p+l.length))
theorem Zz (vs:List Value) (p:Nat):ov vs p []=vs:=by unfold ov; simp
theorem YH (vs:List Value) (p:Nat) (v:Value) (l:List Value) (h:p<vs.length):ov (vs.set p v) (p+1) l=ov vs p (v :: l):=by
 unfold ov
 rw [List.length_cons,List.drop_set_of_lt (by omega),show p+(l.length+1)=p+1+l.length by omega,List.take_set,List.take_add_one,List.getElem?_eq_getElem h,List.set_append_right _ _ (by rw [List.length_take]; omega),List.length_take,Nat.min_eq_left (by omega),Nat.sub_self]
 simp
theorem ak.oZ {w0:World} {S:List Nat} {k:Nat} {e:TypeId} {sz:Nat} {s:ah} {o:Nat} {K:World→Prop}:∀ (l:List Value) {i:Nat} {vs:List Value} {L:List aD} {w:World},ak w0 S w L→L[k]? = some (.row e sz s vs)→o+i+l.length≤vs.length→(∀ v∈l,ek v=true)→
  (∀ w',ak w0 S w' (L.set k (.row e sz s (ov vs (o+i) l)))→K w')→Ev.oZ l (Addr.add (base s.a) o) i w K
 | [],i,vs,L,w,H,hk,hl,h1,h=>by
  refine h w ?_
  rw [Zz,AX hk]
  exact H
 | v :: r,i,vs,L,w,H,hk,hl,h1,h=>by
  rw [List.length_cons] at hl
  refine H.qz k (i:=o+i) hk (by rw [add_add]) (by omega) (h1 v (List.mem_cons_self ..)) fun w1 H1=>?_
  have bM:k<L.length:=(List.getElem?_eq_some_iff.1 hk).1
  refine ak.oZ r H1 (by rw [List.getElem?_set,if_pos rfl,if_pos bM]) (by rw [List.length_set]; omega) (fun u hu=>h1 u (List.mem_cons_of_mem _ hu)) fun w' H'=>h w' ?_
  rw [List.set_set,show o+(i+1)=o+i+1 by omega,YH _ _ _ _ (by omega)] at H'
  exact H'
section
variable {A:Type} {C:A→ah→List Value} {sz:Nat} {te:TypeId} {w0 w:World} {S:List Nat} {L:List aD} {s:ah} {ls:List A} {xs:List ah} {i:Nat}
theorem WS {a:A} {x:ah} (hx:xs.length=ls.length) (ha:ls[i]? = some a) (dB:xs[i]? = some x):bA C ls xs=bA C (ls.take i) (xs.take i) ++ (C a x ++ bA C (ls.drop (i+1)) (xs.drop (i+1))):=by
 have hi:=(List.getElem?_eq_some_iff.1 ha).1
 have h1:=Bl (C:=C) (ls.take i) (xs.take i) (by simp [hx]) (ls.drop i) (xs.drop i)
 rw [List.take_append_drop,List.take_append_drop] at h1
 rw [h1,List.drop_eq_getElem_cons hi,List.drop_eq_getElem_cons (show i<xs.length by omega),rj]
 congr 3
 ·exact Option.some.inj ((List.getElem?_eq_getElem hi).symm.trans ha)
 ·exact Option.some.inj ((List.getElem?_eq_getElem (by omega)).symm.trans dB)
theorem amb (hC:∀ a x,(C a x).length=sz) (hx:xs.length=ls.length) (hi:i<ls.length) (a':A) (x':ah):ov (bA C ls xs) (i * sz) (C a' x')=bA C (ls.set i a') (xs.set i x'):=by
 obtain ⟨a,ha⟩:∃ a,ls[i]? = some a:=⟨_,List.getElem?_eq_getElem hi⟩
 obtain ⟨x,dB⟩:∃ x,xs[i]? = some x:=⟨_,List.getElem?_eq_getElem (by omega)⟩
 have e2:=WS (C:=C) (ls:=ls.set i a') (xs:=xs.set i x') (i:=i) (a:=a') (x:=x') (by simp [hx]) (by rw [List.getElem?_set,if_pos rfl,if_pos hi]) (by rw [List.getElem?_set,if_pos rfl,if_pos (by omega)])
 rw [List.take_set_of_le (Nat.le_refl _),List.take_set_of_le (Nat.le_refl _),List.drop_set_of_lt (by omega),List.drop_set_of_lt (by omega)] at e2
 have hl:(bA C (ls.take i) (xs.take i)).length=i * sz:=by
  rw [iO hC _ _ (by simp [hx]),List.length_take,Nat.min_eq_left (by omega)]
 rw [e2]
 unfold ov
 rw [WS hx ha dB,List.take_append_of_le_length (by omega),List.take_of_length_le (by omega),List.drop_append,List.drop_of_length_le (by omega),List.nil_append,hl,hC,Nat.add_sub_cancel_left,List.drop_append,List.drop_of_length_le (by rw [hC]; omega),hC,Nat.sub_self]
 rfl
theorem ak.putAt (H:ak w0 S w L) (k:Nat) (hk:L[k]? = some (.row te sz s (bA C ls xs))) (hC:∀ a x,(C a x).length=sz) (hx:xs.length=ls.length) (hi:i<ls.length) (a':A) (x':ah) (h1:∀ v∈C a' x',ek v=true) {K:World→Prop}
  (h:∀ w',ak w0 S w' (L.set k (.row te sz s (bA C (ls.set i a') (xs.set i x'))))→K w'):Ev.oZ (C a' x') (Addr.add (base s.a) (Int.toNat (i:Int) * sz)) 0 w K:=by
 rw [Int.toNat_natCast]
 refine ak.oZ (C a' x') H hk ?_ h1 fun w' H'=>h w' ?_
 ·rw [iO hC _ _ hx,hC]
  have:=Nat.mul_le_mul_right sz (show i+1≤ls.length from hi)
  rw [Nat.succ_mul] at this
  omega
 ·rw [Nat.add_zero,amb hC hx hi] at H'
  exact H'
end
end Go.Ev
end
section
set_option linter.unusedVariables false
set_option linter.unusedSimpArgs false
namespace Go.Proofs.YtgjoehgomjgckaaGreatDoor
open Go Go.Ev
set_option maxRecDepth 20000
set_option linter.unusedVariables false
theorem agw (s:dY) (t:aS) (hs:t.small) (w:World) (hx:gL w s t):Ok Pr Nz [.agg ⟨t.cs s⟩] w fun r w'=>∃ s' ys zs fp fq,r=.agg ⟨t.cs s'⟩∧ak w [] w' (iT s' t ys zs fp fq):=by
 refine aeB ?_
 unfold N8
 rw [uH]
 have At:=hs.sec
 have x5:=hs.ten
 have x6:=hs.aG
 have vY:=hs.key
 have Az:=hs.gr
 have FT:=hs.pk
 have TY:=hs.bq
 have iL:=hs.aq
 have CL:=hx.aG.len
 have Ar:=hx.key.len
 obtain ⟨h1,h2,⟨xs,h3,nY⟩,⟨us,h4,mM⟩,h5⟩:=hx
 have TT:=h1.len
 have vX:=(fU.len h2)
 have J9:=gR.len h5
 refine (ak.start w).nw fun p w1 H _=>H.nw fun p1 w2 H _=>?_
 have H:ak w [] w2 [.av p (t.cs s) aN,.av p1 (kV 0 ⟨none,0,0⟩ ⟨none,0,0⟩ ⟨none,0,0⟩ ⟨none,0,0⟩ ⟨none,0,0⟩) aN]:=H
 refine H.ax 0 rfl (au p 1) rfl (H.RG iG (h1.aE H.mod) (by omega) fun y1 w3 H _=>H.st 0 rfl (au p 1) (by show 1<6; omega) rfl fun w4 H=>H.ax 0 rfl (au p 2) rfl ?_)
 refine H.clone Ru ((fU.sl h2).aE H.mod) (uF (C:=ct.cs) (fun a x v hv=>ct.lV a x v hv) _ _) (by show s.ten.n * 32≤_; omega) (by show s.ten.n≤_; omega) fun y2 w5 H _=>H.st 0 rfl (au p 2) (by show 2<6; omega) rfl fun w6 H=>H.ax 0 rfl (au p 3) rfl ?_
 refine H.clone Rv (h3.aE H.mod) (uF cB.lV _ _) (by show s.aG.n * 56≤_; omega) (by show s.aG.n≤_; omega) fun y3 w7 H An=>H.st 0 rfl (au p 3) (by show 3<6; omega) rfl fun w8 H=>?_
 have H:ak w [] w8 ([.av p (t.cs ⟨y1,y2,y3,s.key,s.gr⟩) aN,.av p1 (kV 0 ⟨none,0,0⟩ ⟨none,0,0⟩ ⟨none,0,0⟩ ⟨none,0,0⟩ ⟨none,0,0⟩) aN,.row bh 1 y1 (bp t.bS),.row dV 3 y2 (iV t.bY)] ++ [.row fR 5 y3 (bA cB.cs t.aG xs)]):=H
 have e3:t.aG.length=y3.n:=by rw [An]; exact CL
 refine dw 0 t.aG.length (fun i w'=>gh cB.cs 5 j8 fR w [] [.av p (t.cs ⟨y1,y2,y3,s.key,s.gr⟩) aN,.av p1 (kV 0 ⟨none,0,0⟩ ⟨none,0,0⟩ ⟨none,0,0⟩ ⟨none,0,0⟩ ⟨none,0,0⟩) aN,.row bh 1 y1 (bp t.bS),.row dV 3 y2 (iV t.bY)] w' y3 t.aG xs i) rfl (by omega) (gh.start H) ?_ ?_
 ·intro again i fE _ hi R aM
  have F0:=R.front
  have R:=R.frame (Mod.drew [] fE)
  have ha:t.aG[i]? = some t.aG[i]:=List.getElem?_eq_getElem hi
  have dB:xs[i]? = some (xs[i]'(by rw [nY.1]; exact hi)):=List.getElem?_eq_getElem _
  have iL:=FT _ (List.getElem_mem hi)
  have sF:=nY.2 i _ _ dB ha
  obtain ⟨dm,hc⟩:=R.at cB.cu (by omega) nY.1 ha dB
  generalize t.aG[i]=v at *
  generalize xs[i]'(by rw [nY.1]; exact hi)=z at *
  have F:=R.front
  have hb:Bytes fE.drew z v.key:=Bytes.aE sF F.mod
  have pT:=Bytes.len hb
  refine F0.ax 0 rfl (au p 3) rfl (ite_true (decide_eq_true (show (i:Int)<(y3.n:Int) by omega)) (F.ax 0 rfl (au p 3) rfl (F.ax 0 rfl (au p 3) rfl ⟨dm,z,hc 2 z.v rfl,(ak.start fE.drew).RG iG hb (by omega) fun u fQ U _=>?_⟩)))
  have hu:fJ fE.drew fQ fun w=>j8 w u v:=U.boxed fun w' h=>h 0 _ rfl
  exact ⟨F.kept hu.mod 0 rfl (au p 3) 1,dm,R.step cB.cu nY.1 ha dB hu (by omega:2<5) (YG v z u) fun jT R=>⟨⟨by omega,by omega⟩,aM jT R⟩⟩
 ·intro again fE R
  have F0:=R.front
  obtain ⟨ys,fp,H⟩:=R.done rfl nY.1
  refine F0.ax 0 rfl (au p 3) rfl (ite_false (decide_eq_false (show ¬ ((t.aG.length:Int)<(y3.n:Int)) by omega)) (H.ax 0 rfl (au p 4) rfl ?_))
  refine H.clone Rw (h4.aE H.mod) (uF aV.lV _ _) (by show s.key.n * 48≤_; omega) (by show s.key.n≤_; omega) fun y4 fQ H FK=>H.st 0 rfl (au p 4) (by show 4<6; omega) rfl fun jT H=>?_
  have e4:t.keys.length=y4.n:=by rw [FK]; exact Ar
  obtain ⟨L,hL⟩:∃ L,L=[aD.av p (t.cs ⟨y1,y2,y3,y4,s.gr⟩) aN,.av p1 (kV 0 ⟨none,0,0⟩ ⟨none,0,0⟩ ⟨none,0,0⟩ ⟨none,0,0⟩ ⟨none,0,0⟩) aN,.row bh 1 y1 (bp t.bS),.row dV 3 y2 (iV t.bY),.row fR 5 y3 (bA cB.cs t.aG ys),.box fp fun w=>bB j8 w ys t.aG]:=⟨_,rfl⟩
  have H:ak w [] jT (L ++ [.row aZ 4 y4 (bA aV.cs t.keys us)]):=by rw [hL]; exact H
  have CS:L[0]? = some (.av p (t.cs ⟨y1,y2,y3,y4,s.gr⟩) aN):=by rw [hL]; rfl
  refine dw 0 t.keys.length (fun i w'=>gh aV.cs 4 iD aZ w [] L w' y4 t.keys us i) rfl (by omega) (gh.start H) ?_ ?_
  ·intro again i l8 _ hi R aM
   have F0:=R.front
   have R:=R.frame (Mod.drew [] l8)
   have ha:t.keys[i]? = some t.keys[i]:=List.getElem?_eq_getElem hi
   have dB:us[i]? = some (us[i]'(by rw [mM.1]; exact hi)):=List.getElem?_eq_getElem _
   have hv1:=TY _ (List.getElem_mem hi)
   have TZ:=iL _ (List.getElem_mem hi)
   have sF:=mM.2 i _ _ dB ha
   obtain ⟨dm,hc⟩:=R.at aV.cu (by omega) mM.1 ha dB
   have qF:t.keys.set i t.keys[i]=t.keys:=AX ha
   generalize t.keys[i]=k at *
   generalize us[i]'(by rw [mM.1]; exact hi)=z at *
   have F:=R.front
   refine F0.ax 0 CS (au p 4) rfl (ite_true (decide_eq_true (show (i:Int)<(y4.n:Int) by omega)) (F.ax 0 CS (au p 4) rfl (F.ax 0 CS (au p 4) rfl ⟨dm,qn hc (aB (agu k z hv1 TZ _ (fY.aE sF F.mod)) ?_)⟩)))
   rintro _ xR ⟨u,rfl,hu⟩
   have F3:=hu.box
   obtain ⟨qs,fq,hq,D⟩:=R
   obtain ⟨f2,D⟩:=D.g9 F3
   refine oh ⟨yT F3.mod (F.cell 0 CS (au p 4) rfl),dm,?_⟩
   have FJ:(qs ++ us.drop i).length=t.keys.length:=by rw [List.length_append,List.length_drop,mM.1]; omega
   have Ka:(qs ++ us.drop i).set i u=qs ++ u :: us.drop (i+1):=by
    rw [List.set_append_right _ _ (by omega),hq,Nat.sub_self,List.drop_eq_getElem_cons (by rw [mM.1]; exact hi),List.set_cons_zero]
   rw [List.append_assoc] at D
   show oZ (k.cs u) _ 0 _ _
   refine D.putAt L.length zH aV.cu FJ hi k u (aV.lV k u) fun kH D=>⟨⟨by omega,by omega⟩,aM _ (gh.close (z:=u) hq ha (fp:=fq) (dZ:=f2) ?_)⟩
   rw [List.set_append_right _ _ (Nat.le_refl _),Nat.sub_self,qF,Ka] at D
   exact D
  ·intro again l8 R
   have F0:=R.front
   obtain ⟨zs,fq,H⟩:=R.done rfl mM.1
   subst hL
   refine F0.ax 0 rfl (au p 4) rfl (ite_false (decide_eq_false (show ¬ ((t.keys.length:Int)<(y4.n:Int)) by omega)) (H.ax 0 rfl (au p 5) rfl ?_))
   refine H.clone RP (h5.aE H.mod) (Rb _) (by show s.gr.n * 48≤_; omega) (by show s.gr.n≤_; omega) fun y5 xR H _=>H.st 0 rfl (au p 5) (by show 5<6; omega) rfl fun kH H=>?_
   refine H.bN 0 rfl (H.bI 1 rfl rfl fun pZ H=>H.bN 1 rfl ?_)
   refine ⟨⟨y1,y2,y3,y4,y5⟩,ys,zs,fp,fq,rfl,?_⟩
   exact H.dh [2,3,8,4,5,6,7] (by decide) rfl
end Go.Proofs.YtgjoehgomjgckaaGreatDoor
end
section
set_option linter.unusedVariables false
set_option linter.unusedSimpArgs false
namespace Go.Proofs.YtgjoehgomjgckaaGreatDoor
open Go Go.Ev
set_option maxRecDepth 20000
set_option linter.unusedVariables false
def sZ:dY:=⟨⟨none,0,0⟩,⟨none,0,0⟩,⟨none,0,0⟩,⟨none,0,0⟩,⟨none,0,0⟩⟩
def fV:aS:=⟨0,[],[],[],[],[]⟩
theorem ak.ZA {w0 w:World} {S:List Nat} {L:List aD} (H:ak w0 S w L) {Q:World→Prop} (h:∀ w,Q w):ak w0 S w (L ++ [.box [] Q]):=
 H.push (Mod.refl [] w) ⟨fun b hb=>(by cases hb),fun w' _=>h w'⟩ (fun b hb=>(by cases hb))
theorem Rf {w0 w:World} {S:List Nat} {L:List aD} (H:ak w0 S w L):ak w0 S w (L ++ iT sZ fV [] [] [] []):=by
 have H:=H.iZ bh 1
 have H:=H.iZ dV 3
 have H:=H.iZ cR 6
 have H:=H.iZ fR 5
 have H:=ak.ZA H (Q:=fun w=>bB j8 w [] ([]:List cB)) fun w=>⟨rfl,fun i x l h=>by simp at h⟩
 have H:=H.iZ aZ 4
 have H:=ak.ZA H (Q:=fun w=>bB iD w [] ([]:List aV)) fun w=>⟨rfl,fun i x l h=>by simp at h⟩
 simp only [List.append_assoc,List.cons_append,List.nil_append] at H
 exact H
def kO (name:ByteArray) (vk sec:List B8):aS:=⟨0,sec,[⟨1,0,name⟩],[⟨1,1,vk,0,0⟩],[],[]⟩
theorem Qs {name:ByteArray} {vk sec:List B8} (h1:vk.length≤1000000) (h2:sec.length≤1000000):(kO name vk sec).small where
 sec:=h2
 ten:=by show 1≤1000; omega
 aG:=by show 1≤1000; omega
 key:=by show 0≤1000; omega
 gr:=by show 0≤1000; omega
 pk:=fun p hp=>by rw [List.mem_singleton.1 hp]; exact h1
 bq:=fun k hk=>by cases hk
 aq:=fun k hk=>by cases hk
 gf:=fun k hk=>by cases hk
theorem amc {w:World} {name:ByteArray} {vk sec:List B8} {x y:ah} {p q:Nat} (hx:Bytes w x vk) (hy:Bytes w y sec) (hp:bW w p (ko 1 0 name) dV) (hq:bW w q (lD 1 1 x 0 0) fR):gL w ⟨y,⟨some ⟨p,0,none⟩,1,1⟩,⟨some ⟨q,0,none⟩,1,1⟩,⟨none,0,0⟩,⟨none,0,0⟩⟩ (kO name vk sec) where
 sec:=hy
 ten:=fU.of (by
  have:=hp.sl 3 1 1 (by simp) (by omega)
  simpa [iV,bA,kO,ct.cs,ko] using this)
 aG:=⟨[x],by
  have:=hq.sl 5 1 1 (by simp) (by omega)
  rw [show (kO name vk sec).aG=[⟨1,1,vk,0,0⟩] from rfl,wO]
  simpa [cB.cs,lD] using this,rfl,fun i u l h1 h2=>by
   cases i with
   | zero=>
    simp only [List.getElem?_cons_zero,Option.some.injEq,kO] at h1 h2
    subst h1 h2; exact hx
   | succ i=>simp [kO] at h2⟩
 key:=Dv.nil w
 gr:=gR.nil w
def F6 (name:ByteArray) (vk sec:List B8):aS:=if fC (kO name vk sec)=true then kO name vk sec else fV
def T3 (name:ByteArray) (vk sec:List B8):Int:=if fC (kO name vk sec)=true then 0 else 2
def aaw (w w':World) (v:Value) (t:aS) (rest:List Value) (M:List aD):Prop:=∃ s ys zs fp fq,v=.tuple ⟨.agg ⟨t.cs s⟩ :: rest⟩∧ak w [] w' (iT s t ys zs fp fq ++ M)
theorem afz (name:ByteArray) (x y:ah) (vk sec:List B8) (h1:vk.length≤1000000) (h2:sec.length≤1000000) (w:World) (hx:Bytes w x vk) (hy:Bytes w y sec):Ok Pr oT [.string name,.slice x.a x.n x.c,.slice y.a y.n y.c] w fun v w'=>aaw w w' v (F6 name vk sec) [.int .i64 (T3 name vk sec)] []:=by
 refine adU ?_
 unfold Nd
 rw [uH]
 have hT:F6 name vk sec=if fC (kO name vk sec)=true then kO name vk sec else fV:=rfl
 have hC:T3 name vk sec=if fC (kO name vk sec)=true then 0 else 2:=rfl
 generalize F6 name vk sec=T at *
 generalize T3 name vk sec=C at *
 refine (ak.start w).nw fun p w1 H _=>H.nw fun p1 w2 H _=>H.nw fun p2 w3 H _=>?_
 have H:ak w [] w3 [.av p (fV.cs sZ) aN,.av p1 (ko 1 0 name) dV,.av p2 (lD 1 1 x 0 0) fR]:=H
 refine aB (agw ⟨y,⟨some ⟨p1,0,none⟩,1,1⟩,⟨some ⟨p2,0,none⟩,1,1⟩,⟨none,0,0⟩,⟨none,0,0⟩⟩ (kO name vk sec) (Qs h1 h2) w3 (amc (hx.aE H.mod) (hy.aE H.mod) (H.av 1 rfl) (H.av 2 rfl))) ?_
 rintro _ w4 ⟨s,ys,zs,fp,fq,rfl,D⟩
 have H:=H.join D
 refine iN (H.nw fun p3 w5 H _=>H.bI 10 rfl rfl fun w6 H=>H.bN 10 rfl ?_)
 have H:ak w [] w6 ([.av p (fV.cs sZ) aN,.av p1 (ko 1 0 name) dV,.av p2 (lD 1 1 x 0 0) fR] ++ (iT s (kO name vk sec) ys zs fp fq ++ [.av p3 ((kO name vk sec).cs s) aN])):=H
 have hr:gL w6 s (kO name vk sec):=o7 (L:=[.av p (fV.cs sZ) aN,.av p1 (ko 1 0 name) dV,.av p2 (lD 1 1 x 0 0) fR]) (H.take 10)
 refine aB (ag4 s (kO name vk sec) (Qs h1 h2) w6 hr) ?_
 rintro _ w7 ⟨rfl,m7⟩
 have H:=H.frame m7
 refine bk ?_
 cases hm:fC (kO name vk sec) with
 | false=>
  rw [hm,if_neg (by decide)] at hT hC
  subst hT hC
  refine ite_true rfl (H.bI 0 rfl rfl fun w8 H=>H.bN 0 rfl ⟨sZ,[],[],[],[],rfl,?_⟩)
  exact (Rf H).drop 11
 | true=>
  rw [hm,if_pos rfl] at hT hC
  subst hT hC
  refine ite_false rfl (H.bN 10 rfl (H.bI 0 rfl rfl fun w8 H=>H.bN 0 rfl ⟨s,ys,zs,fp,fq,rfl,?_⟩))
  exact (H.take 10).drop 3
end Go.Proofs.YtgjoehgomjgckaaGreatDoor
end
section
set_option linter.unusedVariables false
set_option linter.unusedSimpArgs false
namespace Go.Proofs.YtgjoehgomjgckaaGreatDoor
open Go Go.Ev
set_option maxRecDepth 100000
set_option linter.unusedVariables false
def Qt (cQ:Int) (bK:ah) (bL:ah) (bP:ah) (bQ:ah) (bR:ah) (dx:Int) (cW:Int) (cM:Int) (cw:Int) (fh:Int) (fk:Int) (gN:Int) (gO:Int) (gP:Int) (gQ:Int) (gH:Int) (gI:ByteArray) (dK:ah) (dL:ah) (aq:ah) (w:World) (R:Value→World→Prop):Prop:=
 nw aN [.int .i64 cQ,.slice bK.a bK.n bK.c,.slice bL.a bL.n bL.c,.slice bP.a bP.n bP.c,.slice bQ.a bQ.n bQ.c,.slice bR.a bR.n bR.c] w fun a b=>
 nw kW [.int .i64 dx,.int .i64 cW,.int .i64 cM,.int .i64 cw,.int .i64 fh,.int .i64 fk,.int .i64 gN,.int .i64 gO,.int .i64 gP,.int .i64 gQ,.int .i64 gH,.string gI,.slice dK.a dK.n dK.c,.slice dL.a dL.n dL.c] b fun c d=>
 nw aN (zc Pr aN) d fun e f=>
 nw bD (zc Pr bD) f fun g i=>
 bN a i fun j k l m n o=>
 iX c i fun p q s t u v x y z A B C D E=>
 ay Pr MJ [.agg ⟨[.int .i64 j,.slice k.a k.n k.c,.slice l.a l.n l.c,.slice m.a m.n m.c,.slice n.a n.n n.c,.slice o.a o.n o.c]⟩,.agg ⟨[.int .i64 p,.int .i64 q,.int .i64 s,.int .i64 t,.int .i64 u,.int .i64 v,.int .i64 x,.int .i64 y,.int .i64 z,.int .i64 A,.int .i64 B,.string C,.slice D.a D.n D.c,.slice E.a E.n E.c]⟩,.slice aq.a aq.n aq.c] i fun F G=>
 br.bC F fun I=>
 aC I fun J L=>
 Cv J fun M=>
 aC L fun N O=>
 (O=[]∧
 nw bD (zc Pr bD) G fun Q S=>
 jh (fun (T:Value)=>[(10,some (T))])
 (fun T U=>fB T fun V=>
 aA (!V)
 (ay Pr DC [T] U fun X Y=>
 aY .i64 X fun Z=>
 bI e 0 ⟨none,0,0⟩ ⟨none,0,0⟩ ⟨none,0,0⟩ ⟨none,0,0⟩ ⟨none,0,0⟩ Y fun aa=>
 bF g Z 0 ⟨none,0,0⟩ ⟨none,0,0⟩ aa fun ba=>
 bN e ba fun ca da ea fa ga ia=>
 cz g ba fun ja ka la ma=>
 R (.tuple ⟨[.agg ⟨[.int .i64 ca,.slice da.a da.n da.c,.slice ea.a ea.n ea.c,.slice fa.a fa.n fa.c,.slice ga.a ga.n ga.c,.slice ia.a ia.n ia.c]⟩,.agg ⟨[.int .i64 ja,.int .i64 ka,.slice la.a la.n la.c,.slice ma.a ma.n ma.c]⟩,T]⟩) ba)
 (bw M fun na=>
 bN (Addr.add na 14) (World.drew U) fun oa pa qa sa ta ua=>
 cz Q (World.drew U) fun va xa ya za=>
 bI e oa pa qa sa ta ua (World.drew U) fun Aa=>
 (kept Q 4 (World.drew U) Aa∧
 bF g va xa ya za Aa fun Ba=>
 bN e Ba fun Ca Da Ea Fa Ga Ia=>
 cz g Ba fun Ja La Ma Na=>
 R (.tuple ⟨[.agg ⟨[.int .i64 Ca,.slice Da.a Da.n Da.c,.slice Ea.a Ea.n Ea.c,.slice Fa.a Fa.n Fa.c,.slice Ga.a Ga.n Ga.c,.slice Ia.a Ia.n Ia.c]⟩,.agg ⟨[.int .i64 Ja,.int .i64 La,.slice Ma.a Ma.n Ma.c,.slice Na.a Na.n Na.c]⟩,.nilIface]⟩) Ba)))
 (fun Oa=>
 fB N fun Qa=>
 aA Qa
 (ay Pr Mm [.pointer M] S fun Sa Ta=>
 br.bC Sa fun Ua=>
 aC Ua fun Va Xa=>
 fF Va fun Ya Za ab bb=>
 aC Xa fun cb db=>
 (db=[]∧
 bF Q Ya Za ab bb Ta fun eb=>
 Oa cb eb))
 (Oa N S)))
theorem agx {cQ:Int} {bK:ah} {bL:ah} {bP:ah} {bQ:ah} {bR:ah} {dx:Int} {cW:Int} {cM:Int} {cw:Int} {fh:Int} {fk:Int} {gN:Int} {gO:Int} {gP:Int} {gQ:Int} {gH:Int} {gI:ByteArray} {dK:ah} {dL:ah} {aq:ah} {w:World} {R:Value→World→Prop} (h:Qt cQ bK bL bP bQ bR dx cW cM cw fh fk gN gO gP gQ gH gI dK dL aq w R):Ok Pr gy [.agg ⟨[.int .i64 cQ,.slice bK.a bK.n bK.c,.slice bL.a bL.n bL.c,.slice bP.a bP.n bP.c,.slice bQ.a bQ.n bQ.c,.slice bR.a bR.n bR.c]⟩,.agg ⟨[.int .i64 dx,.int .i64 cW,.int .i64 cM,.int .i64 cw,.int .i64 fh,.int .i64 fk,.int .i64 gN,.int .i64 gO,.int .i64 gP,.int .i64 gQ,.int .i64 gH,.string gI,.slice dK.a dK.n dK.c,.slice dL.a dL.n dL.c]⟩,.slice aq.a aq.n aq.c] w R:=
 aL (m:=⟨true,true⟩) (J:=[(5,[(10,.val)])]) (L:=[]) aJ Tryz.func11 (by kernel_rfl) ((by kernel_rfl:aK Pr _ _ _ Tryz.f11 _ w R=Qt cQ bK bL bP bQ bR dx cW cM cw fh fk gN gO gP gQ gH gI dK dL aq w R).mpr h)
def Ou (cQ:Int) (bK:ah) (bL:ah) (bP:ah) (bQ:ah) (bR:ah) (clock:Int) (w:World) (R:Value→World→Prop):Prop:=
 nw aN [.int .i64 cQ,.slice bK.a bK.n bK.c,.slice bL.a bL.n bL.c,.slice bP.a bP.n bP.c,.slice bQ.a bQ.n bQ.c,.slice bR.a bR.n bR.c] w fun a b=>
 nw aN (zc Pr aN) b fun c d=>
 bN a d fun e f g i j k=>
 ay Pr Hi [.agg ⟨[.int .i64 e,.slice f.a f.n f.c,.slice g.a g.n g.c,.slice i.a i.n i.c,.slice j.a j.n j.c,.slice k.a k.n k.c]⟩] d fun l m=>
 aU l fun n=>
 an .i64 (Addr.add a 0) m fun o=>
 aA (((!n) || (decide (clock<o))) || (decide (1099511627776<clock)))
 (ay Pr lC [.int .i64 2] m fun p q=>
 bI c 0 ⟨none,0,0⟩ ⟨none,0,0⟩ ⟨none,0,0⟩ ⟨none,0,0⟩ ⟨none,0,0⟩ q fun s=>
 bN c s fun t u v x y z=>
 R (.tuple ⟨[.agg ⟨[.int .i64 t,.slice u.a u.n u.c,.slice v.a v.n v.c,.slice x.a x.n x.c,.slice y.a y.n y.c,.slice z.a z.n z.c]⟩,.int .i64 0,p]⟩) s)
 (bN a m fun A B C D E F=>
 ay Pr Dl [.agg ⟨[.int .i64 A,.slice B.a B.n B.c,.slice C.a C.n C.c,.slice D.a D.n D.c,.slice E.a E.n E.c,.slice F.a F.n F.c]⟩] m fun G I=>
 dJ G fun J L M N O Q=>
 bI a J L M N O Q I fun S=>
 st (Addr.add a 0) (.int .i64 clock) S fun T=>
 ax (Addr.add a 4) T fun U=>
 iq (fun (V:Int) (X:Int)=>[(7,some (.int .i64 V)),(34,some (.int .i64 X))])
 (fun Y V X Z=>aA (decide (X<(U.n:Int)))
 (aQ U.a X U.n
 (bu (Addr.add (base U.a) (Int.toNat X * 4)) Z fun aa ba ca da=>
 nw aZ (zc Pr aZ) Z fun ea fa=>
 cD ea aa ba ca da fa fun ga=>
 bu ea ga fun ia ja ka la=>
 ay Pr NA [.agg ⟨[.int .i64 ia,.int .i64 ja,.int .i64 ka,.slice la.a la.n la.c]⟩,.int .i64 clock] ga fun ma na=>
 br.bC ma fun oa=>
 aC oa fun pa qa=>
 qZ pa fun sa ta ua va=>
 aC qa fun xa ya=>
 aY .i64 xa fun za=>
 (ya=[]∧
 nw aZ (zc Pr aZ) na fun Aa Ba=>
 cD Aa sa ta ua va Ba fun Ca=>
 ax (Addr.add a 4) Ca fun Da=>
 bu Aa Ca fun Ea Fa Ga Ia=>
 aQ Da.a X Da.n
 (cD (Addr.add (base Da.a) (Int.toNat X * 4)) Ea Fa Ga Ia Ca fun Ja=>
 (aF (V+za)∧
 (aF (X+1)∧
 Y (V+za) (X+1) Ja))))))
 (bN a Z fun La Ma Na Oa Qa Sa=>
 bI c La Ma Na Oa Qa Sa Z fun Ta=>
 bN c Ta fun Ua Va Xa Ya Za ab=>
 R (.tuple ⟨[.agg ⟨[.int .i64 Ua,.slice Va.a Va.n Va.c,.slice Xa.a Xa.n Xa.c,.slice Ya.a Ya.n Ya.c,.slice Za.a Za.n Za.c,.slice ab.a ab.n ab.c]⟩,.int .i64 V,.nilIface]⟩) Ta))
 0 0 T)
theorem aeP {cQ:Int} {bK:ah} {bL:ah} {bP:ah} {bQ:ah} {bR:ah} {clock:Int} {w:World} {R:Value→World→Prop} (h:Ou cQ bK bL bP bQ bR clock w R):Ok Pr Ny [.agg ⟨[.int .i64 cQ,.slice bK.a bK.n bK.c,.slice bL.a bL.n bL.c,.slice bP.a bP.n bP.c,.slice bQ.a bQ.n bQ.c,.slice bR.a bR.n bR.c]⟩,.int .i64 clock] w R:=
 aL (m:=⟨true,true⟩) (J:=[]) (L:=[(7,[(7,.int .i64),(34,.int .i64)])]) aJ Tryz.func16 (by kernel_rfl) ((by kernel_rfl:aK Pr _ _ _ Tryz.f16 _ w R=Ou cQ bK bL bP bQ bR clock w R).mpr h)
def Nr (cQ:Int) (bK:ah) (bL:ah) (bP:ah) (bQ:ah) (bR:ah) (dx:Int) (cW:Int) (cM:Int) (cw:Int) (fh:Int) (fk:Int) (gN:Int) (gO:Int) (gP:Int) (gQ:Int) (gH:Int) (gI:ByteArray) (dK:ah) (dL:ah) (aq:ah) (w:World) (R:Value→World→Prop):Prop:=
 nw aN [.int .i64 cQ,.slice bK.a bK.n bK.c,.slice bL.a bL.n bL.c,.slice bP.a bP.n bP.c,.slice bQ.a bQ.n bQ.c,.slice bR.a bR.n bR.c] w fun a b=>
 nw kW [.int .i64 dx,.int .i64 cW,.int .i64 cM,.int .i64 cw,.int .i64 fh,.int .i64 fk,.int .i64 gN,.int .i64 gO,.int .i64 gP,.int .i64 gQ,.int .i64 gH,.string gI,.slice dK.a dK.n dK.c,.slice dL.a dL.n dL.c] b fun c d=>
 jZ []
 (fun e=>iX c (World.drew e) fun f g i j k l m n o p q s t u=>
 bN a (World.drew e) fun v x y z A B=>
 ay Pr Dl [.agg ⟨[.int .i64 v,.slice x.a x.n x.c,.slice y.a y.n y.c,.slice z.a z.n z.c,.slice A.a A.n A.c,.slice B.a B.n B.c]⟩] (World.drew e) fun C D=>
 dJ C fun E F G I J L=>
 (kept c 14 (World.drew e) D∧
 nw wv [.int .i64 f,.int .i64 g,.int .i64 i,.int .i64 j,.int .i64 k,.int .i64 l,.int .i64 m,.int .i64 n,.int .i64 o,.int .i64 p,.int .i64 q,.string s,.slice t.a t.n t.c,.slice u.a u.n u.c,.int .i64 E,.slice F.a F.n F.c,.slice G.a G.n G.c,.slice I.a I.n I.c,.slice J.a J.n J.c,.slice L.a L.n L.c,.int .i64 0,.slice aq.a aq.n aq.c] D fun M N=>
 an .i64 (Addr.add (Addr.add M 0) 0) (World.drew N) fun O=>
 ax (Addr.add a 3) (World.drew N) fun Q=>
 ay Pr yx [.int .i64 O,.int .i64 (Q.n:Int)] (World.drew N) fun S T=>
 aU S fun U=>
 aA (!U)
 (ay Pr lC [.int .i64 6] T fun V X=>
 R (.tuple ⟨[.pointer none,V]⟩) X)
 (ax (Addr.add (Addr.add M 14) 3) (World.drew T) fun Y=>
 an .i64 (Addr.add (Addr.add M 0) 0) (World.drew T) fun Z=>
 (aF (Z - 1)∧
 aQ Y.a (Z - 1) Y.n
 (an .i64 (Addr.add (Addr.add (base Y.a) (Int.toNat (Z - 1) * 5)) 3) (World.drew (World.drew T)) fun aa=>
 an .u64 (Addr.add (Addr.add (base Y.a) (Int.toNat (Z - 1) * 5)) 4) (World.drew (World.drew T)) fun ba=>
 an .i64 (Addr.add (Addr.add M 0) 1) (World.drew (World.drew T)) fun ca=>
 ay Pr ND [.int .i64 aa,.int .u64 ba,.int .i64 ca] (World.drew (World.drew T)) fun da ea=>
 br.bC da fun fa=>
 aC fa fun ga ia=>
 aY .i64 ga fun ja=>
 aC ia fun ka la=>
 aY .u64 ka fun ma=>
 aC la fun na oa=>
 (oa=[]∧
 fB na fun pa=>
 aA (!pa)
 (ay Pr lC [.int .i64 8] ea fun qa sa=>
 R (.tuple ⟨[.pointer none,qa]⟩) sa)
 (st (Addr.add (Addr.add (base Y.a) (Int.toNat (Z - 1) * 5)) 3) (.int .i64 ja) ea fun ta=>
 st (Addr.add (Addr.add (base Y.a) (Int.toNat (Z - 1) * 5)) 4) (.int .u64 ma) ta fun ua=>
 ay Pr Ly [.pointer (some M)] ua fun va xa=>
 aU va fun ya=>
 aA (!ya)
 (ay Pr lC [.int .i64 9] xa fun za Aa=>
 R (.tuple ⟨[.pointer none,za]⟩) Aa)
 (ay Pr KP [.pointer (some M)] xa fun Ba Ca=>
 R (.tuple ⟨[.pointer (some M),Ba]⟩) Ca))))))))
 (fun Da=>
 jh (fun (Ea:Bool)=>[(20,some (.bool Ea))])
 (fun Ea Fa=>aA Ea
 (ay Pr lC [.int .i64 2] Fa fun Ga Ia=>
 R (.tuple ⟨[.pointer none,Ga]⟩) Ia)
 (Da Fa))
 (fun Ja=>
 bN a d fun La Ma Na Oa Qa Sa=>
 ay Pr Hi [.agg ⟨[.int .i64 La,.slice Ma.a Ma.n Ma.c,.slice Na.a Na.n Na.c,.slice Oa.a Oa.n Oa.c,.slice Qa.a Qa.n Qa.c,.slice Sa.a Sa.n Sa.c]⟩] d fun Ta Ua=>
 aU Ta fun Va=>
 iX c Ua fun Xa Ya Za ab bb cb db eb fb gb ib jb kb lb=>
 aA (!Va)
 (Ja true Ua)
 (ay Pr QB [.agg ⟨[.int .i64 Xa,.int .i64 Ya,.int .i64 Za,.int .i64 ab,.int .i64 bb,.int .i64 cb,.int .i64 db,.int .i64 eb,.int .i64 fb,.int .i64 gb,.int .i64 ib,.string jb,.slice kb.a kb.n kb.c,.slice lb.a lb.n lb.c]⟩] Ua fun mb nb=>
 aU mb fun ob=>
 Ja (!ob) nb)))
theorem ad9 {cQ:Int} {bK:ah} {bL:ah} {bP:ah} {bQ:ah} {bR:ah} {dx:Int} {cW:Int} {cM:Int} {cw:Int} {fh:Int} {fk:Int} {gN:Int} {gO:Int} {gP:Int} {gQ:Int} {gH:Int} {gI:ByteArray} {dK:ah} {dL:ah} {aq:ah} {w:World} {R:Value→World→Prop} (h:Nr cQ bK bL bP bQ bR dx cW cM cw fh fk gN gO gP gQ gH gI dK dL aq w R):Ok Pr MJ [.agg ⟨[.int .i64 cQ,.slice bK.a bK.n bK.c,.slice bL.a bL.n bL.c,.slice bP.a bP.n bP.c,.slice bQ.a bQ.n bQ.c,.slice bR.a bR.n bR.c]⟩,.agg ⟨[.int .i64 dx,.int .i64 cW,.int .i64 cM,.int .i64 cw,.int .i64 fh,.int .i64 fk,.int .i64 gN,.int .i64 gO,.int .i64 gP,.int .i64 gQ,.int .i64 gH,.string gI,.slice dK.a dK.n dK.c,.slice dL.a dL.n dL.c]⟩,.slice aq.a aq.n aq.c] w R:=
 aL (m:=⟨true,true⟩) (J:=[(3,[]),(2,[(20,.bool)])]) (L:=[]) aJ Tryz.func27 (by kernel_rfl) ((by kernel_rfl:aK Pr _ _ _ Tryz.f27 _ w R=Nr cQ bK bL bP bQ bR dx cW cM cw fh fk gN gO gP gQ gH gI dK dL aq w R).mpr h)
def MI (j:Option Addr) (w:World) (R:Value→World→Prop):Prop:=
 nw bD (zc Pr bD) w fun a b=>
 jZ []
 (fun c=>ay Pr KW [.pointer j] c fun d e=>
 br.bC d fun f=>
 aC f fun g i=>
 fF g fun k l m n=>
 aC i fun o p=>
 (p=[]∧
 bF a k l m n e fun q=>
 cz a q fun s t u v=>
 R (.tuple ⟨[.agg ⟨[.int .i64 s,.int .i64 t,.slice u.a u.n u.c,.slice v.a v.n v.c]⟩,o]⟩) q))
 (fun x=>
 bw j fun y=>
 an .i64 (Addr.add (Addr.add y 0) 2) b fun z=>
 aA (decide (z=1))
 (ay Pr KT [.pointer j] b fun A B=>
 br.bC A fun C=>
 aC C fun D E=>
 fF D fun F G I J=>
 aC E fun L M=>
 (M=[]∧
 bF a F G I J B fun N=>
 cz a N fun O Q S T=>
 R (.tuple ⟨[.agg ⟨[.int .i64 O,.int .i64 Q,.slice S.a S.n S.c,.slice T.a T.n T.c]⟩,L]⟩) N))
 (aA (decide (z=2))
 (ay Pr KU [.pointer j] b fun U V=>
 br.bC U fun X=>
 aC X fun Y Z=>
 fF Y fun aa ba ca da=>
 aC Z fun ea fa=>
 (fa=[]∧
 bF a aa ba ca da V fun ga=>
 cz a ga fun ia ja ka la=>
 R (.tuple ⟨[.agg ⟨[.int .i64 ia,.int .i64 ja,.slice ka.a ka.n ka.c,.slice la.a la.n la.c]⟩,ea]⟩) ga))
 (aA (decide (z=3))
 (ay Pr KV [.pointer j] b fun ma na=>
 br.bC ma fun oa=>
 aC oa fun pa qa=>
 fF pa fun sa ta ua va=>
 aC qa fun xa ya=>
 (ya=[]∧
 bF a sa ta ua va na fun za=>
 cz a za fun Aa Ba Ca Da=>
 R (.tuple ⟨[.agg ⟨[.int .i64 Aa,.int .i64 Ba,.slice Ca.a Ca.n Ca.c,.slice Da.a Da.n Da.c]⟩,xa]⟩) za))
 (jh (fun (Ea:Bool)=>[(27,some (.bool Ea))])
 (fun Ea Fa=>aA Ea
 (ay Pr LL [.pointer j] Fa fun Ga Ia=>
 br.bC Ga fun Ja=>
 aC Ja fun La Ma=>
 fF La fun Na Oa Qa Sa=>
 aC Ma fun Ta Ua=>
 (Ua=[]∧
 bF a Na Oa Qa Sa Ia fun Va=>
 cz a Va fun Xa Ya Za ab=>
 R (.tuple ⟨[.agg ⟨[.int .i64 Xa,.int .i64 Ya,.slice Za.a Za.n Za.c,.slice ab.a ab.n ab.c]⟩,Ta]⟩) Va))
 (jh (fun (bb:Bool)=>[(35,some (.bool bb))])
 (fun bb cb=>aA bb
 (ay Pr Ll [.pointer j] cb fun db eb=>
 br.bC db fun fb=>
 aC fb fun gb ib=>
 fF gb fun jb kb lb mb=>
 aC ib fun nb ob=>
 (ob=[]∧
 bF a jb kb lb mb eb fun pb=>
 cz a pb fun qb sb tb ub=>
 R (.tuple ⟨[.agg ⟨[.int .i64 qb,.int .i64 sb,.slice tb.a tb.n tb.c,.slice ub.a ub.n ub.c]⟩,nb]⟩) pb))
 (x cb))
 (fun vb=>
 aA (decide (z=12))
 (vb (decide (z=12)) Fa)
 (vb (decide (z=13)) Fa))))
 (fun xb=>
 aA (decide (z=9))
 (xb (decide (z=9)) b)
 (aA (decide (z=10))
 (xb (decide (z=10)) b)
 (xb (decide (z=11)) b)))))))
theorem adA {j:Option Addr} {w:World} {R:Value→World→Prop} (h:MI j w R):Ok Pr Mm [.pointer j] w R:=
 aL (m:=⟨true,true⟩) (J:=[(15,[]),(11,[(27,.bool)]),(14,[(35,.bool)])]) (L:=[]) aJ Tryz.func28 (by kernel_rfl) ((by kernel_rfl:aK Pr _ _ _ Tryz.f28 _ w R=MI j w R).mpr h)
def Ns (code:Int) (w:World) (R:Value→World→Prop):Prop:=
 nw oW [.int .i64 code,.string akK] w fun a b=>
 R (.iface ju (.pointer (some a))) b
theorem aea {code:Int} {w:World} {R:Value→World→Prop} (h:Ns code w R):Ok Pr lC [.int .i64 code] w R:=
 aL (m:=⟨true,true⟩) (J:=[]) (L:=[]) aJ Tryz.func35 (by kernel_rfl) ((by kernel_rfl:aK Pr _ _ _ Tryz.f35 _ w R=Ns code w R).mpr h)
def Nt (fy:Int) (many:Int) (w:World) (R:Value→World→Prop):Prop:=
 R (.bool ((decide (1≤fy)) && (decide (fy≤many)))) w
theorem aeb {fy:Int} {many:Int} {w:World} {R:Value→World→Prop} (h:Nt fy many w R):Ok Pr yx [.int .i64 fy,.int .i64 many] w R:=
 aL (m:=⟨true,true⟩) (J:=[]) (L:=[]) aJ Tryz.func51 (by kernel_rfl) ((by kernel_rfl:aK Pr _ _ _ Tryz.f51 _ w R=Nt fy many w R).mpr h)
def LJ (j:Option Addr) (w:World) (R:Value→World→Prop):Prop:=
 jZ []
 (fun a=>bw j fun b=>
 an .i64 (Addr.add (Addr.add b 0) 4) (World.drew a) fun c=>
 bw j fun d=>
 ax (Addr.add (Addr.add d 14) 4) (World.drew a) fun e=>
 ay Pr yx [.int .i64 c,.int .i64 (e.n:Int)] (World.drew a) fun f g=>
 aU f fun i=>
 aA (!i)
 (R (.bool false) g)
 (bw j fun k=>
 ax (Addr.add (Addr.add k 14) 4) (World.drew g) fun l=>
 bw j fun m=>
 an .i64 (Addr.add (Addr.add m 0) 4) (World.drew g) fun n=>
 (aF (n - 1)∧
 aQ l.a (n - 1) l.n
 (bu (Addr.add (base l.a) (Int.toNat (n - 1) * 4)) (World.drew g) fun o p q s=>
 nw aZ (zc Pr aZ) (World.drew g) fun t u=>
 (kept (Addr.add (base l.a) (Int.toNat (n - 1) * 4)) 4 (World.drew g) u∧
 (kept (Addr.add (Addr.add m 0) 4) 1 (World.drew g) u∧
 (kept (Addr.add (Addr.add k 14) 4) 1 (World.drew g) u∧
 cD t o p q s u fun v=>
 an .i64 (Addr.add t 1) v fun x=>
 bw j fun y=>
 st (Addr.add y 20) (.int .i64 x) v fun z=>
 bw j fun A=>
 an .i64 (Addr.add (Addr.add A 0) 2) z fun B=>
 jh (fun (C:Bool)=>[(104,some (.bool C))])
 (fun C D=>aA C
 (bu t (World.drew D) fun E F G I=>
 bw j fun J=>
 an .i64 (Addr.add (Addr.add J 0) 5) (World.drew D) fun L=>
 ((ay Pr yz [.agg ⟨[.int .i64 E,.int .i64 F,.int .i64 G,.slice I.a I.n I.c]⟩,.int .i64 L] (World.drew D) fun M N=>
 br.bC M fun O=>
 aC O fun Q S=>
 uu Q fun T U V X=>
 aC S fun Y Z=>
 aU Y fun aa=>
 (Z=[]∧
 nw cI (zc Pr cI) N fun ba ca=>
 (kept (Addr.add (Addr.add J 0) 5) 1 N ca∧
 (kept t 4 N ca∧
 gx ba T U V X ca fun da=>
 R (.bool aa) da))))∧
 (nw cI (zc Pr cI) (World.drew D) fun ea fa=>
 (kept (Addr.add (Addr.add J 0) 5) 1 (World.drew D) fa∧
 (kept t 4 (World.drew D) fa∧
 ay Pr yz [.agg ⟨[.int .i64 E,.int .i64 F,.int .i64 G,.slice I.a I.n I.c]⟩,.int .i64 L] fa fun ga ia=>
 br.bC ga fun ja=>
 aC ja fun ka la=>
 uu ka fun ma na oa pa=>
 aC la fun qa sa=>
 aU qa fun ta=>
 (sa=[]∧
 gx ea ma na oa pa ia fun ua=>
 R (.bool ta) ua))))))
 (aA (decide (B=12))
 (bw j fun va=>
 an .i64 (Addr.add (Addr.add va 0) 8) (World.drew D) fun xa=>
 bw j fun ya=>
 ax (Addr.add (Addr.add ya 14) 3) (World.drew D) fun za=>
 ay Pr yx [.int .i64 xa,.int .i64 (za.n:Int)] (World.drew D) fun Aa Ba=>
 aU Aa fun Ca=>
 R (.bool Ca) Ba)
 (R (.bool true) D)))
 (fun Da=>
 aA (decide (B=5))
 (Da (decide (B=5)) z)
 (aA (decide (B=6))
 (Da (decide (B=6)) z)
 (aA (decide (B=7))
 (Da (decide (B=7)) z)
 (aA (decide (B=8))
 (Da (decide (B=8)) z)
 (aA (decide (B=10))
 (Da (decide (B=10)) z)
 (Da (decide (B=11)) z)))))))))))))
 (fun Ea=>
 bw j fun Fa=>
 an .i64 (Addr.add (Addr.add Fa 0) 2) w fun Ga=>
 jh (fun (Ia:Bool)=>[(11,some (.bool Ia))])
 (fun Ia Ja=>aA Ia
 (bw j fun La=>
 an .i64 (Addr.add (Addr.add La 0) 3) Ja fun Ma=>
 bw j fun Na=>
 st (Addr.add Na 20) (.int .i64 Ma) Ja fun Oa=>
 bw j fun Qa=>
 an .i64 (Addr.add (Addr.add Qa 0) 3) (World.drew Oa) fun Sa=>
 bw j fun Ta=>
 ax (Addr.add (Addr.add Ta 14) 2) (World.drew Oa) fun Ua=>
 ay Pr yx [.int .i64 Sa,.int .i64 (Ua.n:Int)] (World.drew Oa) fun Va Xa=>
 aU Va fun Ya=>
 R (.bool Ya) Xa)
 (aA (decide (Ga=13))
 (bw j fun Za=>
 an .i64 (Addr.add (Addr.add Za 0) 7) (World.drew Ja) fun ab=>
 bw j fun bb=>
 ax (Addr.add (Addr.add bb 14) 5) (World.drew Ja) fun cb=>
 ay Pr yx [.int .i64 ab,.int .i64 (cb.n:Int)] (World.drew Ja) fun db eb=>
 aU db fun fb=>
 aA (!fb)
 (R (.bool false) eb)
 (bw j fun gb=>
 ax (Addr.add (Addr.add gb 14) 5) (World.drew eb) fun ib=>
 bw j fun jb=>
 an .i64 (Addr.add (Addr.add jb 0) 7) (World.drew eb) fun kb=>
 (aF (kb - 1)∧
 aQ ib.a (kb - 1) ib.n
 (an .i64 (Addr.add (Addr.add (base ib.a) (Int.toNat (kb - 1) * 6)) 1) (World.drew eb) fun lb=>
 bw j fun mb=>
 st (Addr.add (Addr.add mb 0) 4) (.int .i64 lb) (World.drew eb) fun nb=>
 Ea nb))))
 (Ea Ja)))
 (fun ob=>
 aA (decide (Ga=1))
 (ob (decide (Ga=1)) w)
 (aA (decide (Ga=2))
 (ob (decide (Ga=2)) w)
 (ob (decide (Ga=3)) w))))
theorem acL {j:Option Addr} {w:World} {R:Value→World→Prop} (h:LJ j w R):Ok Pr Ly [.pointer j] w R:=
 aL (m:=⟨true,true⟩) (J:=[(11,[]),(5,[(11,.bool)]),(22,[(104,.bool)])]) (L:=[]) aJ Tryz.func53 (by kernel_rfl) ((by kernel_rfl:aK Pr _ _ _ Tryz.f53 _ w R=LJ j w R).mpr h)
def KQ (j:Option Addr) (w:World) (R:Value→World→Prop):Prop:=
 bw j fun a=>
 ax (Addr.add (Addr.add a 14) 3) (World.drew w) fun b=>
 bw j fun c=>
 an .i64 (Addr.add (Addr.add c 0) 0) (World.drew w) fun d=>
 (aF (d - 1)∧
 aQ b.a (d - 1) b.n
 (an .i64 (Addr.add (Addr.add (base b.a) (Int.toNat (d - 1) * 5)) 1) (World.drew w) fun e=>
 bw j fun f=>
 ax (Addr.add (Addr.add f 14) 2) (World.drew (World.drew w)) fun g=>
 bw j fun i=>
 an .i64 (Addr.add i 20) (World.drew (World.drew w)) fun k=>
 ay Pr LM [.slice g.a g.n g.c,.int .i64 e,.int .i64 k] (World.drew (World.drew w)) fun l m=>
 aU l fun n=>
 aA n
 (R (.nilIface) m)
 (bw j fun o=>
 an .i64 (Addr.add (Addr.add o 0) 2) m fun p=>
 jh (fun (q:Bool)=>[(36,some (.bool q))])
 (fun q s=>aA q
 (uN (fun (t:Addr) (u:Value)=>[(4,some (.pointer (some t))),(5,some (u))])
 (fun t u v=>fB u fun x=>
 aA (!x)
 (R u v)
 (iF t (World.drew v) fun y z A B C D=>
 bw j fun E=>
 an .i64 (Addr.add (Addr.add E 0) 4) (World.drew v) fun F=>
 bw j fun G=>
 an .i64 (Addr.add (Addr.add G 0) 0) (World.drew v) fun I=>
 bw j fun J=>
 an .i64 (Addr.add (Addr.add J 0) 2) (World.drew v) fun L=>
 bw j fun M=>
 an .i64 (Addr.add (Addr.add M 14) 0) (World.drew v) fun N=>
 ay Pr LN [.agg ⟨[.int .i64 y,.int .i64 z,.int .i64 A,.int .i64 B,.int .i64 C,.bool D]⟩,.int .i64 F,.int .i64 I,.int .i64 L,.int .i64 N] (World.drew v) fun O Q=>
 R O Q))
 (fun S=>
 bw j fun T=>
 ax (Addr.add (Addr.add T 14) 5) (World.drew s) fun U=>
 bw j fun V=>
 ax (Addr.add (Addr.add V 14) 1) (World.drew s) fun X=>
 bw j fun Y=>
 ax (Addr.add (Addr.add Y 0) 13) (World.drew s) fun Z=>
 ((ay Pr GN [.slice U.a U.n U.c,.slice X.a X.n X.c,.slice Z.a Z.n Z.c] (World.drew s) fun aa ba=>
 br.bC aa fun ca=>
 aC ca fun da ea=>
 NL da fun fa ga ia ja ka la=>
 aC ea fun ma na=>
 (na=[]∧
 nw cR (zc Pr cR) ba fun oa pa=>
 (kept (Addr.add (Addr.add Y 0) 13) 1 ba pa∧
 (kept (Addr.add (Addr.add V 14) 1) 1 ba pa∧
 (kept (Addr.add (Addr.add T 14) 5) 1 ba pa∧
 om oa fa ga ia ja ka la pa fun qa=>
 S oa ma qa)))))∧
 (nw cR (zc Pr cR) (World.drew s) fun sa ta=>
 (kept (Addr.add (Addr.add Y 0) 13) 1 (World.drew s) ta∧
 (kept (Addr.add (Addr.add V 14) 1) 1 (World.drew s) ta∧
 (kept (Addr.add (Addr.add T 14) 5) 1 (World.drew s) ta∧
 ay Pr GN [.slice U.a U.n U.c,.slice X.a X.n X.c,.slice Z.a Z.n Z.c] ta fun ua va=>
 br.bC ua fun xa=>
 aC xa fun ya za=>
 NL ya fun Aa Ba Ca Da Ea Fa=>
 aC za fun Ga Ia=>
 (Ia=[]∧
 om sa Aa Ba Ca Da Ea Fa va fun Ja=>
 S sa Ga Ja))))))))
 (ay Pr lC [.int .i64 10] s fun La Ma=>
 R La Ma))
 (fun Na=>
 aA (decide (p=9))
 (Na (decide (p=9)) m)
 (aA (decide (p=10))
 (Na (decide (p=10)) m)
 (Na (decide (p=11)) m))))))
theorem ab9 {j:Option Addr} {w:World} {R:Value→World→Prop} (h:KQ j w R):Ok Pr KP [.pointer j] w R:=
 aL (m:=⟨true,true⟩) (J:=[(8,[(36,.bool)]),(9,[(4,.Cu),(5,.val)])]) (L:=[]) aJ Tryz.func54 (by kernel_rfl) ((by kernel_rfl:aK Pr _ _ _ Tryz.f54 _ w R=KQ j w R).mpr h)
def K1 (j:Option Addr) (w:World) (R:Value→World→Prop):Prop:=
 nw bD (zc Pr bD) w fun a b=>
 bw j fun c=>
 ax (Addr.add (Addr.add c 14) 2) (World.drew b) fun d=>
 bw j fun e=>
 an .i64 (Addr.add (Addr.add e 0) 3) (World.drew b) fun f=>
 bw j fun g=>
 fW (Addr.add (Addr.add g 0) 11) (World.drew b) fun i=>
 ay Pr MN [.slice d.a d.n d.c,.int .i64 f,.string i] (World.drew b) fun k l=>
 br.bC k fun m=>
 aC m fun n o=>
 aT n fun p=>
 aC o fun q s=>
 aY .i64 q fun t=>
 aC s fun u v=>
 (v=[]∧
 bw j fun x=>
 st (Addr.add (Addr.add x 14) 2) (.slice p.a p.n p.c) l fun y=>
 bF a 0 t ⟨none,0,0⟩ ⟨none,0,0⟩ y fun z=>
 cz a z fun A B C D=>
 R (.tuple ⟨[.agg ⟨[.int .i64 A,.int .i64 B,.slice C.a C.n C.c,.slice D.a D.n D.c]⟩,u]⟩) z)
theorem acg {j:Option Addr} {w:World} {R:Value→World→Prop} (h:K1 j w R):Ok Pr KT [.pointer j] w R:=
 aL (m:=⟨true,true⟩) (J:=[]) (L:=[]) aJ Tryz.func55 (by kernel_rfl) ((by kernel_rfl:aK Pr _ _ _ Tryz.f55 _ w R=K1 j w R).mpr h)
def K4 (j:Option Addr) (w:World) (R:Value→World→Prop):Prop:=
 nw bD (zc Pr bD) w fun a b=>
 ay Pr G7 [.int .i64 1] b fun c d=>
 br.bC c fun e=>
 aC e fun f g=>
 aY .i64 f fun i=>
 aC g fun k l=>
 aY .i64 k fun m=>
 aC l fun n o=>
 aY .i64 n fun p=>
 (o=[]∧
 bw j fun q=>
 ax (Addr.add (Addr.add q 0) 12) d fun s=>
 aA (!decide ((s.n:Int)=i))
 (ay Pr lC [.int .i64 3] d fun t u=>
 bF a 0 0 ⟨none,0,0⟩ ⟨none,0,0⟩ u fun v=>
 cz a v fun x y z B=>
 R (.tuple ⟨[.agg ⟨[.int .i64 x,.int .i64 y,.slice z.a z.n z.c,.slice B.a B.n B.c]⟩,t]⟩) v)
 (bw j fun C=>
 ax (Addr.add (Addr.add C 14) 3) d fun D=>
 aA (decide ((D.n:Int)=6))
 (ay Pr lC [.int .i64 12] d fun E F=>
 bF a 0 0 ⟨none,0,0⟩ ⟨none,0,0⟩ F fun G=>
 cz a G fun I J L M=>
 R (.tuple ⟨[.agg ⟨[.int .i64 I,.int .i64 J,.slice L.a L.n L.c,.slice M.a M.n M.c]⟩,E]⟩) G)
 (bw j fun N=>
 ax (Addr.add (Addr.add N 14) 3) d fun O=>
 (aF ((O.n:Int)+1)∧
 lt (A:=Int) ((O.n:Int)+1) fun Q=>
 bw j fun S=>
 ax (Addr.add (Addr.add S 14) 3) (World.drew d) fun T=>
 bw j fun U=>
 an .i64 (Addr.add (Addr.add U 0) 3) (World.drew d) fun V=>
 bw j fun X=>
 ax (Addr.add (Addr.add X 0) 12) (World.drew d) fun Y=>
 nw fR [.int .i64 Q,.int .i64 V,.slice Y.a Y.n Y.c,.int .i64 0,.int .u64 0] (World.drew d) fun Z aa=>
 (kept (Addr.add (Addr.add S 14) 3) 1 (World.drew d) aa∧
 cH Pr [sQ,sQ] sQ [.slice T.a T.n T.c,.slice (some Z) 1 1] aa fun ba ca=>
 bw j fun da=>
 st (Addr.add (Addr.add da 14) 3) (.slice ba.a ba.n ba.c) ca fun ea=>
 bw j fun fa=>
 bN (Addr.add fa 14) ea fun ga ia ja ka la ma=>
 ay Pr Dl [.agg ⟨[.int .i64 ga,.slice ia.a ia.n ia.c,.slice ja.a ja.n ja.c,.slice ka.a ka.n ka.c,.slice la.a la.n la.c,.slice ma.a ma.n ma.c]⟩] ea fun na oa=>
 dJ na fun pa qa sa ta ua va=>
 bw j fun xa=>
 bI (Addr.add xa 14) pa qa sa ta ua va oa fun ya=>
 bF a 0 Q ⟨none,0,0⟩ ⟨none,0,0⟩ ya fun za=>
 cz a za fun Aa Ba Ca Da=>
 R (.tuple ⟨[.agg ⟨[.int .i64 Aa,.int .i64 Ba,.slice Ca.a Ca.n Ca.c,.slice Da.a Da.n Da.c]⟩,.nilIface]⟩) za)))))
theorem ach {j:Option Addr} {w:World} {R:Value→World→Prop} (h:K4 j w R):Ok Pr KU [.pointer j] w R:=
 aL (m:=⟨true,true⟩) (J:=[]) (L:=[]) aJ Tryz.func56 (by kernel_rfl) ((by kernel_rfl:aK Pr _ _ _ Tryz.f56 _ w R=K4 j w R).mpr h)
def K5 (j:Option Addr) (w:World) (R:Value→World→Prop):Prop:=
 nw bD (zc Pr bD) w fun a b=>
 jZ []
 (fun c=>bw j fun d=>
 ax (Addr.add (Addr.add d 14) 4) c fun e=>
 (aF ((e.n:Int)+1)∧
 lt (A:=Int) ((e.n:Int)+1) fun f=>
 uN (fun (g:Addr) (i:Value)=>[(5,some (.pointer (some g))),(6,some (i))])
 (fun g i k=>fB i fun l=>
 aA (!l)
 (bF a 0 0 ⟨none,0,0⟩ ⟨none,0,0⟩ k fun m=>
 cz a m fun n o p q=>
 R (.tuple ⟨[.agg ⟨[.int .i64 n,.int .i64 o,.slice p.a p.n p.c,.slice q.a q.n q.c]⟩,i]⟩) m)
 (bw j fun s=>
 ax (Addr.add (Addr.add s 14) 4) (World.drew k) fun t=>
 bu g (World.drew k) fun u v x y=>
 nw aZ [.int .i64 u,.int .i64 v,.int .i64 x,.slice y.a y.n y.c] (World.drew k) fun z B=>
 (kept (Addr.add (Addr.add s 14) 4) 1 (World.drew k) B∧
 cH Pr [sS,sS] sS [.slice t.a t.n t.c,.slice (some z) 1 1] B fun C D=>
 bw j fun E=>
 st (Addr.add (Addr.add E 14) 4) (.slice C.a C.n C.c) D fun F=>
 bu g F fun G I J L=>
 ay Pr GX [.agg ⟨[.int .i64 G,.int .i64 I,.int .i64 J,.slice L.a L.n L.c]⟩,.int .i64 1] F fun M N=>
 br.bC M fun O=>
 aC O fun Q S=>
 aT Q fun T=>
 aC S fun U V=>
 (V=[]∧
 bF a 0 f T ⟨none,0,0⟩ N fun X=>
 cz a X fun Y Z aa ba=>
 R (.tuple ⟨[.agg ⟨[.int .i64 Y,.int .i64 Z,.slice aa.a aa.n aa.c,.slice ba.a ba.n ba.c]⟩,U]⟩) X))))
 (fun ca=>
 bw j fun da=>
 an .i64 (Addr.add (Addr.add da 0) 3) (World.drew c) fun ea=>
 bw j fun fa=>
 an .i64 (Addr.add (Addr.add fa 0) 6) (World.drew c) fun ga=>
 bw j fun ia=>
 ax (Addr.add ia 21) (World.drew c) fun ja=>
 ((ay Pr HB [.int .i64 f,.int .i64 ea,.int .i64 ga,.slice ja.a ja.n ja.c] (World.drew c) fun ka la=>
 br.bC ka fun ma=>
 aC ma fun na oa=>
 qZ na fun pa qa sa ta=>
 aC oa fun ua va=>
 (va=[]∧
 nw aZ (zc Pr aZ) la fun xa ya=>
 (kept (Addr.add ia 21) 1 la ya∧
 (kept (Addr.add (Addr.add fa 0) 6) 1 la ya∧
 (kept (Addr.add (Addr.add da 0) 3) 1 la ya∧
 cD xa pa qa sa ta ya fun za=>
 ca xa ua za)))))∧
 (nw aZ (zc Pr aZ) (World.drew c) fun Aa Ba=>
 (kept (Addr.add ia 21) 1 (World.drew c) Ba∧
 (kept (Addr.add (Addr.add fa 0) 6) 1 (World.drew c) Ba∧
 (kept (Addr.add (Addr.add da 0) 3) 1 (World.drew c) Ba∧
 ay Pr HB [.int .i64 f,.int .i64 ea,.int .i64 ga,.slice ja.a ja.n ja.c] Ba fun Ca Da=>
 br.bC Ca fun Ea=>
 aC Ea fun Fa Ga=>
 qZ Fa fun Ia Ja La Ma=>
 aC Ga fun Na Oa=>
 (Oa=[]∧
 cD Aa Ia Ja La Ma Da fun Qa=>
 ca Aa Na Qa)))))))))
 (fun Sa=>
 jh (fun (Ta:Bool)=>[(8,some (.bool Ta))])
 (fun Ta Ua=>aA Ta
 (ay Pr lC [.int .i64 2] Ua fun Va Xa=>
 bF a 0 0 ⟨none,0,0⟩ ⟨none,0,0⟩ Xa fun Ya=>
 cz a Ya fun Za ab bb cb=>
 R (.tuple ⟨[.agg ⟨[.int .i64 Za,.int .i64 ab,.slice bb.a bb.n bb.c,.slice cb.a cb.n cb.c]⟩,Va]⟩) Ya)
 (bw j fun db=>
 ax (Addr.add db 21) Ua fun eb=>
 aA (!decide ((eb.n:Int)=64))
 (ay Pr lC [.int .i64 3] Ua fun fb gb=>
 bF a 0 0 ⟨none,0,0⟩ ⟨none,0,0⟩ gb fun ib=>
 cz a ib fun jb kb lb mb=>
 R (.tuple ⟨[.agg ⟨[.int .i64 jb,.int .i64 kb,.slice lb.a lb.n lb.c,.slice mb.a mb.n mb.c]⟩,fb]⟩) ib)
 (bw j fun nb=>
 ax (Addr.add (Addr.add nb 14) 4) Ua fun ob=>
 aA (decide ((ob.n:Int)=6))
 (ay Pr lC [.int .i64 12] Ua fun pb qb=>
 bF a 0 0 ⟨none,0,0⟩ ⟨none,0,0⟩ qb fun sb=>
 cz a sb fun tb ub vb xb=>
 R (.tuple ⟨[.agg ⟨[.int .i64 tb,.int .i64 ub,.slice vb.a vb.n vb.c,.slice xb.a xb.n xb.c]⟩,pb]⟩) sb)
 (Sa Ua))))
 (fun yb=>
 bw j fun zb=>
 an .i64 (Addr.add (Addr.add zb 0) 6) b fun Ab=>
 aA (decide (Ab<1))
 (yb true b)
 (bw j fun Bb=>
 an .i64 (Addr.add (Addr.add Bb 0) 6) b fun Cb=>
 yb (decide (3<Cb)) b)))
theorem aci {j:Option Addr} {w:World} {R:Value→World→Prop} (h:K5 j w R):Ok Pr KV [.pointer j] w R:=
 aL (m:=⟨true,true⟩) (J:=[(7,[]),(2,[(8,.bool)]),(9,[(5,.Cu),(6,.val)])]) (L:=[]) aJ Tryz.func57 (by kernel_rfl) ((by kernel_rfl:aK Pr _ _ _ Tryz.f57 _ w R=K5 j w R).mpr h)
def Mj (j:Option Addr) (w:World) (R:Value→World→Prop):Prop:=
 nw bD (zc Pr bD) w fun a b=>
 bw j fun c=>
 ax (Addr.add (Addr.add c 14) 4) (World.drew b) fun d=>
 bw j fun e=>
 an .i64 (Addr.add (Addr.add e 0) 4) (World.drew b) fun f=>
 (aF (f - 1)∧
 aQ d.a (f - 1) d.n
 (bu (Addr.add (base d.a) (Int.toNat (f - 1) * 4)) (World.drew b) fun g i k l=>
 nw aZ (zc Pr aZ) (World.drew b) fun m n=>
 (kept (Addr.add (base d.a) (Int.toNat (f - 1) * 4)) 4 (World.drew b) n∧
 (kept (Addr.add (Addr.add e 0) 4) 1 (World.drew b) n∧
 (kept (Addr.add (Addr.add c 14) 4) 1 (World.drew b) n∧
 cD m g i k l n fun o=>
 nw bD (zc Pr bD) o fun p q=>
 jh (fun (s:ah)=>[(6,some (.slice s.a s.n s.c))])
 (fun s t=>cZ (fun (u:Int)=>[(78,some (.int .i64 u))])
 (fun v u x=>aA (decide (u<(s.n:Int)))
 (aQ s.a u s.n
 (an .u8 (Addr.add (base s.a) (Int.toNat u * 1)) x fun y=>
 ax (Addr.add p 3) x fun z=>
 aQ z.a u z.n
 (an .u8 (Addr.add (base z.a) (Int.toNat u * 1)) x fun A=>
 aQ z.a u z.n
 (st (Addr.add (base z.a) (Int.toNat u * 1)) (.int .u8 (oE .u8 A y)) x fun B=>
 (aF (u+1)∧
 v (u+1) B)))))
 (cz p x fun C D E F=>
 bF a C D E F x fun G=>
 cz a G fun I J L M=>
 R (.tuple ⟨[.agg ⟨[.int .i64 I,.int .i64 J,.slice L.a L.n L.c,.slice M.a M.n M.c]⟩,.nilIface]⟩) G))
 0 t)
 (fun N=>
 bw j fun O=>
 an .i64 (Addr.add (Addr.add O 0) 2) q fun Q=>
 jh (fun (S:ah)=>[(6,some (.slice S.a S.n S.c))])
 (fun S T=>bu m (World.drew T) fun U V X Y=>
 bw j fun Z=>
 ax (Addr.add Z 21) (World.drew T) fun aa=>
 ay Pr OH [.agg ⟨[.int .i64 U,.int .i64 V,.int .i64 X,.slice Y.a Y.n Y.c]⟩,.slice aa.a aa.n aa.c] (World.drew T) fun ba ca=>
 br.bC ba fun da=>
 aC da fun ea fa=>
 aY .i64 ea fun ga=>
 aC fa fun ia ja=>
 aT ia fun ka=>
 aC ja fun la ma=>
 aT la fun na=>
 aC ma fun oa pa=>
 (pa=[]∧
 st (Addr.add p 1) (.int .i64 ga) ca fun qa=>
 st (Addr.add p 2) (.slice ka.a ka.n ka.c) qa fun sa=>
 st (Addr.add p 3) (.slice na.a na.n na.c) sa fun ta=>
 fB oa fun ua=>
 aA (!ua)
 (bF a 0 0 ⟨none,0,0⟩ ⟨none,0,0⟩ ta fun va=>
 cz a va fun xa ya za Aa=>
 R (.tuple ⟨[.agg ⟨[.int .i64 xa,.int .i64 ya,.slice za.a za.n za.c,.slice Aa.a Aa.n Aa.c]⟩,oa]⟩) va)
 (N S ta)))
 (fun Ba=>
 jZ []
 (fun Ca=>bu m (World.drew Ca) fun Da Ea Fa Ga=>
 bw j fun Ia=>
 an .i64 (Addr.add (Addr.add Ia 0) 5) (World.drew Ca) fun Ja=>
 bw j fun La=>
 ax (Addr.add (Addr.add La 0) 12) (World.drew Ca) fun Ma=>
 ay Pr OG [.agg ⟨[.int .i64 Da,.int .i64 Ea,.int .i64 Fa,.slice Ga.a Ga.n Ga.c]⟩,.int .i64 Ja,.slice Ma.a Ma.n Ma.c] (World.drew Ca) fun Na Oa=>
 br.bC Na fun Qa=>
 aC Qa fun Sa Ta=>
 aT Sa fun Ua=>
 aC Ta fun Va Xa=>
 (Xa=[]∧
 fB Va fun Ya=>
 aA (!Ya)
 (cz p Oa fun Za ab bb cb=>
 bF a Za ab bb cb Oa fun db=>
 cz a db fun eb fb gb ib=>
 R (.tuple ⟨[.agg ⟨[.int .i64 eb,.int .i64 fb,.slice gb.a gb.n gb.c,.slice ib.a ib.n ib.c]⟩,Va]⟩) db)
 (bw j fun jb=>
 an .i64 (Addr.add (Addr.add jb 0) 2) Oa fun kb=>
 aA (decide (kb=10))
 (bF a 0 0 Ua ⟨none,0,0⟩ Oa fun lb=>
 cz a lb fun mb nb ob pb=>
 R (.tuple ⟨[.agg ⟨[.int .i64 mb,.int .i64 nb,.slice ob.a ob.n ob.c,.slice pb.a pb.n pb.c]⟩,.nilIface]⟩) lb)
 (Ba Ua Oa))))
 (fun qb=>
 aA (decide (Q=11))
 (aA (decide (Q=11))
 (qb q)
 (Ba ⟨none,0,0⟩ q))
 (aA (decide (Q=10))
 (qb q)
 (Ba ⟨none,0,0⟩ q))))))))))
theorem adh {j:Option Addr} {w:World} {R:Value→World→Prop} (h:Mj j w R):Ok Pr LL [.pointer j] w R:=
 aL (m:=⟨true,true⟩) (J:=[(16,[(6,.sl)]),(13,[(6,.sl)]),(8,[])]) (L:=[(17,[(78,.int .i64)])]) aJ Tryz.func58 (by kernel_rfl) ((by kernel_rfl:aK Pr _ _ _ Tryz.f58 _ w R=Mj j w R).mpr h)
def Lu (j:Option Addr) (w:World) (R:Value→World→Prop):Prop:=
 nw bD (zc Pr bD) w fun a b=>
 bw j fun c=>
 an .i64 (Addr.add (Addr.add c 0) 2) b fun d=>
 aA (decide (d=13))
 (bw j fun e=>
 ax (Addr.add (Addr.add e 14) 5) (World.drew b) fun f=>
 bw j fun g=>
 an .i64 (Addr.add (Addr.add g 0) 7) (World.drew b) fun i=>
 ay Pr LO [.slice f.a f.n f.c,.int .i64 i] (World.drew b) fun k l=>
 br.bC k fun m=>
 aC m fun n o=>
 aT n fun p=>
 aC o fun q s=>
 (s=[]∧
 bw j fun t=>
 st (Addr.add (Addr.add t 14) 5) (.slice p.a p.n p.c) l fun u=>
 bF a 0 0 ⟨none,0,0⟩ ⟨none,0,0⟩ u fun v=>
 cz a v fun x y z A=>
 R (.tuple ⟨[.agg ⟨[.int .i64 x,.int .i64 y,.slice z.a z.n z.c,.slice A.a A.n A.c]⟩,q]⟩) v))
 (bw j fun B=>
 an .i64 (Addr.add (Addr.add B 0) 10) (World.drew b) fun C=>
 bw j fun D=>
 an .i64 (Addr.add (Addr.add D 14) 0) (World.drew b) fun E=>
 aA (decide (C≤E))
 (ay Pr lC [.int .i64 2] (World.drew b) fun F G=>
 bF a 0 0 ⟨none,0,0⟩ ⟨none,0,0⟩ G fun I=>
 cz a I fun J L M N=>
 R (.tuple ⟨[.agg ⟨[.int .i64 J,.int .i64 L,.slice M.a M.n M.c,.slice N.a N.n N.c]⟩,F]⟩) I)
 (bw j fun O=>
 ax (Addr.add (Addr.add O 14) 5) (World.drew (World.drew b)) fun Q=>
 bw j fun S=>
 an .i64 (Addr.add (Addr.add S 0) 4) (World.drew (World.drew b)) fun T=>
 bw j fun U=>
 an .i64 (Addr.add (Addr.add U 0) 8) (World.drew (World.drew b)) fun V=>
 bw j fun X=>
 an .i64 (Addr.add (Addr.add X 0) 9) (World.drew (World.drew b)) fun Y=>
 bw j fun Z=>
 an .i64 (Addr.add (Addr.add Z 0) 10) (World.drew (World.drew b)) fun aa=>
 ay Pr NF [.slice Q.a Q.n Q.c,.agg ⟨[.int .i64 0,.int .i64 T,.int .i64 V,.int .i64 Y,.int .i64 aa,.bool false]⟩] (World.drew (World.drew b)) fun ba ca=>
 br.bC ba fun da=>
 aC da fun ea fa=>
 aT ea fun ga=>
 aC fa fun ia ja=>
 aY .i64 ia fun ka=>
 aC ja fun la ma=>
 (ma=[]∧
 fB la fun na=>
 aA (!na)
 (bF a 0 0 ⟨none,0,0⟩ ⟨none,0,0⟩ ca fun oa=>
 cz a oa fun pa qa sa ta=>
 R (.tuple ⟨[.agg ⟨[.int .i64 pa,.int .i64 qa,.slice sa.a sa.n sa.c,.slice ta.a ta.n ta.c]⟩,la]⟩) oa)
 (bw j fun ua=>
 st (Addr.add (Addr.add ua 14) 5) (.slice ga.a ga.n ga.c) ca fun va=>
 bw j fun xa=>
 ax (Addr.add (Addr.add xa 14) 1) (World.drew va) fun ya=>
 (aF (ka - 1)∧
 aQ ga.a (ka - 1) ga.n
 (iF (Addr.add (base ga.a) (Int.toNat (ka - 1) * 6)) (World.drew va) fun za Aa Ba Ca Da Ea=>
 ay Pr GO [.slice ya.a ya.n ya.c,.agg ⟨[.int .i64 za,.int .i64 Aa,.int .i64 Ba,.int .i64 Ca,.int .i64 Da,.bool Ea]⟩] (World.drew va) fun Fa Ga=>
 aT Fa fun Ia=>
 bF a 0 ka Ia ⟨none,0,0⟩ Ga fun Ja=>
 cz a Ja fun La Ma Na Oa=>
 R (.tuple ⟨[.agg ⟨[.int .i64 La,.int .i64 Ma,.slice Na.a Na.n Na.c,.slice Oa.a Oa.n Oa.c]⟩,.nilIface]⟩) Ja))))))
theorem acu {j:Option Addr} {w:World} {R:Value→World→Prop} (h:Lu j w R):Ok Pr Ll [.pointer j] w R:=
 aL (m:=⟨true,true⟩) (J:=[]) (L:=[]) aJ Tryz.func59 (by kernel_rfl) ((by kernel_rfl:aK Pr _ _ _ Tryz.f59 _ w R=Lu j w R).mpr h)
def K9 (j:Option Addr) (w:World) (R:Value→World→Prop):Prop:=
 nw bD (zc Pr bD) w fun a b=>
 bw j fun c=>
 ax (Addr.add (Addr.add c 14) 4) (World.drew b) fun d=>
 bw j fun e=>
 an .i64 (Addr.add (Addr.add e 0) 4) (World.drew b) fun f=>
 (aF (f - 1)∧
 aQ d.a (f - 1) d.n
 (nw bD (zc Pr bD) (World.drew b) fun g i=>
 bu (Addr.add (base d.a) (Int.toNat (f - 1) * 4)) i fun k l m n=>
 nw aZ (zc Pr aZ) i fun o p=>
 cD o k l m n p fun q=>
 jh (fun (s:Value)=>[(6,some (s))])
 (fun s t=>fB s fun u=>
 aA (!u)
 (bF a 0 0 ⟨none,0,0⟩ ⟨none,0,0⟩ t fun v=>
 cz a v fun x y z A=>
 R (.tuple ⟨[.agg ⟨[.int .i64 x,.int .i64 y,.slice z.a z.n z.c,.slice A.a A.n A.c]⟩,s]⟩) v)
 (bu o t fun B C D E=>
 cD (Addr.add (base d.a) (Int.toNat (f - 1) * 4)) B C D E t fun F=>
 cz g F fun G I J L=>
 bF a G I J L F fun M=>
 cz a M fun N O Q S=>
 R (.tuple ⟨[.agg ⟨[.int .i64 N,.int .i64 O,.slice Q.a Q.n Q.c,.slice S.a S.n S.c]⟩,.nilIface]⟩) M))
 (fun T=>
 bw j fun U=>
 an .i64 (Addr.add (Addr.add U 0) 2) q fun V=>
 aA (decide (V=4))
 (bu (Addr.add (base d.a) (Int.toNat (f - 1) * 4)) (World.drew q) fun X Y Z aa=>
 bw j fun ba=>
 ax (Addr.add ba 21) (World.drew q) fun ca=>
 ay Pr MO [.agg ⟨[.int .i64 X,.int .i64 Y,.int .i64 Z,.slice aa.a aa.n aa.c]⟩,.slice ca.a ca.n ca.c] (World.drew q) fun da ea=>
 br.bC da fun fa=>
 aC fa fun ga ia=>
 qZ ga fun ja ka la ma=>
 aC ia fun na oa=>
 (oa=[]∧
 cD o ja ka la ma ea fun pa=>
 fB na fun qa=>
 aA (!qa)
 (cz g pa fun sa ta ua va=>
 bF a sa ta ua va pa fun xa=>
 cz a xa fun ya za Aa Ba=>
 R (.tuple ⟨[.agg ⟨[.int .i64 ya,.int .i64 za,.slice Aa.a Aa.n Aa.c,.slice Ba.a Ba.n Ba.c]⟩,na]⟩) xa)
 (ax (Addr.add o 3) pa fun Ca=>
 st (Addr.add g 1) (.int .i64 (Ca.n:Int)) pa fun Da=>
 bu o Da fun Ea Fa Ga Ia=>
 an .i64 (Addr.add g 1) Da fun Ja=>
 ay Pr GX [.agg ⟨[.int .i64 Ea,.int .i64 Fa,.int .i64 Ga,.slice Ia.a Ia.n Ia.c]⟩,.int .i64 Ja] Da fun La Ma=>
 br.bC La fun Na=>
 aC Na fun Oa Qa=>
 aT Oa fun Sa=>
 aC Qa fun Ta Ua=>
 (Ua=[]∧
 st (Addr.add g 2) (.slice Sa.a Sa.n Sa.c) Ma fun Va=>
 T Ta Va))))
 (bu (Addr.add (base d.a) (Int.toNat (f - 1) * 4)) (World.drew q) fun Xa Ya Za ab=>
 bw j fun bb=>
 an .i64 (Addr.add (Addr.add bb 0) 2) (World.drew q) fun cb=>
 bw j fun db=>
 an .i64 (Addr.add (Addr.add db 0) 5) (World.drew q) fun eb=>
 bw j fun fb=>
 an .i64 (Addr.add (Addr.add fb 0) 10) (World.drew q) fun gb=>
 bw j fun ib=>
 an .i64 (Addr.add (Addr.add ib 14) 0) (World.drew q) fun jb=>
 ay Pr Py [.agg ⟨[.int .i64 Xa,.int .i64 Ya,.int .i64 Za,.slice ab.a ab.n ab.c]⟩,.int .i64 cb,.int .i64 eb,.int .i64 gb,.int .i64 jb] (World.drew q) fun kb lb=>
 br.bC kb fun mb=>
 aC mb fun nb ob=>
 qZ nb fun pb qb sb tb=>
 aC ob fun ub vb=>
 (vb=[]∧
 cD o pb qb sb tb lb fun xb=>
 T ub xb)))))
theorem acj {j:Option Addr} {w:World} {R:Value→World→Prop} (h:K9 j w R):Ok Pr KW [.pointer j] w R:=
 aL (m:=⟨true,true⟩) (J:=[(13,[(6,.val)])]) (L:=[]) aJ Tryz.func60 (by kernel_rfl) ((by kernel_rfl:aK Pr _ _ _ Tryz.f60 _ w R=K9 j w R).mpr h)
end Go.Proofs.YtgjoehgomjgckaaGreatDoor
end
