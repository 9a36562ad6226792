/- Texts of this claim, packed and shortened. -/
import Derived.KernelRfl
import Derived.Test.YtpchgbolambkcaaGreatDoorQ4
import Derived.Test.YtpchgbolambkcaaGreatDoorQ2
import Derived.Test.YtpchgbolambkcaaGreatDoorQ3
import Derived.Test.YtpchgbolambkcaaGreatDoorQ1
section
set_option linter.unusedVariables false
set_option linter.unusedSimpArgs false
namespace Go.Ev
open Go Go.RowKit
set_option linter.unusedVariables false
def mq (tb:TypeId) (w w':World):Prop:=∀ b cs t,bQ w b cs t→∃ fS,bQ w' b fS t∧fS.length=cs.length∧(t≠tb→∀ k,k % 4=3→fS[k]? = cs[k]?∨(k<cs.length∧fS[k]? = some (.slice none 0 0)))
theorem bQ.inj {w:World} {b:Nat} {cs ds:List Value} {t u:TypeId} (h:bQ w b cs t) (k:bQ w b ds u):cs=ds∧t=u:=by
 have:=h.symm.trans k
 simp only [Option.some.injEq,Obj.cells.injEq,Array.mk.injEq] at this
 exact ⟨this.1,this.2.1⟩
section
variable {tb:TypeId} {w w' w2:World}
theorem mq.trans (h:mq tb w w') (k:mq tb w' w2):mq tb w w2:=fun b cs t hb=>by
 obtain ⟨c1,h1,h2,h3⟩:=h b cs t hb
 obtain ⟨c2,k1,k2,k3⟩:=k b c1 t h1
 refine ⟨c2,k1,k2.trans h2,fun ht i hi=>?_⟩
 rcases k3 ht i hi with e | ⟨e1,e2⟩
 ·rw [e]; exact h3 ht i hi
 ·exact .inr ⟨by omega,e2⟩
theorem mq.aI (m:Mod [] w w'):mq tb w w':=fun b cs t hb=>⟨cs,hb.aI m,rfl,fun _ k _=>.inl rfl⟩
theorem mq.av {g:Nat} {cs fS:List Value} {t:TypeId} (m:Mod [g] w w') (h:bQ w g cs t) (h':bQ w' g fS t) (hl:fS.length=cs.length) (hs:t≠tb→∀ k,k % 4=3→fS[k]? = cs[k]?∨(k<cs.length∧fS[k]? = some (.slice none 0 0))):mq tb w w':=fun b ds u hb=>by
 by_cases e:b=g
 ·subst e
  obtain ⟨rfl,rfl⟩:=hb.inj h
  exact ⟨fS,h',hl,hs⟩
 ·exact ⟨ds,hb.mod m (by simpa using e),rfl,fun _ k _=>.inl rfl⟩
def U8 (tb:TypeId) (F:List Nat) (w:World) (y:ah):Prop:=(y.a=none∧y.c=0∧y.n=0)∨∃ g o cs,g∈F∧y.a=some ⟨g,o,none⟩∧bQ w g cs tb∧y.n≤100000000∧y.n≤y.c∧o+y.c≤cs.length
variable {F:List Nat} {y:ah}
theorem U8.zR (h:U8 tb F w y) (o:mq tb w w'):U8 tb F w' y:=by
 rcases h with h | ⟨g,f,cs,h1,h2,h3,h4,h5,h6⟩
 ·exact .inl h
 ·obtain ⟨fS,k1,k2,_⟩:=o g cs tb h3
  exact .inr ⟨g,f,fS,h1,h2,k1,h4,h5,by omega⟩
theorem U8.iu (h:U8 tb F w y) (o:∀ b∈F,w'.heap[b]? = w.heap[b]?):U8 tb F w' y:=by
 rcases h with h | ⟨g,f,cs,h1,h2,h3,h4⟩
 ·exact .inl h
 ·exact .inr ⟨g,f,cs,h1,h2,(o g h1).trans h3,h4⟩
theorem U8.row (h:U8 tb F w y):∀ b∈y.row,b∈F:=by
 rcases h with ⟨h,_⟩ | ⟨g,f,cs,h1,h2,_⟩
 ·simp [ah.row,h]
 ·intro b hb
  have:b=g:=by simpa [ah.row,h2] using hb
  rw [this]; exact h1
theorem al4 {e:TypeId} {sz:Nat} (h:∀ w',(∀ b∈F,w'.heap[b]? = w.heap[b]?)→∃ vs,Own w' 0 e sz y vs):∀ b∈y.row,b∈F:=by
 intro b hb
 apply Classical.byContradiction
 intro hn
 obtain ⟨vs,h0⟩:=h w fun _ _=>rfl
 have cI:=(Own.tP h0 b hb).2
 obtain ⟨us,hu⟩:=h { w with heap:=w.heap.setIfInBounds b (.cells #[] e (1,0)) } fun c hc=>by
  have:b≠c:=fun e=>hn (e ▸ hc)
  show (w.heap.setIfInBounds b _)[c]? = _
  rw [Array.getElem?_setIfInBounds_ne this]
 obtain ⟨hl,h1 | ⟨g,cap,cur,h1,h2,h3,h4⟩⟩:=hu
 ·obtain ⟨a,n,c⟩:=y
  simp only [ah.v,Value.slice.injEq] at h1
  obtain ⟨⟨rfl,-,-⟩,-⟩:=h1
  simp [ah.row] at hb
 ·simp only [ah.v,Value.slice.injEq] at h1
  have hy:y.a=some ⟨g,0,none⟩:=h1.1
  have hbg:b=g:=by simpa [ah.row,hy] using hb
  subst hbg
  have h3:(w.heap.setIfInBounds b (.cells #[] e (1,0)))[b]? = some (.cells cur e (0,0)):=h3
  rw [Array.getElem?_setIfInBounds_self_of_lt cI] at h3
  simp at h3
end
end Go.Ev
namespace Go.Proofs.YtpchgbolambkcaaGreatDoor
open Go Go.Ev
set_option maxRecDepth 20000
set_option linter.unusedVariables false
theorem Np (F:List Nat) (y:ah) (w:World) (hy:U8 aM F w y):Ok Pr zV [.slice y.a y.n y.c] w fun v w'=>v=.tuple ⟨[]⟩∧Mod y.row w w'∧mq aM w w':=by
 rcases hy with ⟨h1,h2,h3⟩ | ⟨g,o,cs,h1,h2,h3,h4,h5,h6⟩
 ·refine (afq y [] w ⟨by rw [h3]; rfl,.inl ⟨by simp [ah.v,h1,h2,h3],h3⟩⟩ (by simp)).mono fun v w' h=>⟨h.1,h.2,?_⟩
  have:y.row=[]:=by simp [ah.row,h1]
  exact mq.aI (by rw [← this]; exact h.2)
 ·refine (afr g cs y w h3 h5 (.inr ⟨o,h2,h6⟩) h4).mono ?_
  rintro v w' ⟨rfl,m,fS,hl,hb⟩
  have:y.row=[g]:=by simp [ah.row,h2]
  exact ⟨rfl,by rw [this]; exact m,mq.av m h3 hb hl fun h=>absurd rfl h⟩
end Go.Proofs.YtpchgbolambkcaaGreatDoor
end
section
set_option linter.unusedVariables false
set_option linter.unusedSimpArgs false
namespace Go.Proofs.YtpchgbolambkcaaGreatDoor
open Go Go.Ev
set_option maxRecDepth 100000
set_option linter.unusedVariables false
def g1:dY:=⟨1,1,2,1024,9,false⟩
theorem afl (x:ah) (l:List dY) (w:World) (hx:Own w 0 dJ 6 x (gX l)) (hl:l.length≤100000):Ok Pr M5 [.slice x.a x.n x.c] w fun v w'=>v=.tuple ⟨[]⟩∧Mod x.row w w':=by
 refine aeD ?_
 unfold Nm
 have H:=aq.tR (r:=.row dJ 6 x (gX l)) hx
 have oV:kO w x l:=hx.sl
 have cH:=oV.len
 refine ep 0 l.length (fun i w'=>∃ m:List Value,m.length=6 * l.length∧aq w x.row w' [.row dJ 6 x m]) rfl (by omega) ⟨_,YC l,H⟩ ?_ ?_
 ·rintro again i w1 _ hi ⟨m,hm,H⟩ aR
  have ea:∀ j:Nat,Addr.add (Addr.add (base x.a) (Int.toNat (i:Int) * 6)) j=Addr.add (base x.a) (i * 6+j):=fun j=>by rw [Int.toNat_natCast,add_add]
  refine ite_true (by rw [← cH]; simpa using hi) ⟨⟨Sl.pre oV (by omega),by omega,by omega⟩,?_⟩
  unfold tw
  refine H.jD 0 rfl (ea 0) (by omega) rfl fun w2 H=>?_
  refine H.jD 0 rfl (ea 1) (by simp only [List.length_set]; omega) rfl fun w3 H=>?_
  refine H.jD 0 rfl (ea 2) (by simp only [List.length_set]; omega) rfl fun w4 H=>?_
  refine H.jD 0 rfl (ea 3) (by simp only [List.length_set]; omega) rfl fun w5 H=>?_
  refine H.jD 0 rfl (ea 4) (by simp only [List.length_set]; omega) rfl fun w6 H=>?_
  refine H.jD 0 rfl (ea 5) (by simp only [List.length_set]; omega) rfl fun w7 H=>?_
  exact ⟨⟨by omega,by omega⟩,aR w7 ⟨_,by simp only [List.length_set]; exact hm,H⟩⟩
 ·rintro again w1 ⟨m,hm,H⟩
  refine ite_false (by rw [← cH]; simp) ?_
  refine H.vJ 0 KB rfl rfl (by intro u hu; simp only [List.mem_cons,List.not_mem_nil,or_false] at hu; rcases hu with rfl | rfl | rfl | rfl | rfl | rfl <;> rfl) (by omega) (by omega) fun s' w2 H _=>?_
  exact ⟨rfl,H.mod⟩
end Go.Proofs.YtpchgbolambkcaaGreatDoor
end
section
set_option linter.unusedVariables false
set_option linter.unusedSimpArgs false
namespace Go.Proofs.YtpchgbolambkcaaGreatDoor
open Go Go.Ev
set_option maxRecDepth 20000
set_option linter.unusedVariables false
def VO (F:List Nat) (w:World) (z:ah):Prop:=z.n=0∨∃ g cs,g∈F∧z.a=some ⟨g,0,none⟩∧bQ w g cs eW∧z.n≤1000000∧z.n * 4≤cs.length∧∀ k,k<z.n→∃ y:ah,cs[k * 4+3]? = some y.v∧U8 aM F w y
section
variable {w w':World} {F:List Nat} {z:ah}
theorem VO.zR (h:VO F w z) (o:mq aM w w'):VO F w' z:=by
 rcases h with h | ⟨g,cs,h1,h2,h3,h4,h5,h6⟩
 ·exact .inl h
 ·obtain ⟨fS,k1,k2,k3⟩:=o g cs _ h3
  refine .inr ⟨g,fS,h1,h2,k1,h4,by omega,fun k hk=>?_⟩
  obtain ⟨y,hy,hu⟩:=h6 k hk
  rcases k3 (by decide) (k * 4+3) (by omega) with e | ⟨_,e⟩
  ·exact ⟨y,by rw [e]; exact hy,hu.zR o⟩
  ·exact ⟨⟨none,0,0⟩,e,.inl ⟨rfl,rfl,rfl⟩⟩
theorem VO.iu (h:VO F w z) (o:∀ b∈F,w'.heap[b]? = w.heap[b]?):VO F w' z:=by
 rcases h with h | ⟨g,cs,h1,h2,h3,h4,h5,h6⟩
 ·exact .inl h
 ·refine .inr ⟨g,cs,h1,h2,(o g h1).trans h3,h4,h5,fun k hk=>?_⟩
  obtain ⟨y,hy,hu⟩:=h6 k hk
  exact ⟨y,hy,hu.iu o⟩
end
theorem KE {w:World} {g k:Nat} {cs:List Value} {v:Value} {K:World→Prop} (hb:bQ w g cs eW) (hk:k<cs.length) (hv:k % 4=3→v=.slice none 0 0) (h1:fW v=true)
  (h:∀ w',bQ w' g (cs.set k v) eW→Mod [g] w w'→mq aM w w'→K w'):Ev.st ⟨g,k,none⟩ v w K:=
 SM hb hk h1 fun w' h2 h3 _=>h w' h2 h3 (mq.av h3 hb h2 (by simp) fun _ j hj=>by
  rw [List.getElem?_set]
  by_cases e:k=j
  ·subst e
   rw [if_pos rfl,if_pos hk,hv hj]
   exact .inr ⟨hk,rfl⟩
  ·rw [if_neg e]
   exact .inl rfl)
theorem agN (i1 i2 i3:Int) (F:List Nat) (z:ah) (w:World) (hF:∀ b∈F,b<w.heap.size) (hz:VO F w z):Ok Pr N0 [.agg ⟨mP i1 i2 i3 z⟩] w fun v w'=>v=.tuple ⟨[]⟩∧Mod F w w'∧mq aM w w':=by
 refine afv ?_
 unfold N7
 refine oL fun p w1 hp hb m1 _=>?_
 have hpF:p∉F:=fun h=>by have:=hF p h; omega
 have UE:z.n≤1000000:=by
  rcases hz with h | ⟨g,cs,_,_,_,h,_⟩ <;> omega
 refine ep 0 z.n (fun i w'=>Mod F w w'∧mq aM w w'∧bQ w' p (mP i1 i2 i3 z) bW) rfl (by omega) ⟨m1.mono (by simp),mq.aI m1,hb⟩ ?_ ?_
 ·rintro again i w2 _ hi ⟨m,o,hb⟩ aR
  rcases hz.zR o with h | ⟨g,cs,h1,h2,h3,h4,h5,h6⟩
  ·omega
  obtain ⟨y,hy,hu⟩:=h6 i hi
  have Ly:p∉[g]:=by simp only [List.mem_singleton]; rintro rfl; exact hpF h1
  have cU:z.a.isSome=true∧(0:Int)≤(i:Int)∧(i:Int)<(z.n:Int):=⟨by rw [h2]; rfl,by omega,by omega⟩
  have ea:∀ j:Nat,Addr.add (Addr.add (base z.a) (Int.toNat (i:Int) * 4)) j=⟨g,i * 4+j,none⟩:=fun j=>by
   rw [h2]
   show Addr.add (Addr.add ⟨g,0,none⟩ _) j=_
   rw [add_add,an,Int.toNat_natCast]
  refine hb.ay (an p 3) rfl (ite_true (decide_eq_true (by omega)) (hb.ay (an p 3) rfl ⟨cU,?_⟩))
  refine ⟨y,by rw [ea,h3.cell]; exact hy,aC (Np F y w2 hu) ?_⟩
  rintro _ w3 ⟨rfl,m3,o3⟩
  have hyF:=hu.row
  have hb:=hb.mod m3 fun h=>hpF (hyF p h)
  obtain ⟨cs,gN⟩:∃ fS,bQ w3 g fS eW∧fS.length=cs.length:=by
   obtain ⟨fS,k1,k2,_⟩:=o3 g cs _ h3
   exact ⟨fS,k1,k2⟩
  have h3:=gN.1
  have hl:=gN.2
  refine hb.ay (an p 3) rfl ⟨cU,?_⟩
  unfold rT
  have mF:∀ {u u':World},Mod [g] u u'→Mod F u u':=fun m=>m.mono fun b hb=>by rw [List.mem_singleton.1 hb]; exact h1
  rw [ea 0,ea 1,ea 2,ea 3]
  refine KE h3 (by omega) (by omega) rfl fun w4 h4 m4 o4=>KE h4 (by simp only [List.length_set]; omega) (by omega) rfl fun w5 h5 m5 o5=>KE h5 (by simp only [List.length_set]; omega) (by omega) rfl fun w6 h6 m6 o6=>KE h6 (by simp only [List.length_set]; omega) (fun _=>rfl) rfl fun w7 h7 m7 o7=>?_
  exact ⟨⟨by omega,by omega⟩,aR w7 ⟨((((m.trans (m3.mono hyF)).trans (mF m4)).trans (mF m5)).trans (mF m6)).trans (mF m7),((((o.trans o3).trans o4).trans o5).trans o6).trans o7,(((hb.mod m4 Ly).mod m5 Ly).mod m6 Ly).mod m7 Ly⟩⟩
 ·rintro again w2 ⟨m,o,hb⟩
  exact hb.ay (an p 3) rfl (ite_false (decide_eq_false (by omega)) ⟨rfl,m,o⟩)
theorem aeY (x:ah) (l:List bZ) (w:World) (hx:Own w 0 cZ 3 x (gM l)) (hl:l.length≤100000):Ok Pr ML [.slice x.a x.n x.c] w fun v w'=>v=.tuple ⟨[]⟩∧Mod x.row w w':=by
 refine aem ?_
 unfold MS
 have H:=aq.tR (r:=.row cZ 3 x (gM l)) hx
 have oV:fE w x l:=fE.of hx.sl
 have cH:=oV.len
 have hlen:(gM l).length=3 * l.length:=by have:=hx.sl.len; omega
 refine ep 0 l.length (fun i w'=>∃ m:List Value,m.length=3 * l.length∧aq w x.row w' [.row cZ 3 x m]) rfl (by omega) ⟨_,hlen,H⟩ ?_ ?_
 ·rintro again i w1 _ hi ⟨m,hm,H⟩ aR
  have ea:∀ j:Nat,Addr.add (Addr.add (base x.a) (Int.toNat (i:Int) * 3)) j=Addr.add (base x.a) (i * 3+j):=fun j=>by rw [Int.toNat_natCast,add_add]
  refine ite_true (by rw [← cH]; simpa using hi) ⟨⟨Sl.pre hx.sl (by omega),by omega,by omega⟩,?_⟩
  unfold uX
  refine H.jD 0 rfl (ea 0) (by omega) rfl fun w2 H=>?_
  refine H.jD 0 rfl (ea 1) (by simp only [List.length_set]; omega) rfl fun w3 H=>?_
  refine H.jD 0 rfl (ea 2) (by simp only [List.length_set]; omega) rfl fun w4 H=>?_
  exact ⟨⟨by omega,by omega⟩,aR w4 ⟨_,by simp only [List.length_set]; exact hm,H⟩⟩
 ·rintro again w1 ⟨m,hm,H⟩
  refine ite_false (by rw [← cH]; simp) ?_
  refine H.vJ 0 AD rfl rfl (by intro u hu; simp only [List.mem_cons,List.not_mem_nil,or_false] at hu; rcases hu with rfl | rfl | rfl <;> rfl) (by omega) (by omega) fun s' w2 H _=>?_
  exact ⟨rfl,H.mod⟩
end Go.Proofs.YtpchgbolambkcaaGreatDoor
end
section
set_option linter.unusedVariables false
set_option linter.unusedSimpArgs false
namespace Go.Proofs.YtpchgbolambkcaaGreatDoor
open Go Go.Ev
set_option maxRecDepth 20000
set_option linter.unusedVariables false
def zh (ys:List ah) (i:Nat) (cs:List Value):Prop:=cs.length=ys.length * 5∧∀ j,i≤j→∀ y,ys[j]? = some y→cs[j * 5+2]? = some y.v
theorem zh.set {ys:List ah} {i:Nat} {cs:List Value} (h:zh ys i cs) {k:Nat} (hk:k<i * 5+5) (v:Value):zh ys (i+1) (cs.set k v):=by
 refine ⟨by rw [List.length_set]; exact h.1,fun j hj y hy=>?_⟩
 rw [List.getElem?_set_ne (by omega)]
 exact h.2 j (by omega) y hy
theorem zh.zm {ys:List ah} {i:Nat} {cs:List Value} (h:zh ys (i+1) cs) {k:Nat} (hk:k<i * 5+5) (v:Value):zh ys (i+1) (cs.set k v):=by
 refine ⟨by rw [List.length_set]; exact h.1,fun j hj y hy=>?_⟩
 rw [List.getElem?_set_ne (by omega)]
 exact h.2 j (by omega) y hy
def zo (zs:List ah) (i:Nat) (cs:List Value):Prop:=cs.length=zs.length * 4∧∀ j,i≤j→∀ z,zs[j]? = some z→∃ a b c,cs[j * 4]? = some (.int .i64 a)∧cs[j * 4+1]? = some (.int .i64 b)∧cs[j * 4+2]? = some (.int .i64 c)∧cs[j * 4+3]? = some z.v
theorem zo.set {zs:List ah} {i:Nat} {cs:List Value} (h:zo zs i cs) {k:Nat} (hk:k<i * 4+4) (v:Value):zo zs (i+1) (cs.set k v):=by
 refine ⟨by rw [List.length_set]; exact h.1,fun j hj y hy=>?_⟩
 rw [List.getElem?_set_ne (by omega),List.getElem?_set_ne (by omega),List.getElem?_set_ne (by omega),List.getElem?_set_ne (by omega)]
 exact h.2 j (by omega) y hy
theorem zo.zm {zs:List ah} {i:Nat} {cs:List Value} (h:zo zs (i+1) cs) {k:Nat} (hk:k<i * 4+4) (v:Value):zo zs (i+1) (cs.set k v):=by
 refine ⟨by rw [List.length_set]; exact h.1,fun j hj y hy=>?_⟩
 rw [List.getElem?_set_ne (by omega),List.getElem?_set_ne (by omega),List.getElem?_set_ne (by omega),List.getElem?_set_ne (by omega)]
 exact h.2 j (by omega) y hy
theorem amZ {A:Type} {l:List A} {k:Nat} {a:A} (h:l[k]? = some a):l.set k a=l:=by
 apply List.ext_getElem?
 intro i
 rw [List.getElem?_set]
 split
 ·rename_i e
  subst e
  rw [if_pos (List.getElem?_eq_some_iff.1 h).1,h]
 ·rfl
def oB (F:List Nat) (y:ah) (ys zs:List ah):World→Prop:=fun w=>U8 aM F w y∧(∀ x∈ys,U8 aM F w x)∧∀ z∈zs,VO F w z
section
variable {w0 w w':World} {F G S R:List Nat} {y:ah} {ys zs:List ah} {L:List aB} {k:Nat}
theorem oB.zR (h:oB F y ys zs w) (o:mq aM w w'):oB F y ys zs w':=⟨h.1.zR o,fun x hx=>(h.2.1 x hx).zR o,fun z hz=>(h.2.2 z hz).zR o⟩
theorem oB.iu (h:oB F y ys zs w) (o:∀ b∈F,w'.heap[b]? = w.heap[b]?):oB F y ys zs w':=⟨h.1.iu o,fun x hx=>(h.2.1 x hx).iu o,fun z hz=>(h.2.2 z hz).iu o⟩
theorem _root_.Go.Ev.aq.G6 (H:aq w0 S w L) (hk:L[k]? = some (.box F (oB F y ys zs))) (m:Mod R w w') (hR:∀ b∈R,b∈F) (o:mq aM w w'):aq w0 S w' L:=by
 have G:=H.nr k hk (r':=.box F (oB F y ys zs)) m (fun b hb=>.inl (hR b hb)) ⟨fun b hb=>Nat.lt_of_lt_of_le ((H.ok k _ hk).1 b hb) m.size,fun w7 h7=>((H.box k hk).zR o).iu h7⟩ (fun b hb=>.inl hb)
 rwa [amZ hk] at G
end
def UW (s:cL) (t:aJ) (ys zs:List ah) (F:List Nat):List aB:=
 [.row cZ 3 s.ten (gM t.bq),.row dJ 6 s.gr (gX t.cM),.row ey 5 s.aE (bP cv.cs t.aE ys),.row bW 4 s.key (bP ct.cs t.keys zs),.box F (oB F s.sec ys zs)]
theorem afm {w:World} {S:List Nat} (s:cL) (t:aJ) (ys zs:List ah) (F:List Nat) (hs:t.small) (gW:ys.length=t.aE.length) (vW:zs.length=t.keys.length) (H:aq w S w (UW s t ys zs F)):Ok Pr Ns [.agg ⟨t.cs s⟩] w fun v w'=>v=.tuple ⟨[]⟩∧Mod S w w':=by
 refine aeO ?_
 unfold Nv
 have rK:=hs.ten
 have xL:=hs.gr
 have sS:=hs.aE
 have DQ:=hs.key
 have H:aq w S w [.row cZ 3 s.ten (gM t.bq),.row dJ 6 s.gr (gX t.cM),.row ey 5 s.aE (bP cv.cs t.aE ys),.row bW 4 s.key (bP ct.cs t.keys zs),.box F (oB F s.sec ys zs)]:=H
 have vS:t.aE.length=s.aE.n:=by
  have h:=(H.gQ 2 rfl).len
  rw [kI cv.eo _ _ gW] at h
  omega
 have bR:t.keys.length=s.key.n:=by
  have h:=(H.gQ 3 rfl).len
  rw [kI ct.eo _ _ vW] at h
  omega
 have hp0:zh ys 0 (bP cv.cs t.aE ys):=by
  refine ⟨by rw [kI cv.eo _ _ gW,gW],fun j _ y hy=>?_⟩
  have uy:j<t.aE.length:=by rw [← gW]; exact (List.getElem?_eq_some_iff.1 hy).1
  rw [J8 cv.eo t.aE ys j 2 _ y (List.getElem?_eq_getElem uy) hy (by omega)]
  rfl
 have wk:zo zs 0 (bP ct.cs t.keys zs):=by
  refine ⟨by rw [kI ct.eo _ _ vW,vW],fun j _ z hz=>?_⟩
  have uy:j<t.keys.length:=by rw [← vW]; exact (List.getElem?_eq_some_iff.1 hz).1
  have g:=fun i (hi:i<4)=>J8 ct.eo t.keys zs j i _ z (List.getElem?_eq_getElem uy) hz hi
  refine ⟨(t.keys[j]).id,(t.keys[j]).ten,(t.keys[j]).set,?_,?_,?_,?_⟩
  ·have:=g 0 (by omega); rw [Nat.add_zero] at this; rw [this]; rfl
  ·rw [g 1 (by omega)]; rfl
  ·rw [g 2 (by omega)]; rfl
  ·rw [g 3 (by omega)]; rfl
 generalize bP cv.cs t.aE ys=cp at *
 generalize bP ct.cs t.keys zs=ck at *
 refine H.nw fun p w1 H _=>?_
 have H:aq w S w1 [.row cZ 3 s.ten (gM t.bq),.row dJ 6 s.gr (gX t.cM),.row ey 5 s.aE cp,.row bW 4 s.key ck,.box F (oB F s.sec ys zs),.av p (t.cs s) aA]:=H
 have hu:=(H.box 4 rfl).1
 refine H.ay 5 rfl (an p 1) rfl (aC (Np F s.sec _ hu) ?_)
 rintro _ w2 ⟨rfl,m2,o2⟩
 have H:=H.G6 (k:=4) rfl m2 hu.row o2
 refine H.ay 5 rfl (an p 2) rfl (aC (aeY s.ten t.bq _ (H.kK 0 rfl) (by omega)) ?_)
 rintro _ w3 ⟨rfl,m3⟩
 have H:=H.nr 0 rfl (r':=.no) m3 (fun b hb=>.inl hb) trivial (fun b hb=>by cases hb)
 refine H.ay 5 rfl (an p 5) rfl (aC (afl s.gr t.cM _ (H.kK 1 rfl) (by omega)) ?_)
 rintro _ w4 ⟨rfl,m4⟩
 have H:=H.nr 1 rfl (r':=.no) m4 (fun b hb=>.inl hb) trivial (fun b hb=>by cases hb)
 have H:aq w S w4 [.row ey 5 s.aE cp,.row bW 4 s.key ck,.box F (oB F s.sec ys zs),.av p (t.cs s) aA]:=H.drop 2
 refine ep 0 t.aE.length (fun i w'=>∃ cs,zh ys i cs∧aq w S w' [.row ey 5 s.aE cs,.row bW 4 s.key ck,.box F (oB F s.sec ys zs),.av p (t.cs s) aA]) rfl (by omega) ⟨cp,hp0,H⟩ ?_ ?_
 ·rintro again i w5 _ hi ⟨cs,gN,H⟩ aR
  have hiy:i<ys.length:=by omega
  have FL:s.aE.a.isSome=true∧(0:Int)≤(i:Int)∧(i:Int)<(s.aE.n:Int):=⟨Sl.pre (H.gQ 0 rfl) (by omega),by omega,by omega⟩
  have ea:∀ j:Nat,Addr.add (Addr.add (base s.aE.a) (Int.toNat (i:Int) * 5)) j=Addr.add (base s.aE.a) (i * 5+j):=fun j=>by rw [Int.toNat_natCast,add_add]
  have hu:U8 aM F w5 ys[i]:=(H.box 2 rfl).2.1 _ (List.getElem_mem hiy)
  have mG:w5.cell? (Addr.add (base s.aE.a) (i * 5+2))=some (ys[i]).v:=(H.gQ 0 rfl).cell _ _ (gN.2 i (Nat.le_refl _) _ (List.getElem?_eq_getElem hiy))
  refine H.ay 3 rfl (an p 3) rfl (ite_true (decide_eq_true (by omega)) (H.ay 3 rfl (an p 3) rfl ⟨FL,ys[i],by rw [ea]; exact mG,?_⟩))
  refine aC (Np F _ w5 hu) ?_
  rintro _ w6 ⟨rfl,m6,o6⟩
  have H:=H.G6 (k:=2) rfl m6 hu.row o6
  have hl:=gN.1
  refine H.ay 3 rfl (an p 3) rfl ⟨FL,?_⟩
  unfold p9
  refine H.jD 0 rfl (ea 0) (by omega) rfl fun w7 H=>H.jD 0 rfl (ea 1) (by simp only [List.length_set]; omega) rfl fun w8 H=>H.jD 0 rfl (ea 2) (by simp only [List.length_set]; omega) rfl fun w9 H=>H.jD 0 rfl (ea 3) (by simp only [List.length_set]; omega) rfl fun dN H=>H.jD 0 rfl (ea 4) (by simp only [List.length_set]; omega) rfl fun fZ H=>?_
  exact ⟨⟨by omega,by omega⟩,aR fZ ⟨_,(((((gN.set (k:=i * 5) (by omega) _).zm (k:=i * 5+1) (by omega) _).zm (k:=i * 5+2) (by omega) _).zm (k:=i * 5+3) (by omega) _).zm (k:=i * 5+4) (by omega) _),H⟩⟩
 rintro again w5 ⟨cs,_,H⟩
 refine H.ay 3 rfl (an p 3) rfl (ite_false (decide_eq_false (by omega)) ?_)
 have H:aq w S w5 [.row bW 4 s.key ck,.box F (oB F s.sec ys zs),.av p (t.cs s) aA]:=H.drop 1
 refine ep 0 t.keys.length (fun i w'=>∃ cs,zo zs i cs∧aq w S w' [.row bW 4 s.key cs,.box F (oB F s.sec ys zs),.av p (t.cs s) aA]) rfl (by omega) ⟨ck,wk,H⟩ ?_ ?_
 ·rintro again i w6 _ hi ⟨cs,gN,H⟩ aR
  have hiz:i<zs.length:=by omega
  have FL:s.key.a.isSome=true∧(0:Int)≤(i:Int)∧(i:Int)<(s.key.n:Int):=⟨Sl.pre (H.gQ 0 rfl) (by omega),by omega,by omega⟩
  have ea:∀ j:Nat,Addr.add (Addr.add (base s.key.a) (Int.toNat (i:Int) * 4)) j=Addr.add (base s.key.a) (i * 4+j):=fun j=>by rw [Int.toNat_natCast,add_add]
  have hv:VO F w6 zs[i]:=(H.box 1 rfl).2.2 _ (List.getElem_mem hiz)
  obtain ⟨a,b,c,c0,c1,c2,c3⟩:=gN.2 i (Nat.le_refl _) _ (List.getElem?_eq_getElem hiz)
  have BA:=H.gQ 0 rfl
  refine H.ay 2 rfl (an p 4) rfl (ite_true (decide_eq_true (by omega)) (H.ay 2 rfl (an p 4) rfl ⟨FL,wF (c0:=a) (c1:=b) (c2:=c) (c3:=zs[i]) (fun j v hj=>?_) (aC (agN a b c F _ w6 (H.ok 1 _ rfl).1 hv) ?_)⟩))
  ·rw [ea]
   refine BA.cell _ _ ?_
   have hj4:j<4:=(List.getElem?_eq_some_iff.1 hj).1
   match j,hj4,hj with
   | 0,_,hj=>exact c0.trans hj
   | 1,_,hj=>exact c1.trans hj
   | 2,_,hj=>exact c2.trans hj
   | 3,_,hj=>exact c3.trans hj
  rintro _ w7 ⟨rfl,m7,o7⟩
  have H:=H.G6 (k:=1) rfl m7 (fun b hb=>hb) o7
  have hl:=gN.1
  refine H.ay 2 rfl (an p 4) rfl ⟨FL,?_⟩
  unfold kR
  refine H.jD 0 rfl (ea 0) (by omega) rfl fun w7 H=>H.jD 0 rfl (ea 1) (by simp only [List.length_set]; omega) rfl fun w8 H=>H.jD 0 rfl (ea 2) (by simp only [List.length_set]; omega) rfl fun w9 H=>H.jD 0 rfl (ea 3) (by simp only [List.length_set]; omega) rfl fun dN H=>?_
  exact ⟨⟨by omega,by omega⟩,aR dN ⟨_,((((gN.set (k:=i * 4) (by omega) _).zm (k:=i * 4+1) (by omega) _).zm (k:=i * 4+2) (by omega) _).zm (k:=i * 4+3) (by omega) _),H⟩⟩
 ·rintro again w6 ⟨cs,_,H⟩
  exact H.ay 2 rfl (an p 4) rfl (ite_false (decide_eq_false (by omega)) ⟨rfl,H.mod⟩)
end Go.Proofs.YtpchgbolambkcaaGreatDoor
end
section
set_option linter.unusedVariables false
set_option linter.unusedSimpArgs false
namespace Go.Proofs.YtpchgbolambkcaaGreatDoor
open Go Go.Ev
set_option maxRecDepth 20000
set_option linter.unusedVariables false
theorem ZL {t:aJ}:∀ n,nQ t n=true↔∀ i,i<n→oR t i (t.aE.getD i eJ)=true
 | 0=>⟨fun _ i h=>by omega,fun _=>rfl⟩
 | n+1=>by
  show (nQ t n && oR t n (t.aE.getD n eJ))=true↔_
  rw [Bool.and_eq_true,ZL n]
  refine ⟨fun h i hi=>?_,fun h=>⟨fun i hi=>h i (by omega),h n (by omega)⟩⟩
  rcases Nat.lt_or_ge i n with e | e
  ·exact h.1 i e
  ·rw [show i=n by omega]; exact h.2
theorem ZM {t:aJ}:∀ n,nR t n=true↔∀ i,i<n→lW t i (t.keys.getD i kz)=true
 | 0=>⟨fun _ i h=>by omega,fun _=>rfl⟩
 | n+1=>by
  show (nR t n && lW t n (t.keys.getD n kz))=true↔_
  rw [Bool.and_eq_true,ZM n]
  refine ⟨fun h i hi=>?_,fun h=>⟨fun i hi=>h i (by omega),h n (by omega)⟩⟩
  rcases Nat.lt_or_ge i n with e | e
  ·exact h.1 i e
  ·rw [show i=n by omega]; exact h.2
structure oS (t:aJ):Prop where
 clock:0≤t.clock∧t.clock≤1099511627776
 sec:t.fy.length=32
 aoE:1≤t.bq.length
 ten:iw t.bq=true
 TV:1≤t.aE.length∧t.aE.length≤6
 ace:t.keys.length≤6
 gr:sE t.cM=true
 aE:∀ (i:Nat) (p:cv),t.aE[i]? = some p→p.id=(i:Int)+1∧aW 1 (t.bq.length:Int) p.ten=true∧p.key.length=mM 1∧iD p.high p.used=true
 key:∀ (i:Nat) (k:ct),t.keys[i]? = some k→k.id=(i:Int)+1∧aW 1 (t.bq.length:Int) k.ten=true∧lX k=true
 bad:∀ g∈t.cM,g.n1≤(t.keys.length:Int)∧g.n2≤(t.aE.length:Int)
theorem mQ {t:aJ}:dh t=true↔oS t:=by
 have w1:∀ {a b c:Int},aW a b c=true↔a≤c∧c≤b:=fun {a b c}=>by unfold aW; simp only [Bool.and_eq_true,decide_eq_true_eq]
 unfold dh Dz
 simp only [Bool.and_eq_true,decide_eq_true_eq,Bool.not_eq_true',w1]
 rw [ZL,ZM]
 have e1:(t.cM.any (ry t)=false)↔∀ g∈t.cM,g.n1≤(t.keys.length:Int)∧g.n2≤(t.aE.length:Int):=by
  rw [List.any_eq_false]
  refine forall_congr' fun g=>forall_congr' fun _=>?_
  unfold ry
  simp only [Bool.or_eq_true,decide_eq_true_eq]
  omega
 rw [e1]
 have e2:(∀ i,i<t.aE.length→oR t i (t.aE.getD i eJ)=true)↔∀ (i:Nat) (p:cv),t.aE[i]? = some p→p.id=(i:Int)+1∧aW 1 (t.bq.length:Int) p.ten=true∧p.key.length=mM 1∧iD p.high p.used=true:=by
  refine ⟨fun h i p hp=>?_,fun h i hi=>?_⟩
  ·have:=h i (List.getElem?_eq_some_iff.1 hp).1
   rw [List.getD_eq_getElem?_getD,hp] at this
   unfold oR at this
   simpa only [Bool.and_eq_true,decide_eq_true_eq,Option.getD_some] using this
  ·have:=h i _ (List.getElem?_eq_getElem hi)
   rw [List.getD_eq_getElem?_getD,List.getElem?_eq_getElem hi]
   unfold oR
   simpa only [Bool.and_eq_true,decide_eq_true_eq,Option.getD_some] using this
 have e3:(∀ i,i<t.keys.length→lW t i (t.keys.getD i kz)=true)↔∀ (i:Nat) (k:ct),t.keys[i]? = some k→k.id=(i:Int)+1∧aW 1 (t.bq.length:Int) k.ten=true∧lX k=true:=by
  refine ⟨fun h i p hp=>?_,fun h i hi=>?_⟩
  ·have:=h i (List.getElem?_eq_some_iff.1 hp).1
   rw [List.getD_eq_getElem?_getD,hp] at this
   unfold lW at this
   simpa only [Bool.and_eq_true,decide_eq_true_eq,Option.getD_some] using this
  ·have:=h i _ (List.getElem?_eq_getElem hi)
   rw [List.getD_eq_getElem?_getD,List.getElem?_eq_getElem hi]
   unfold lW
   simpa only [Bool.and_eq_true,decide_eq_true_eq,Option.getD_some] using this
 rw [e2,e3]
 refine ⟨fun ⟨⟨⟨a1,a2⟩,a3,a4,a5,⟨a6,a7⟩,a8,a9⟩,b1,b2,b3⟩=>⟨⟨a1,a2⟩,a3,a4,a5,⟨by omega,by omega⟩,a8,a9,b1,b2,b3⟩,fun h=>⟨⟨h.clock,h.sec,h.aoE,h.ten,⟨by have:=h.TV; omega,by have:=h.TV; omega⟩,h.ace,h.gr⟩,h.aE,h.key,h.bad⟩⟩
theorem w2 {a b c:Int}:aW a b c=true↔a≤c∧c≤b:=by unfold aW; simp only [Bool.and_eq_true,decide_eq_true_eq]
end Go.Proofs.YtpchgbolambkcaaGreatDoor
end
section
set_option linter.unusedVariables false
set_option linter.unusedSimpArgs false
namespace Go.Proofs.YtpchgbolambkcaaGreatDoor
open Go Go.Ev
set_option maxRecDepth 100000
set_option linter.unusedVariables false
def MH (jn jo:Int) (jq jr:Int) (js jt:Int) (ju jv:Int) (jw jx iV:Int) (iW:ByteArray) (iX iY:ah) (iZ b:ah) (w:World) (R:Value→World→Prop):Prop:=
 nw cV (kQ jn jo jq jr js jt ju jv jw jx iV iW iX iY iZ) w fun a c=>
 dD (Addr.add a 0) c fun d e f g i j k l m n o p q s=>
 ax Pr NA [.agg ⟨dW d e f g i j k l m n o p q s⟩] c fun t u=>
 aQ t fun v=>
 ay (Addr.add a 14) u fun x=>
 az ((v || (decide (200<(x.n:Int)))) || (decide (4000<(b.n:Int))))
 (ax Pr jG [] u fun y z=>
 aQ y fun B=>
 R (.bool B) z)
 (jH a u fun C D E F G I J L M N O Q S T U=>
 ax Pr Js [.agg ⟨kQ C D E F G I J L M N O Q S T U⟩] u fun V X=>
 aK V fun Y=>
 fD (fun (Z:ah)=>[(6,some (.slice Z.a Z.n Z.c))])
 (fun Z aa=>ax Pr Et [.slice b.a b.n b.c] aa fun ba ca=>
 bU.bY ba fun da=>
 aD da fun ea fa=>
 wE ea fun ga ia ja ka la ma na oa pa qa sa ta ua va xa=>
 aD fa fun ya za=>
 (za=[]∧
 nw cV (zc Pr cV) ca fun Aa Ba=>
 iN Aa ga ia ja ka la ma na oa pa qa sa ta ua va xa Ba fun Ca=>
 ax Pr Pf [.slice b.a b.n b.c] Ca fun Da Ea=>
 bU.bY Da fun Fa=>
 aD Fa fun Ga Ia=>
 wE Ga fun Ja La Ma Na Oa Qa Sa Ta Ua Va Xa Ya Za ab bb=>
 aD Ia fun cb db=>
 aF .i64 cb fun eb=>
 (db=[]∧
 nw cV (zc Pr cV) Ea fun fb gb=>
 iN fb Ja La Ma Na Oa Qa Sa Ta Ua Va Xa Ya Za ab bb gb fun ib=>
 ax Pr Et [.slice Y.a Y.n Y.c] ib fun jb kb=>
 bU.bY jb fun lb=>
 aD lb fun mb nb=>
 wE mb fun ob pb qb sb tb ub vb xb yb zb Ab Bb Cb Db Eb=>
 aD nb fun Fb Gb=>
 (Gb=[]∧
 nw cV (zc Pr cV) kb fun Ib Jb=>
 iN Ib ob pb qb sb tb ub vb xb yb zb Ab Bb Cb Db Eb Jb fun Lb=>
 dR (Addr.add (Addr.add a 0) 11) Lb fun Mb=>
 ay (Addr.add (Addr.add a 0) 12) Lb fun Nb=>
 ay (Addr.add (Addr.add a 0) 13) Lb fun Ob=>
 ay (Addr.add a 14) Lb fun Qb=>
 lt (A:=Bool) ((((decide (((ByteArray.size Mb:Nat):Int)≤300)) && (decide ((Nb.n:Int)≤2000))) && (decide ((Ob.n:Int)≤100))) && (decide ((Qb.n:Int)≤100))) fun Sb=>
 ax Pr th [.slice Y.a Y.n Y.c,.slice Z.a Z.n Z.c] Lb fun Tb Ub=>
 aQ Tb fun Vb=>
 dD (Addr.add Aa 0) Ub fun Xb Yb Zb ac bc cc dc ec fc gc ic jc kc lc=>
 dD (Addr.add fb 0) Ub fun mc nc oc pc qc sc tc uc vc xc yc Ac Bc Cc=>
 az Vb
 (ax Pr II [.agg ⟨dW Xb Yb Zb ac bc cc dc ec fc gc ic jc kc lc⟩,.agg ⟨dW mc nc oc pc qc sc tc uc vc xc yc Ac Bc Cc⟩] Ub fun Dc Ec=>
 aQ Dc fun Fc=>
 ay (Addr.add Aa 14) Ec fun Gc=>
 ay (Addr.add fb 14) Ec fun Ic=>
 az Fc
 (ax Pr th [.slice Gc.a Gc.n Gc.c,.slice Ic.a Ic.n Ic.c] Ec fun Jc Lc=>
 aQ Jc fun Mc=>
 az Mc
 (ax Pr uY [ya] Lc fun Nc Oc=>
 aF .i64 Nc fun Qc=>
 az (decide (Qc=eb))
 (dF Fb fun Sc=>
 az (Sc == Sb)
 (dF Fb fun Tc=>
 dD (Addr.add Ib 0) Oc fun Uc Vc Xc Yc Zc bd cd dd ed fd gd jd kd ld=>
 dD (Addr.add a 0) Oc fun md nd od pd qd sd td ud vd xd yd zd Ad Bd=>
 az (!Tc)
 (ay (Addr.add Ib 14) Oc fun Cd=>
 ay (Addr.add a 14) Oc fun Dd=>
 ax Pr jG [] Oc fun Ed Fd=>
 aQ Ed fun Gd=>
 R (.bool Gd) Fd)
 (ax Pr II [.agg ⟨dW Uc Vc Xc Yc Zc bd cd dd ed fd gd jd kd ld⟩,.agg ⟨dW md nd od pd qd sd td ud vd xd yd zd Ad Bd⟩] Oc fun Id Jd=>
 aQ Id fun Ld=>
 ay (Addr.add Ib 14) Jd fun Md=>
 ay (Addr.add a 14) Jd fun Od=>
 az Ld
 (ax Pr th [.slice Md.a Md.n Md.c,.slice Od.a Od.n Od.c] Jd fun Qd Sd=>
 aQ Qd fun Td=>
 az Td
 (ax Pr jG [] Sd fun Ud Vd=>
 aQ Ud fun Xd=>
 R (.bool Xd) Vd)
 (R (.bool false) Sd))
 (R (.bool false) Jd)))
 (dD (Addr.add Ib 0) Oc fun Yd Zd ae be ce de ee fe ge ie je ke le me=>
 dD (Addr.add a 0) Oc fun ne oe pe qe se te ue ve xe ye ze Ae Be Ce=>
 ay (Addr.add Ib 14) Oc fun De=>
 ay (Addr.add a 14) Oc fun Ee=>
 R (.bool false) Oc))
 (dD (Addr.add Ib 0) Oc fun Fe Ge Ie Je Le Me Oe Qe Se Te Ue Ve Xe Ye=>
 dD (Addr.add a 0) Oc fun Ze af bf cf df ef ff gf jf kf lf mf nf pf=>
 ay (Addr.add Ib 14) Oc fun qf=>
 ay (Addr.add a 14) Oc fun sf=>
 R (.bool false) Oc))
 (dD (Addr.add Ib 0) Lc fun tf uf vf xf yf zf Af Bf Cf Df Ef Ff Gf If=>
 dD (Addr.add a 0) Lc fun Jf Lf Mf Nf Of Qf Sf Tf Uf Vf Xf Yf Zf ag=>
 ay (Addr.add Ib 14) Lc fun bg=>
 ay (Addr.add a 14) Lc fun cg=>
 R (.bool false) Lc))
 (dD (Addr.add Ib 0) Ec fun dg eg fg gg ig jg kg lg mg ng og pg qg sg=>
 dD (Addr.add a 0) Ec fun tg ug vg xg yg zg Ag Bg Cg Dg Eg Fg Gg Ig=>
 ay (Addr.add Ib 14) Ec fun Jg=>
 ay (Addr.add a 14) Ec fun Lg=>
 R (.bool false) Ec))
 (ay (Addr.add Aa 14) Ub fun Mg=>
 ay (Addr.add fb 14) Ub fun Ng=>
 dD (Addr.add Ib 0) Ub fun Og Qg Sg Tg Ug Vg Xg Yg Zg ai bi ci di ei=>
 dD (Addr.add a 0) Ub fun fi gi ii ji ki li mi ni oi pi qi si ti ui=>
 ay (Addr.add Ib 14) Ub fun vi=>
 ay (Addr.add a 14) Ub fun xi=>
 R (.bool false) Ub)))))
 (fun yi=>
 dD (Addr.add a 0) (World.drew X) fun zi Ai Bi Ci Di Ei Fi Gi Ii Ji Li Mi Ni Oi=>
 ay (Addr.add a 14) (World.drew X) fun Qi=>
 ((ax Pr IZ [.agg ⟨dW zi Ai Bi Ci Di Ei Fi Gi Ii Ji Li Mi Ni Oi⟩] (World.drew X) fun Si Ti=>
 aK Si fun Ui=>
 (kept (Addr.add a 14) 1 (World.drew X) Ti∧
 nw bp [.slice Qi.a Qi.n Qi.c] Ti fun Vi Xi=>
 (kept (Addr.add a 0) 14 Ti Xi∧
 ax Pr zY [.slice Ui.a Ui.n Ui.c,.slice (some Vi) 1 1] Xi fun Yi Zi=>
 aK Yi fun aj=>
 yi aj Zi)))∧
 (nw bp [.slice Qi.a Qi.n Qi.c] (World.drew X) fun bj cj=>
 (kept (Addr.add a 0) 14 (World.drew X) cj∧
 ax Pr IZ [.agg ⟨dW zi Ai Bi Ci Di Ei Fi Gi Ii Ji Li Mi Ni Oi⟩] cj fun dj ej=>
 aK dj fun fj=>
 (kept (Addr.add a 14) 1 cj ej∧
 ax Pr zY [.slice fj.a fj.n fj.c,.slice (some bj) 1 1] ej fun gj ij=>
 aK gj fun jj=>
 yi jj ij))))))
theorem aeg {jn jo:Int} {jq jr:Int} {js jt:Int} {ju jv:Int} {jw jx iV:Int} {iW:ByteArray} {iX iY:ah} {iZ b:ah} {w:World} {R:Value→World→Prop} (h:MH jn jo jq jr js jt ju jv jw jx iV iW iX iY iZ b w R):Ok Pr WB [.agg ⟨kQ jn jo jq jr js jt ju jv jw jx iV iW iX iY iZ⟩,.slice b.a b.n b.c] w R:=
 aP (m:=⟨true,true⟩) (J:=[(5,[(6,.sl)])]) (L:=[]) aN Tryz.func3 (by kernel_rfl) ((by kernel_rfl:aO Pr _ _ _ Tryz.f3 _ w R=MH jn jo jq jr js jt ju jv jw jx iV iW iX iY iZ b w R).mpr h)
def Nq (bD:Int) (bE bF:ah) (bG bS bT:ah) (gI:Int) (gJ gK:ah) (gL kZ lp:ah) (gen count:Int) (more n:Int) (w:World) (R:Value→World→Prop):Prop:=
 nw aA (aT bD bE bF bG bS bT) w fun a b=>
 nw aA (aT gI gJ gK gL kZ lp) b fun c d=>
 iJ []
 (fun e=>ax Pr uZ [.int .i64 n,.int .i64 100] e fun f g=>
 aF .i64 f fun i=>
 (aH (1+i)∧
 ax Pr yp [.int .i64 (1+i)] g fun j k=>
 sI j fun l=>
 az (Option.isNone (α:=Addr) l)
 (R (.bool false) k)
 (aG a k fun m o p q s t=>
 ax Pr rW [.pointer l,.int .i64 gen,.int .i64 count,.agg ⟨aT m o p q s t⟩] k fun u v=>
 aG a v fun x y z A B C=>
 ax Pr yq [.agg ⟨aT x y z A B C⟩] v fun D E=>
 aQ D fun F=>
 az ((((!F) || (decide (gen<1))) || (decide (count<0))) || (decide (1+i≤80)))
 (ax Pr qn [.pointer l] E fun G I=>
 bU.bY G fun J=>
 aD J fun L M=>
 aF .i64 L fun N=>
 aD M fun O Q=>
 aF .i64 O fun S=>
 aD Q fun T U=>
 ez T fun V X Y Z aa ba=>
 aD U fun ca da=>
 (da=[]∧
 nw aA (zc Pr aA) I fun ea fa=>
 aV ea V X Y Z aa ba fa fun ga=>
 ax Pr uY [u] ga fun ia ja=>
 aF .i64 ia fun ka=>
 az (decide (ka=2))
 (ax Pr uY [ca] ja fun la ma=>
 aF .i64 la fun na=>
 az (decide (na=9))
 (ax Pr jG [] ma fun oa pa=>
 aQ oa fun qa=>
 R (.bool qa) pa)
 (R (.bool false) ma))
 (R (.bool false) ja)))
 (az ((decide (1152921504606846976<gen)) || (decide (1152921504606846976<count)))
 (ax Pr jG [] E fun sa ta=>
 aQ sa fun ua=>
 R (.bool ua) ta)
 (ax Pr qn [.pointer l] E fun va xa=>
 bU.bY va fun ya=>
 aD ya fun za Aa=>
 aF .i64 za fun Ba=>
 aD Aa fun Ca Da=>
 aF .i64 Ca fun Ea=>
 aD Da fun Fa Ga=>
 ez Fa fun Ia Ja La Ma Na Oa=>
 aD Ga fun Qa Sa=>
 (Sa=[]∧
 nw aA (zc Pr aA) xa fun Ta Ua=>
 aV Ta Ia Ja La Ma Na Oa Ua fun Va=>
 iJ []
 (fun Xa=>aG Ta Xa fun Ya Za ab bb cb db=>
 ax Pr Ns [.agg ⟨aT Ya Za ab bb cb db⟩] Xa fun eb fb=>
 aG c fb fun gb ib jb kb lb mb=>
 ax Pr yq [.agg ⟨aT gb ib jb kb lb mb⟩] fb fun nb ob=>
 aQ nb fun pb=>
 az (!pb)
 (ax Pr jG [] ob fun qb sb=>
 aQ qb fun tb=>
 R (.bool tb) sb)
 (ax Pr uZ [.int .i64 more,.int .i64 9] ob fun ub vb=>
 aF .i64 ub fun xb=>
 (aH (1+xb)∧
 (aH (gen+(1+xb))∧
 (aH (count+(1+xb))∧
 aG c vb fun yb zb Ab Bb Cb Db=>
 ax Pr rW [.pointer l,.int .i64 (gen+(1+xb)),.int .i64 (count+(1+xb)),.agg ⟨aT yb zb Ab Bb Cb Db⟩] vb fun Eb Fb=>
 dF Eb fun Gb=>
 az (!Gb)
 (R (.bool false) Fb)
 (ax Pr qn [.pointer l] Fb fun Ib Jb=>
 bU.bY Ib fun Lb=>
 aD Lb fun Mb Nb=>
 aF .i64 Mb fun Ob=>
 aD Nb fun Qb Sb=>
 aF .i64 Qb fun Tb=>
 aD Sb fun Ub Vb=>
 ez Ub fun Xb Yb Zb ac bc cc=>
 aD Vb fun dc ec=>
 (ec=[]∧
 aV Ta Xb Yb Zb ac bc cc Jb fun fc=>
 dF dc fun gc=>
 aG Ta fc fun ic jc kc lc mc nc=>
 aG c fc fun oc pc qc sc tc uc=>
 az ((gc && (decide (Ob=IntKind.wrap .i64 (gen+(1+xb))))) && (decide (Tb=IntKind.wrap .i64 (count+(1+xb)))))
 (ax Pr tq [.agg ⟨aT ic jc kc lc mc nc⟩,.agg ⟨aT oc pc qc sc tc uc⟩] fc fun vc xc=>
 aQ vc fun yc=>
 az yc
 (ax Pr jG [] xc fun Ac Bc=>
 aQ Ac fun Cc=>
 R (.bool Cc) Bc)
 (R (.bool false) xc))
 (R (.bool false) fc))))))))
 (fun Dc=>
 dF u fun Ec=>
 az (!Ec)
 (aG Ta Va fun Fc Gc Ic Jc Lc Mc=>
 aG a Va fun Nc Oc Qc Sc Tc Uc=>
 R (.bool false) Va)
 (dF Qa fun Vc=>
 aG Ta Va fun Xc Yc Zc bd cd dd=>
 aG a Va fun ed fd gd jd kd ld=>
 az (((!Vc) || (!decide (Ba=gen))) || (!decide (Ea=count)))
 (R (.bool false) Va)
 (ax Pr tq [.agg ⟨aT Xc Yc Zc bd cd dd⟩,.agg ⟨aT ed fd gd jd kd ld⟩] Va fun md nd=>
 aQ md fun od=>
 az (!od)
 (R (.bool false) nd)
 (Dc nd))))))))))
 (fun pd=>
 fD (fun (qd:Bool)=>[(28,some (.bool qd))])
 (fun qd sd=>az qd
 (ax Pr jG [] sd fun td ud=>
 aQ td fun vd=>
 R (.bool vd) ud)
 (pd sd))
 (fun xd=>
 aG a d fun yd zd Ad Bd Cd Dd=>
 ax Pr BU [.agg ⟨aT yd zd Ad Bd Cd Dd⟩] d fun Ed Fd=>
 aQ Ed fun Gd=>
 aG c Fd fun Id Jd Ld Md Od Qd=>
 az Gd
 (xd true Fd)
 (ax Pr BU [.agg ⟨aT Id Jd Ld Md Od Qd⟩] Fd fun Sd Td=>
 aQ Sd fun Ud=>
 xd Ud Td)))
theorem aeI {bD:Int} {bE bF:ah} {bG bS bT:ah} {gI:Int} {gJ gK:ah} {gL kZ lp:ah} {gen count:Int} {more n:Int} {w:World} {R:Value→World→Prop} (h:Nq bD bE bF bG bS bT gI gJ gK gL kZ lp gen count more n w R):Ok Pr WJ [.agg ⟨aT bD bE bF bG bS bT⟩,.agg ⟨aT gI gJ gK gL kZ lp⟩,.int .i64 gen,.int .i64 count,.int .i64 more,.int .i64 n] w R:=
 aP (m:=⟨true,true⟩) (J:=[(3,[]),(2,[(28,.bool)]),(16,[])]) (L:=[]) aN Tryz.func4 (by kernel_rfl) ((by kernel_rfl:aO Pr _ _ _ Tryz.f4 _ w R=Nq bD bE bF bG bS bT gI gJ gK gL kZ lp gen count more n w R).mpr h)
def Ny (bD:Int) (bE bF:ah) (bG bS bT:ah) (gI:Int) (gJ gK:ah) (gL kZ lp:ah) (gen count:Int) (keep:ah) (w:World) (R:Value→World→Prop):Prop:=
 nw aA (aT bD bE bF bG bS bT) w fun a b=>
 nw aA (aT gI gJ gK gL kZ lp) b fun c d=>
 iJ []
 (fun e=>ax Pr uZ [.int .i64 gen,.int .i64 9] e fun f g=>
 aF .i64 f fun i=>
 (aH (1+i)∧
 ax Pr uZ [.int .i64 count,.int .i64 9] g fun j k=>
 aF .i64 j fun l=>
 ax Pr yp [.int .i64 90] k fun m n=>
 sI m fun o=>
 iJ []
 (fun p=>ax Pr Eh [.pointer o] p fun q s=>
 (aH ((1+i)+1)∧
 (aH (l+1)∧
 aG c s fun t u v x y z=>
 ax Pr rW [.pointer o,.int .i64 ((1+i)+1),.int .i64 (l+1),.agg ⟨aT t u v x y z⟩] s fun A B=>
 dF A fun C=>
 az (!C)
 (R (.bool false) B)
 (ax Pr Em [.pointer o] B fun D E=>
 aK D fun F=>
 ax Pr En [.pointer o,.slice keep.a keep.n keep.c] E fun G I=>
 aF .i64 G fun J=>
 ax Pr qn [.pointer o] I fun L M=>
 bU.bY L fun N=>
 aD N fun O Q=>
 aF .i64 O fun S=>
 aD Q fun T U=>
 aF .i64 T fun V=>
 aD U fun X Y=>
 ez X fun Z aa ba ca da ea=>
 aD Y fun fa ga=>
 (ga=[]∧
 nw aA (zc Pr aA) M fun ia ja=>
 aV ia Z aa ba ca da ea ja fun ka=>
 dF fa fun la=>
 az (!la)
 (R (.bool false) ka)
 (fD (fun (ma:Bool)=>[(18,some (.bool ma))])
 (fun ma na=>fD (fun (oa:Bool)=>[(19,some (.bool oa))])
 (fun oa pa=>az ((((decide (J=(F.n:Int))) && ma) || ((decide (J=0)) && oa)) || (((decide (0<J)) && (decide (J<(F.n:Int)))) && (ma || oa)))
 (ax Pr jG [] pa fun qa sa=>
 aQ qa fun ta=>
 R (.bool ta) sa)
 (R (.bool false) pa))
 (fun ua=>
 aG ia na fun va xa ya za Aa Ba=>
 aG a na fun Ca Da Ea Fa Ga Ia=>
 az ((decide (S=1+i)) && (decide (V=l)))
 (ax Pr tq [.agg ⟨aT va xa ya za Aa Ba⟩,.agg ⟨aT Ca Da Ea Fa Ga Ia⟩] na fun Ja La=>
 aQ Ja fun Ma=>
 ua Ma La)
 (ua false na)))
 (fun Na=>
 (aH ((1+i)+1)∧
 aG ia ka fun Oa Qa Sa Ta Ua Va=>
 aG c ka fun Xa Ya Za ab bb cb=>
 az ((decide (S=(1+i)+1)) && (decide (V=IntKind.wrap .i64 (l+1))))
 (ax Pr tq [.agg ⟨aT Oa Qa Sa Ta Ua Va⟩,.agg ⟨aT Xa Ya Za ab bb cb⟩] ka fun db eb=>
 aQ db fun fb=>
 Na fb eb)
 (Na false ka)))))))))
 (fun gb=>
 aG a n fun ib jb kb lb mb nb=>
 az (Option.isNone (α:=Addr) o)
 (R (.bool false) n)
 (ax Pr rW [.pointer o,.int .i64 (1+i),.int .i64 l,.agg ⟨aT ib jb kb lb mb nb⟩] n fun ob pb=>
 dF ob fun qb=>
 az (!qb)
 (R (.bool false) pb)
 (gb pb)))))
 (fun sb=>
 fD (fun (tb:Bool)=>[(40,some (.bool tb))])
 (fun tb ub=>az tb
 (ax Pr jG [] ub fun vb xb=>
 aQ vb fun yb=>
 R (.bool yb) xb)
 (sb ub))
 (fun zb=>
 aG a d fun Ab Bb Cb Db Eb Fb=>
 ax Pr BU [.agg ⟨aT Ab Bb Cb Db Eb Fb⟩] d fun Gb Ib=>
 aQ Gb fun Jb=>
 aG c Ib fun Lb Mb Nb Ob Qb Sb=>
 az Jb
 (aG a Ib fun Tb Ub Vb Xb Yb Zb=>
 aG c Ib fun ac bc cc dc ec fc=>
 zb true Ib)
 (ax Pr BU [.agg ⟨aT Lb Mb Nb Ob Qb Sb⟩] Ib fun gc ic=>
 aQ gc fun jc=>
 aG a ic fun kc lc mc nc oc pc=>
 az jc
 (aG c ic fun qc sc tc uc vc xc=>
 zb true ic)
 (ax Pr yq [.agg ⟨aT kc lc mc nc oc pc⟩] ic fun yc Ac=>
 aQ yc fun Bc=>
 aG c Ac fun Cc Dc Ec Fc Gc Ic=>
 az (!Bc)
 (zb true Ac)
 (ax Pr yq [.agg ⟨aT Cc Dc Ec Fc Gc Ic⟩] Ac fun Jc Lc=>
 aQ Jc fun Mc=>
 zb ((!Mc) || (decide (60<(keep.n:Int)))) Lc)))))
theorem aeZ {bD:Int} {bE bF:ah} {bG bS bT:ah} {gI:Int} {gJ gK:ah} {gL kZ lp:ah} {gen count:Int} {keep:ah} {w:World} {R:Value→World→Prop} (h:Ny bD bE bF bG bS bT gI gJ gK gL kZ lp gen count keep w R):Ok Pr WO [.agg ⟨aT bD bE bF bG bS bT⟩,.agg ⟨aT gI gJ gK gL kZ lp⟩,.int .i64 gen,.int .i64 count,.slice keep.a keep.n keep.c] w R:=
 aP (m:=⟨true,true⟩) (J:=[(3,[]),(2,[(40,.bool)]),(7,[]),(16,[(18,.bool)]),(17,[(19,.bool)])]) (L:=[]) aN Tryz.func5 (by kernel_rfl) ((by kernel_rfl:aO Pr _ _ _ Tryz.f5 _ w R=Ny bD bE bF bG bS bT gI gJ gK gL kZ lp gen count keep w R).mpr h)
def MI (names:ah) (gen count wN:Int) (keep:ah) (w:World) (R:Value→World→Prop):Prop:=
 az ((decide (10<(names.n:Int))) || (decide (40<(keep.n:Int))))
 (ax Pr jG [] w fun a b=>
 aQ a fun c=>
 R (.bool c) b)
 (ax Pr uZ [.int .i64 gen,.int .i64 9] w fun d e=>
 aF .i64 d fun f=>
 (aH (1+f)∧
 ax Pr uZ [.int .i64 count,.int .i64 9] e fun g i=>
 aF .i64 g fun j=>
 ax Pr yp [.int .i64 110] i fun k l=>
 sI k fun m=>
 iJ []
 (fun n=>ax Pr Eh [.pointer m] n fun o p=>
 (aH ((names.n:Int)+1)∧
 ax Pr uZ [.int .i64 wN,.int .i64 ((names.n:Int)+1)] p fun q s=>
 aF .i64 q fun t=>
 ax Pr tu [.string gq] s fun u v=>
 ez u fun x y z B C D=>
 nw aA (zc Pr aA) v fun E F=>
 aV E x y z B C D F fun G=>
 aG E G fun I J L M N O=>
 nw aA (aT I J L M N O) G fun Q S=>
 nw bn [.int .i64 80] S fun T U=>
 abr (fun (V:ah) (X:Int) (Y:ah) (Z:Int)=>[(13,some (.slice V.a V.n V.c)),(14,some (.int .i64 X)),(15,some (.slice Y.a Y.n Y.c)),(16,some (.int .i64 Z))])
 (fun aa V X Y Z ba=>az (decide (Z<(names.n:Int)))
 (aZ names.a Z names.n
 (dR (Addr.add (base names.a) (Int.toNat Z * 1)) ba fun ca=>
 az (decide (300<((ByteArray.size ca:Nat):Int)))
 (ax Pr jG [] ba fun da ea=>
 aQ da fun fa=>
 R (.bool fa) ea)
 (aZ names.a Z names.n
 (dR (Addr.add (base names.a) (Int.toNat Z * 1)) ba fun ga=>
 ax Pr B2 [.int .i64 (V.n:Int),.string ga] ba fun ia ja=>
 wE ia fun ka la ma na oa pa qa sa ta ua va xa ya za Aa=>
 nw cV (zc Pr cV) ja fun Ba Ca=>
 iN Ba ka la ma na oa pa qa sa ta ua va xa ya za Aa Ca fun Da=>
 aG E Da fun Ea Fa Ga Ia Ja La=>
 jH Ba Da fun Ma Na Oa Qa Sa Ta Ua Va Xa Ya Za ab bb cb db=>
 ax Pr NW [.agg ⟨aT Ea Fa Ga Ia Ja La⟩,.agg ⟨kQ Ma Na Oa Qa Sa Ta Ua Va Xa Ya Za ab bb cb db⟩] Da fun eb fb=>
 bU.bY eb fun gb=>
 aD gb fun ib jb=>
 ez ib fun kb lb mb nb ob pb=>
 aD jb fun qb sb=>
 qh qb fun tb ub vb xb=>
 aD sb fun yb zb=>
 aF .i64 yb fun Ab=>
 (zb=[]∧
 nw aA (zc Pr aA) fb fun Bb Cb=>
 nw eH (zc Pr eH) Cb fun Db Eb=>
 aV Bb kb lb mb nb ob pb Eb fun Fb=>
 ew Db tb ub vb xb Fb fun Gb=>
 az (!decide (Ab=0))
 ((aH (Z+1)∧
 aa V X Y (Z+1) Gb))
 ((aH (j+(V.n:Int))∧
 (aH ((j+(V.n:Int)) - 1)∧
 jH Ba Gb fun Ib Jb Lb Mb Nb Ob Qb Sb Tb Ub Vb Xb Yb Zb ac=>
 ax Pr B4 [.pointer m,.int .i64 X,.int .i64 (1+f),.int .i64 ((j+(V.n:Int)) - 1),.agg ⟨kQ Ib Jb Lb Mb Nb Ob Qb Sb Tb Ub Vb Xb Yb Zb ac⟩] Gb fun bc cc=>
 bU.bY bc fun dc=>
 aD dc fun ec fc=>
 aF .i64 ec fun gc=>
 aD fc fun ic jc=>
 (jc=[]∧
 dF ic fun kc=>
 az ((!kc) || (decide (gc≤X)))
 (R (.bool false) cc)
 (aG Bb cc fun lc mc nc oc pc qc=>
 aV E lc mc nc oc pc qc cc fun sc=>
 aG E sc fun tc uc vc xc yc Ac=>
 nw aA (aT tc uc vc xc yc Ac) sc fun Bc Cc=>
 cS Pr [IV,IV] IV [.slice V.a V.n V.c,.slice (some Bc) 1 1] Cc fun Dc Ec=>
 nw bn [.int .i64 gc] Ec fun Fc Gc=>
 cS Pr [nJ,nJ] nJ [.slice Y.a Y.n Y.c,.slice (some Fc) 1 1] Gc fun Ic Jc=>
 az (decide (Z<t))
 (ax Pr Eh [.pointer m] Jc fun Lc Mc=>
 (aH (Z+1)∧
 aa Dc gc Ic (Z+1) Mc))
 ((aH (Z+1)∧
 aa Dc gc Ic (Z+1) Jc))))))))))))
 (ax Pr Em [.pointer m] ba fun Nc Oc=>
 aK Nc fun Qc=>
 ax Pr En [.pointer m,.slice keep.a keep.n keep.c] Oc fun Sc Tc=>
 aF .i64 Sc fun Uc=>
 (aH ((Qc.n:Int) - 1)∧
 lt (A:=Int) ((Qc.n:Int) - 1) fun Vc=>
 ko (fun (Xc Yc:Int)=>[(24,some (.int .i64 Xc)),(25,some (.int .i64 Yc))])
 (fun Zc Xc Yc bd=>az (decide (0≤Yc))
 (fD (fun (cd:Bool)=>[(158,some (.bool cd))])
 (fun cd dd=>az cd
 (aZ Qc.a Yc Qc.n
 (au .i64 (Addr.add (base Qc.a) (Int.toNat Yc * 1)) dd fun ed=>
 (aH (Yc - 1)∧
 Zc ed (Yc - 1) dd)))
 ((aH (Yc - 1)∧
 Zc Xc (Yc - 1) dd)))
 (fun fd=>
 az (decide ((keep.n:Int)=0))
 (fd true bd)
 (pos (keep.n:Int) ((0≤Yc∧
 aZ keep.a (Yc % (keep.n:Int)) keep.n
 (nq (Addr.add (base keep.a) (Int.toNat (Yc % (keep.n:Int)) * 1)) bd fun gd=>
 fd (!gd) bd))))))
 (fD (fun (jd:Int)=>[(26,some (.int .i64 jd))])
 (fun jd kd=>ax Pr xY [.pointer m] kd fun ld md=>
 bU.bY ld fun nd=>
 aD nd fun od pd=>
 aF .i64 od fun qd=>
 aD pd fun sd td=>
 aF .i64 sd fun ud=>
 aD td fun vd xd=>
 aF .i64 vd fun yd=>
 aD xd fun zd Ad=>
 ez zd fun Bd Cd Dd Ed Fd Gd=>
 aD Ad fun Id Jd=>
 (Jd=[]∧
 nw aA (zc Pr aA) md fun Ld Md=>
 aV Ld Bd Cd Dd Ed Fd Gd Md fun Od=>
 dF Id fun Qd=>
 az ((Qd && (decide (qd=1+f))) && (decide (ud=IntKind.wrap .i64 (j+jd))))
 (aZ Y.a jd Y.n
 (au .i64 (Addr.add (base Y.a) (Int.toNat jd * 1)) (World.drew Od) fun Sd=>
 aG Ld (World.drew Od) fun Td Ud Vd Xd Yd Zd=>
 az (decide (yd=Sd))
 (aZ V.a jd V.n
 (aG (Addr.add (base V.a) (Int.toNat jd * 6)) (World.drew Od) fun ae be ce de ee fe=>
 ax Pr tq [.agg ⟨aT Td Ud Vd Xd Yd Zd⟩,.agg ⟨aT ae be ce de ee fe⟩] (World.drew Od) fun ge ie=>
 aQ ge fun je=>
 az je
 (ax Pr jG [] ie fun ke le=>
 aQ ke fun me=>
 R (.bool me) le)
 (R (.bool false) ie)))
 (R (.bool false) (World.drew Od))))
 (aG Ld (World.drew Od) fun ne oe pe qe se te=>
 R (.bool false) (World.drew Od))))
 (fun ue=>
 dX (fun (ve:Int)=>[(26,some (.int .i64 ve))])
 (fun xe ve ye=>(aH (ve+1)∧
 az (decide (ve+1<(Y.n:Int)))
 (aZ Y.a (IntKind.wrap .i64 (ve+1)) Y.n
 (au .i64 (Addr.add (base Y.a) (Int.toNat (IntKind.wrap .i64 (ve+1)) * 1)) ye fun ze=>
 az (decide (ze≤Xc))
 ((aH (ve+1)∧
 xe (ve+1) ye))
 (ue ve ye)))
 (ue ve ye)))
 0 bd)))
 X Vc Tc)))
 ⟨some Q,1,1⟩ 80 ⟨some T,1,1⟩ 0 U))
 (fun Ae=>
 az (Option.isNone (α:=Addr) m)
 (R (.bool false) l)
 (ax Pr tu [.string gq] l fun Be Ce=>
 ez Be fun De Ee Fe Ge Ie Je=>
 ax Pr rW [.pointer m,.int .i64 (1+f),.int .i64 j,.agg ⟨aT De Ee Fe Ge Ie Je⟩] Ce fun Le Me=>
 dF Le fun Oe=>
 az (!Oe)
 (R (.bool false) Me)
 (Ae Me)))))
theorem aeh {names:ah} {gen count wN:Int} {keep:ah} {w:World} {R:Value→World→Prop} (h:MI names gen count wN keep w R):Ok Pr WC (akk names gen count wN keep) w R:=
 aP (m:=⟨true,true⟩) (J:=[(7,[]),(35,[(158,.bool)]),(39,[(26,.int .i64)])]) (L:=[(14,[(13,.sl),(14,.int .i64),(15,.sl),(16,.int .i64)]),(32,[(24,.int .i64),(25,.int .i64)]),(37,[(26,.int .i64)])]) aN Tryz.func6 (by kernel_rfl) ((by kernel_rfl:aO Pr _ _ _ Tryz.f6 _ w R=MI names gen count wN keep w R).mpr h)
def Nr (gen cP:Int) (name:ByteArray) (w:World) (R:Value→World→Prop):Prop:=
 az ((decide (200<((ByteArray.size name:Nat):Int))) || (decide (name=eO)))
 (ax Pr jG [] w fun a b=>
 aQ a fun c=>
 R (.bool c) b)
 (ax Pr yp [.int .i64 100] w fun d e=>
 sI d fun f=>
 iJ []
 (fun g=>ax Pr B2 [.int .i64 1,.string name] g fun i j=>
 wE i fun k l m n o p q s t u v x y z B=>
 ax Pr B4 [.pointer f,.int .i64 80,.int .i64 2,.int .i64 0,.agg ⟨kQ k l m n o p q s t u v x y z B⟩] j fun C D=>
 bU.bY C fun E=>
 aD E fun F G=>
 aF .i64 F fun I=>
 aD G fun J L=>
 (L=[]∧
 dF J fun M=>
 az (!M)
 (R (.bool false) D)
 (ax Pr Co [.pointer f,.int .i64 gen,.int .i64 cP] D fun N O=>
 lt (A:=Bool) (((decide (1≤gen)) && (decide (80≤cP))) && (decide (cP≤100))) fun Q=>
 az (!Q)
 (ax Pr qn [.pointer f] O fun S T=>
 bU.bY S fun U=>
 aD U fun V X=>
 aF .i64 V fun Y=>
 aD X fun Z aa=>
 aF .i64 Z fun ba=>
 aD aa fun ca da=>
 ez ca fun ea fa ga ia ja ka=>
 aD da fun la ma=>
 (ma=[]∧
 nw aA (zc Pr aA) T fun na oa=>
 aV na ea fa ga ia ja ka oa fun pa=>
 ax Pr uY [N] pa fun qa sa=>
 aF .i64 qa fun ta=>
 az (decide (ta=2))
 (dF la fun ua=>
 az (ua && (decide (Y=2)))
 (ax Pr Co [.pointer none,.int .i64 1,.int .i64 80] sa fun va xa=>
 ax Pr uY [va] xa fun ya za=>
 aF .i64 ya fun Aa=>
 az (decide (Aa=1))
 (ax Pr jG [] za fun Ba Ca=>
 aQ Ba fun Da=>
 R (.bool Da) Ca)
 (R (.bool false) za))
 (R (.bool false) sa))
 (R (.bool false) sa)))
 (ax Pr qn [.pointer f] O fun Ea Fa=>
 bU.bY Ea fun Ga=>
 aD Ga fun Ia Ja=>
 aF .i64 Ia fun La=>
 aD Ja fun Ma Na=>
 aF .i64 Ma fun Oa=>
 aD Na fun Qa Sa=>
 ez Qa fun Ta Ua Va Xa Ya Za=>
 aD Sa fun ab bb=>
 (bb=[]∧
 nw aA (zc Pr aA) Fa fun cb db=>
 aV cb Ta Ua Va Xa Ya Za db fun eb=>
 ax Pr xY [.pointer f] eb fun fb gb=>
 bU.bY fb fun ib=>
 aD ib fun jb kb=>
 aF .i64 jb fun lb=>
 aD kb fun mb nb=>
 aF .i64 mb fun ob=>
 aD nb fun pb qb=>
 aF .i64 pb fun sb=>
 aD qb fun tb ub=>
 ez tb fun vb xb yb zb Ab Bb=>
 aD ub fun Cb Db=>
 (Db=[]∧
 nw aA (zc Pr aA) gb fun Eb Fb=>
 aV Eb vb xb yb zb Ab Bb Fb fun Gb=>
 ax Pr tu [.string fY] Gb fun Ib Jb=>
 ez Ib fun Lb Mb Nb Ob Qb Sb=>
 nw aA (zc Pr aA) Jb fun Tb Ub=>
 aV Tb Lb Mb Nb Ob Qb Sb Ub fun Vb=>
 iJ []
 (fun Xb=>fD (fun (Yb:Int)=>[(26,some (.int .i64 Yb))])
 (fun Yb Zb=>dF N fun ac=>
 az ac
 (dF ab fun bc=>
 az bc
 (dF Cb fun cc=>
 aG cb Zb fun dc ec fc gc ic jc=>
 aG Tb Zb fun kc lc mc nc oc pc=>
 az (cc && (decide (La=IntKind.wrap .i64 (2 - (Int.tmod gen 2)))))
 (ax Pr tq [.agg ⟨aT dc ec fc gc ic jc⟩,.agg ⟨aT kc lc mc nc oc pc⟩] Zb fun qc sc=>
 aQ qc fun tc=>
 az (tc && (decide (ob=Yb)))
 (ax Pr jG [] sc fun uc vc=>
 aQ uc fun xc=>
 R (.bool xc) vc)
 (R (.bool false) sc))
 (R (.bool false) Zb))
 (aG cb Zb fun yc Ac Bc Cc Dc Ec=>
 aG Tb Zb fun Fc Gc Ic Jc Lc Mc=>
 R (.bool false) Zb))
 (aG cb Zb fun Nc Oc Qc Sc Tc Uc=>
 aG Tb Zb fun Vc Xc Yc Zc bd cd=>
 R (.bool false) Zb))
 (fun dd=>
 (0≤gen∧
 az ((decide (gen % 2=0)) && (decide (80<cP)))
 (dd 1 Xb)
 (dd 0 Xb))))
 (fun ed=>
 (0≤gen∧
 az (decide (gen % 2=0))
 (ax Pr tu [.string kC] Vb fun fd gd=>
 ez fd fun jd kd ld md nd od=>
 aV Tb jd kd ld md nd od gd fun pd=>
 ed pd)
 (ed Vb)))))))))
 (fun qd=>
 az (Option.isNone (α:=Addr) f)
 (R (.bool false) e)
 (ax Pr tu [.string fY] e fun sd td=>
 ez sd fun ud vd xd yd zd Ad=>
 ax Pr rW [.pointer f,.int .i64 1,.int .i64 0,.agg ⟨aT ud vd xd yd zd Ad⟩] td fun Bd Cd=>
 dF Bd fun Dd=>
 az (!Dd)
 (R (.bool false) Cd)
 (ax Pr tu [.string kC] Cd fun Ed Fd=>
 ez Ed fun Gd Id Jd Ld Md Od=>
 ax Pr rW [.pointer f,.int .i64 2,.int .i64 0,.agg ⟨aT Gd Id Jd Ld Md Od⟩] Fd fun Qd Sd=>
 dF Qd fun Td=>
 az (!Td)
 (R (.bool false) Sd)
 (qd Sd)))))
theorem aeJ {gen cP:Int} {name:ByteArray} {w:World} {R:Value→World→Prop} (h:Nr gen cP name w R):Ok Pr WK (tQ gen cP name) w R:=
 aP (m:=⟨true,true⟩) (J:=[(6,[]),(19,[]),(21,[(26,.int .i64)])]) (L:=[]) aN Tryz.func7 (by kernel_rfl) ((by kernel_rfl:aO Pr _ _ _ Tryz.f7 _ w R=Nr gen cP name w R).mpr h)
def Nz (names:ah) (gen:Int) (w:World) (R:Value→World→Prop):Prop:=
 az (decide (6<(names.n:Int)))
 (ax Pr jG [] w fun a b=>
 aQ a fun c=>
 R (.bool c) b)
 (ax Pr uZ [.int .i64 gen,.int .i64 50] w fun d e=>
 aF .i64 d fun f=>
 (aH (1+f)∧
 ax Pr yp [.int .i64 90] e fun g i=>
 sI g fun j=>
 az (Option.isNone (α:=Addr) j)
 (R (.bool false) i)
 (dX (fun (k:Int)=>[(6,some (.int .i64 k))])
 (fun l k m=>az (decide (k<(names.n:Int)))
 (aZ names.a k names.n
 (dR (Addr.add (base names.a) (Int.toNat k * 1)) m fun n=>
 ax Pr tu [.string n] m fun o p=>
 ez o fun q s t u v x=>
 nw aA (zc Pr aA) p fun y z=>
 aV y q s t u v x z fun A=>
 iJ []
 (fun B=>(aH ((1+f)+k)∧
 (aH (3 * k)∧
 aG y B fun C D E F G I=>
 ax Pr rW [.pointer j,.int .i64 ((1+f)+k),.int .i64 (3 * k),.agg ⟨aT C D E F G I⟩] B fun J L=>
 dF J fun M=>
 az (!M)
 (R (.bool false) L)
 ((aH ((1+f)+k)∧
 (aH (((1+f)+k) - 1)∧
 (aH (3 * k)∧
 (aH ((3 * k) - 3)∧
 ax Pr B2 [.int .i64 1,.string xC] L fun N O=>
 wE N fun Q S T U V X Y Z aa ba ca da ea fa ga=>
 ax Pr B4 [.pointer j,.int .i64 80,.int .i64 (((1+f)+k) - 1),.int .i64 ((3 * k) - 3),.agg ⟨kQ Q S T U V X Y Z aa ba ca da ea fa ga⟩] O fun ia ja=>
 bU.bY ia fun ka=>
 aD ka fun la ma=>
 aF .i64 la fun na=>
 aD ma fun oa pa=>
 (pa=[]∧
 dF oa fun qa=>
 (aH ((1+f)+k)∧
 (aH (((1+f)+k) - 1)∧
 az (!(qa == ((decide (1≤((1+f)+k) - 1)) && (decide (1≤IntKind.wrap .i64 ((IntKind.wrap .i64 ((IntKind.wrap .i64 (3 * k)) - 3))+2))))))
 (R (.bool false) ja)
 (ax Pr qn [.pointer j] ja fun sa ta=>
 bU.bY sa fun ua=>
 aD ua fun va xa=>
 aF .i64 va fun ya=>
 aD xa fun za Aa=>
 aF .i64 za fun Ba=>
 aD Aa fun Ca Da=>
 ez Ca fun Ea Fa Ga Ia Ja La=>
 aD Da fun Ma Na=>
 (Na=[]∧
 nw aA (zc Pr aA) ta fun Oa Qa=>
 aV Oa Ea Fa Ga Ia Ja La Qa fun Sa=>
 ax Pr xY [.pointer j] Sa fun Ta Ua=>
 bU.bY Ta fun Va=>
 aD Va fun Xa Ya=>
 aF .i64 Xa fun Za=>
 aD Ya fun ab bb=>
 aF .i64 ab fun cb=>
 aD bb fun db eb=>
 aF .i64 db fun fb=>
 aD eb fun gb ib=>
 ez gb fun jb kb lb mb nb ob=>
 aD ib fun pb qb=>
 (qb=[]∧
 nw aA (zc Pr aA) Ua fun sb tb=>
 aV sb jb kb lb mb nb ob tb fun ub=>
 iJ []
 (fun vb=>ax Pr Co [.pointer j,.int .i64 ya,.int .i64 fb] vb fun xb yb=>
 dF xb fun zb=>
 az (!zb)
 (R (.bool false) yb)
 (ax Pr xY [.pointer j] yb fun Ab Bb=>
 bU.bY Ab fun Cb=>
 aD Cb fun Db Eb=>
 aF .i64 Db fun Fb=>
 aD Eb fun Gb Ib=>
 aF .i64 Gb fun Jb=>
 aD Ib fun Lb Mb=>
 aF .i64 Lb fun Nb=>
 aD Mb fun Ob Qb=>
 ez Ob fun Sb Tb Ub Vb Xb Yb=>
 aD Qb fun Zb ac=>
 (ac=[]∧
 nw aA (zc Pr aA) Bb fun bc cc=>
 aV bc Sb Tb Ub Vb Xb Yb cc fun dc=>
 dF Zb fun ec=>
 aG bc dc fun fc gc ic jc kc lc=>
 aG y dc fun mc nc oc pc qc sc=>
 az (!ec)
 (R (.bool false) dc)
 (ax Pr tq [.agg ⟨aT fc gc ic jc kc lc⟩,.agg ⟨aT mc nc oc pc qc sc⟩] dc fun tc uc=>
 aQ tc fun vc=>
 az (!vc)
 (R (.bool false) uc)
 ((aH (k+1)∧
 l (k+1) uc))))))
 (fun xc=>
 dF Ma fun yc=>
 az (!yc)
 (aG Oa ub fun Ac Bc Cc Dc Ec Fc=>
 aG y ub fun Gc Ic Jc Lc Mc Nc=>
 aG sb ub fun Oc Qc Sc Tc Uc Vc=>
 aG y ub fun Xc Yc Zc bd cd dd=>
 R (.bool false) ub)
 (dF pb fun ed=>
 aG Oa ub fun fd gd jd kd ld md=>
 aG y ub fun nd od pd qd sd td=>
 az ((((((!ed) || (!decide (ya=IntKind.wrap .i64 ((1+f)+k)))) || (!decide (Za=ya))) || (!decide (Ba=IntKind.wrap .i64 (3 * k)))) || (!decide (cb=Ba))) || (!decide (fb=80)))
 (aG sb ub fun ud vd xd yd zd Ad=>
 aG y ub fun Bd Cd Dd Ed Fd Gd=>
 R (.bool false) ub)
 (ax Pr tq [.agg ⟨aT fd gd jd kd ld md⟩,.agg ⟨aT nd od pd qd sd td⟩] ub fun Id Jd=>
 aQ Id fun Ld=>
 aG sb Jd fun Md Od Qd Sd Td Ud=>
 aG y Jd fun Vd Xd Yd Zd ae be=>
 az (!Ld)
 (R (.bool false) Jd)
 (ax Pr tq [.agg ⟨aT Md Od Qd Sd Td Ud⟩,.agg ⟨aT Vd Xd Yd Zd ae be⟩] Jd fun ce de=>
 aQ ce fun ee=>
 az (!ee)
 (R (.bool false) de)
 (xc de)))))))))))))))))))
 (fun fe=>
 fD (fun (ge:Bool)=>[(63,some (.bool ge))])
 (fun ge ie=>az ge
 (ax Pr jG [] ie fun je ke=>
 aQ je fun le=>
 R (.bool le) ke)
 (fe ie))
 (fun me=>
 aZ names.a k names.n
 (dR (Addr.add (base names.a) (Int.toNat k * 1)) A fun ne=>
 az (decide (ne=eO))
 (ay (Addr.add y 3) A fun oe=>
 me true A)
 (aZ names.a k names.n
 (dR (Addr.add (base names.a) (Int.toNat k * 1)) A fun pe=>
 ay (Addr.add y 3) A fun qe=>
 me ((decide (300<((ByteArray.size pe:Nat):Int))) || (!decide ((qe.n:Int)=1))) A)))))))
 (ax Pr jG [] m fun se te=>
 aQ se fun ue=>
 R (.bool ue) te))
 0 i)))
theorem ae0 {names:ah} {gen:Int} {w:World} {R:Value→World→Prop} (h:Nz names gen w R):Ok Pr WQ [.slice names.a names.n names.c,.int .i64 gen] w R:=
 aP (m:=⟨true,true⟩) (J:=[(13,[]),(12,[(63,.bool)]),(22,[])]) (L:=[(8,[(6,.int .i64)])]) aN Tryz.func8 (by kernel_rfl) ((by kernel_rfl:aO Pr _ _ _ Tryz.f8 _ w R=Nz names gen w R).mpr h)
def O8 (w:World) (R:Value→World→Prop):Prop:=
 ax Pr yp [.int .i64 100] w fun a b=>
 sI a fun c=>
 ax Pr qn [.pointer c] b fun d e=>
 bU.bY d fun f=>
 aD f fun g i=>
 aF .i64 g fun j=>
 aD i fun k l=>
 aF .i64 k fun m=>
 aD l fun n o=>
 ez n fun p q s t u v=>
 aD o fun x y=>
 (y=[]∧
 nw aA (zc Pr aA) e fun z A=>
 aV z p q s t u v A fun B=>
 ax Pr tu [.string gq] B fun C D=>
 ez C fun E F G I J L=>
 ax Pr rW [.pointer c,.int .i64 1,.int .i64 0,.agg ⟨aT E F G I J L⟩] D fun M N=>
 ax Pr B2 [.int .i64 1,.string fY] N fun O Q=>
 wE O fun S T U V X Y Z aa ba ca da ea fa ga ia=>
 ax Pr B4 [.pointer c,.int .i64 80,.int .i64 1,.int .i64 0,.agg ⟨kQ S T U V X Y Z aa ba ca da ea fa ga ia⟩] Q fun ja ka=>
 bU.bY ja fun la=>
 aD la fun ma na=>
 aF .i64 ma fun oa=>
 aD na fun pa qa=>
 (qa=[]∧
 ax Pr xY [.pointer c] ka fun sa ta=>
 bU.bY sa fun ua=>
 aD ua fun va xa=>
 aF .i64 va fun ya=>
 aD xa fun za Aa=>
 aF .i64 za fun Ba=>
 aD Aa fun Ca Da=>
 aF .i64 Ca fun Ea=>
 aD Da fun Fa Ga=>
 ez Fa fun Ia Ja La Ma Na Oa=>
 aD Ga fun Qa Sa=>
 (Sa=[]∧
 nw aA (zc Pr aA) ta fun Ta Ua=>
 aV Ta Ia Ja La Ma Na Oa Ua fun Va=>
 az (!Option.isNone (α:=Addr) c)
 (ax Pr uY [x] Va fun Xa Ya=>
 aF .i64 Xa fun Za=>
 az (decide (Za=9))
 (dF M fun ab=>
 az (ab && (decide (oa=81)))
 (dF pa fun bb=>
 ay (Addr.add Ta 2) Ya fun cb=>
 az ((((bb && (decide (ya=1))) && (decide (Ba=1))) && (decide (Ea=81))) && (decide ((cb.n:Int)=2)))
 (dF Qa fun db=>
 R (.bool db) Ya)
 (R (.bool false) Ya))
 (ay (Addr.add Ta 2) Ya fun eb=>
 R (.bool false) Ya))
 (ay (Addr.add Ta 2) Ya fun fb=>
 R (.bool false) Ya))
 (ay (Addr.add Ta 2) Va fun gb=>
 R (.bool false) Va))))
theorem aga {w:World} {R:Value→World→Prop} (h:O8 w R):Ok Pr jG [] w R:=
 aP (m:=⟨true,true⟩) (J:=[]) (L:=[]) aN Tryz.func10 (by kernel_rfl) ((by kernel_rfl:aO Pr _ _ _ Tryz.f10 _ w R=O8 w R).mpr h)
def Rt (jn jo:Int) (jq jr:Int) (js jt:Int) (ju jv:Int) (jw jx iV:Int) (iW:ByteArray) (iX iY iZ:ah) (w:World) (R:Value→World→Prop):Prop:=
 nw cV (kQ jn jo jq jr js jt ju jv jw jx iV iW iX iY iZ) w fun a b=>
 dD (Addr.add a 0) b fun c d e f g i j k l m n o p q=>
 nw dx (zc Pr dx) b fun s t=>
 rX s c d e f g i j k l m n o p q t fun u=>
 au .i64 (Addr.add s 0) u fun v=>
 au .i64 (Addr.add s 1) u fun x=>
 au .i64 (Addr.add s 2) u fun y=>
 au .i64 (Addr.add s 3) u fun z=>
 au .i64 (Addr.add s 4) u fun A=>
 au .i64 (Addr.add s 5) u fun B=>
 au .i64 (Addr.add s 6) u fun C=>
 au .i64 (Addr.add s 7) u fun D=>
 au .i64 (Addr.add s 8) u fun E=>
 au .i64 (Addr.add s 9) u fun F=>
 au .i64 (Addr.add s 10) u fun G=>
 nw bn (W4 v x y z A B C D E F G) u fun I J=>
 ax Pr cW [.slice none 0 0,.slice (some I) 11 11] J fun L M=>
 aK L fun N=>
 dR (Addr.add s 11) (World.drew M) fun O=>
 ay (Addr.add s 12) (World.drew M) fun Q=>
 ay (Addr.add s 13) (World.drew M) fun S=>
 ay (Addr.add a 14) (World.drew M) fun T=>
 ((ax Pr Cq [.slice N.a N.n N.c,.string O] (World.drew M) fun U V=>
 aK U fun X=>
 (kept (Addr.add a 14) 1 (World.drew M) V∧
 (kept (Addr.add s 13) 1 (World.drew M) V∧
 (kept (Addr.add s 12) 1 (World.drew M) V∧
 nw bp (CY Q S T) V fun Y Z=>
 (kept (Addr.add s 11) 1 V Z∧
 ax Pr fV [.slice X.a X.n X.c,.slice (some Y) 3 3] Z fun aa ba=>
 aK aa fun ca=>
 R (.slice ca.a ca.n ca.c) ba)))))∧
 (nw bp (CY Q S T) (World.drew M) fun da ea=>
 (kept (Addr.add s 11) 1 (World.drew M) ea∧
 ax Pr Cq [.slice N.a N.n N.c,.string O] ea fun fa ga=>
 aK fa fun ia=>
 (kept (Addr.add a 14) 1 ea ga∧
 (kept (Addr.add s 13) 1 ea ga∧
 (kept (Addr.add s 12) 1 ea ga∧
 ax Pr fV [.slice ia.a ia.n ia.c,.slice (some da) 3 3] ga fun ja ka=>
 aK ja fun la=>
 R (.slice la.a la.n la.c) ka))))))
theorem ahW {jn jo:Int} {jq jr:Int} {js jt:Int} {ju jv:Int} {jw jx iV:Int} {iW:ByteArray} {iX iY iZ:ah} {w:World} {R:Value→World→Prop} (h:Rt jn jo jq jr js jt ju jv jw jx iV iW iX iY iZ w R):Ok Pr Js [.agg ⟨kQ jn jo jq jr js jt ju jv jw jx iV iW iX iY iZ⟩] w R:=
 aP (m:=⟨true,true⟩) (J:=[]) (L:=[]) aN Tryz.func11 (by kernel_rfl) ((by kernel_rfl:aO Pr _ _ _ Tryz.f11 _ w R=Rt jn jo jq jr js jt ju jv jw jx iV iW iX iY iZ w R).mpr h)
def O9 (b:ah) (w:World) (R:Value→World→Prop):Prop:=
 nw cV (zc Pr cV) w fun a c=>
 ax Pr Jt [.slice b.a b.n b.c] c fun d e=>
 sI d fun f=>
 nw rR (zc Pr rR) e fun g i=>
 st g (.pointer f) i fun j=>
 ax Pr p8 [.pointer (some g)] j fun k l=>
 aF .i64 k fun m=>
 ax Pr p8 [.pointer (some g)] l fun n o=>
 aF .i64 n fun p=>
 ax Pr p8 [.pointer (some g)] o fun q s=>
 aF .i64 q fun t=>
 ax Pr p8 [.pointer (some g)] s fun u v=>
 aF .i64 u fun x=>
 ax Pr p8 [.pointer (some g)] v fun y z=>
 aF .i64 y fun A=>
 ax Pr p8 [.pointer (some g)] z fun B C=>
 aF .i64 B fun D=>
 ax Pr p8 [.pointer (some g)] C fun E F=>
 aF .i64 E fun G=>
 ax Pr p8 [.pointer (some g)] F fun I J=>
 aF .i64 I fun L=>
 ax Pr p8 [.pointer (some g)] J fun M N=>
 aF .i64 M fun O=>
 ax Pr p8 [.pointer (some g)] N fun Q S=>
 aF .i64 Q fun T=>
 ax Pr p8 [.pointer (some g)] S fun U V=>
 aF .i64 U fun X=>
 nw dx (zc Pr dx) V fun Y Z=>
 rX Y m p t x A D G L O T X eO ⟨none,0,0⟩ ⟨none,0,0⟩ Z fun aa=>
 bO g (World.drew aa) fun ba=>
 bO g (World.drew aa) fun ca=>
 bO g (World.drew aa) fun da=>
 ax Pr BT [.pointer ba,.int .i64 300] (World.drew aa) fun ea fa=>
 tU ea fun ga=>
 (kept g 1 (World.drew aa) fa∧
 (kept g 1 (World.drew aa) fa∧
 ax Pr p7 [.pointer ca,.int .i64 2000] fa fun ia ja=>
 aK ia fun ka=>
 (kept g 1 fa ja∧
 ax Pr p7 [.pointer da,.int .i64 100] ja fun la ma=>
 aK la fun na=>
 st (Addr.add Y 11) (.string ga) ma fun oa=>
 st (Addr.add Y 12) (.slice ka.a ka.n ka.c) oa fun pa=>
 st (Addr.add Y 13) (.slice na.a na.n na.c) pa fun qa=>
 fD (fun (sa:Addr)=>[(7,some (.pointer (some sa)))])
 (fun sa ta=>bO g ta fun ua=>
 ax Pr Iy [.pointer ua] ta fun va xa=>
 dF va fun ya=>
 az (!ya)
 (ax Pr wG [.int .i64 4] xa fun za Aa=>
 iN a 0 0 0 0 0 0 0 0 0 0 0 eO ⟨none,0,0⟩ ⟨none,0,0⟩ ⟨none,0,0⟩ Aa fun Ba=>
 jH a Ba fun Ca Da Ea Fa Ga Ia Ja La Ma Na Oa Qa Sa Ta Ua=>
 R (.tuple ⟨[.agg ⟨kQ Ca Da Ea Fa Ga Ia Ja La Ma Na Oa Qa Sa Ta Ua⟩,za]⟩) Ba)
 (jH sa xa fun Va Xa Ya Za ab bb cb db eb fb gb ib jb kb lb=>
 iN a Va Xa Ya Za ab bb cb db eb fb gb ib jb kb lb xa fun mb=>
 jH a mb fun nb ob pb qb sb tb ub vb xb yb zb Ab Bb Cb Db=>
 R (.tuple ⟨[.agg ⟨kQ nb ob pb qb sb tb ub vb xb yb zb Ab Bb Cb Db⟩,.nilIface]⟩) mb))
 (fun Eb=>
 dD Y (World.drew qa) fun Fb Gb Ib Jb Lb Mb Nb Ob Qb Sb Tb Ub Vb Xb=>
 bO g (World.drew qa) fun Yb=>
 ((ax Pr p7 [.pointer Yb,.int .i64 100] (World.drew qa) fun Zb ac=>
 aK Zb fun bc=>
 (kept Y 14 (World.drew qa) ac∧
 nw cV (zc Pr cV) ac fun cc dc=>
 (kept g 1 ac dc∧
 (kept Y 14 ac dc∧
 iN cc Fb Gb Ib Jb Lb Mb Nb Ob Qb Sb Tb Ub Vb Xb bc dc fun ec=>
 Eb cc ec))))∧
 (nw cV (zc Pr cV) (World.drew qa) fun fc gc=>
 (kept g 1 (World.drew qa) gc∧
 (kept Y 14 (World.drew qa) gc∧
 ax Pr p7 [.pointer Yb,.int .i64 100] gc fun ic jc=>
 aK ic fun kc=>
 (kept Y 14 gc jc∧
 iN fc Fb Gb Ib Jb Lb Mb Nb Ob Qb Sb Tb Ub Vb Xb kc jc fun lc=>
 Eb fc lc)))))))))
theorem agb {b:ah} {w:World} {R:Value→World→Prop} (h:O9 b w R):Ok Pr Et [.slice b.a b.n b.c] w R:=
 aP (m:=⟨true,true⟩) (J:=[(6,[(7,.DE)])]) (L:=[]) aN Tryz.func14 (by kernel_rfl) ((by kernel_rfl:aO Pr _ _ _ Tryz.f14 _ w R=O9 b w R).mpr h)
def PW (b:ah) (w:World) (R:Value→World→Prop):Prop:=
 nw cV (zc Pr cV) w fun a c=>
 nw gP [.slice b.a b.n b.c,.bool false] c fun d e=>
 ax Pr Pg [.pointer (some d),.int .i64 (-9223372036854775808:Int),.int .i64 9223372036854775807] e fun f g=>
 YA f fun i j k l m n o p q s t u v x=>
 nw cV (zc Pr cV) g fun y z=>
 iN y i j k l m n o p q s t u v x ⟨none,0,0⟩ z fun A=>
 ax Pr zU [.pointer (some d),.int .i64 100] A fun B C=>
 aK B fun D=>
 st (Addr.add y 14) (.slice D.a D.n D.c) C fun E=>
 ax Pr MJ [.pointer (some d)] E fun F G=>
 aF .i64 F fun I=>
 az (!decide (I=0))
 (iN a 0 0 0 0 0 0 0 0 0 0 0 eO ⟨none,0,0⟩ ⟨none,0,0⟩ ⟨none,0,0⟩ G fun J=>
 jH a J fun L M N O Q S T U V X Y Z aa ba ca=>
 R (.tuple ⟨[.agg ⟨kQ L M N O Q S T U V X Y Z aa ba ca⟩,.int .i64 4]⟩) J)
 (jH y G fun da ea fa ga ia ja ka la ma na oa pa qa sa ta=>
 iN a da ea fa ga ia ja ka la ma na oa pa qa sa ta G fun ua=>
 jH a ua fun va xa ya za Aa Ba Ca Da Ea Fa Ga Ia Ja La Ma=>
 R (.tuple ⟨[.agg ⟨kQ va xa ya za Aa Ba Ca Da Ea Fa Ga Ia Ja La Ma⟩,.int .i64 0]⟩) ua)
theorem agO {b:ah} {w:World} {R:Value→World→Prop} (h:PW b w R):Ok Pr Pf [.slice b.a b.n b.c] w R:=
 aP (m:=⟨true,true⟩) (J:=[]) (L:=[]) aN Tryz.func15 (by kernel_rfl) ((by kernel_rfl:aO Pr _ _ _ Tryz.f15 _ w R=PW b w R).mpr h)
def QK (d:Option Addr) (gen count bz:Int) (bA bB:ah) (bH bI bJ:ah) (w:World) (R:Value→World→Prop):Prop:=
 nw aA (aT bz bA bB bH bI bJ) w fun a b=>
 az (Option.isNone (α:=Addr) d)
 (ax Pr wG [.int .i64 1] b fun c e=>
 R c e)
 (aG a b fun f g i j k l=>
 ax Pr P6 [.agg ⟨aT f g i j k l⟩] b fun m n=>
 bU.bY m fun o=>
 aD o fun p q=>
 aK p fun s=>
 aD q fun t u=>
 (u=[]∧
 iJ []
 (fun v=>ax Pr JE [.int .i64 gen] v fun x y=>
 bU.bY x fun z=>
 aD z fun A B=>
 aF .i64 A fun C=>
 aD B fun D E=>
 aF .i64 D fun F=>
 (E=[]∧
 ax Pr I0 [.pointer d,.int .i64 C,.int .i64 F,.int .i64 gen,.int .i64 (IntKind.wrap .i64 (count+1)),.slice s.a s.n s.c] y fun G I=>
 bU.bY G fun J=>
 aD J fun L M=>
 aF .i64 L fun N=>
 aD M fun O Q=>
 (Q=[]∧
 R O I)))
 (fun S=>
 fD (fun (T:Bool)=>[(35,some (.bool T))])
 (fun T U=>az T
 (ax Pr wG [.int .i64 2] U fun V X=>
 R V X)
 (S U))
 (fun Y=>
 dF t fun Z=>
 az (((!Z) || (decide (gen<1))) || (decide (count<0)))
 (Y true n)
 (ax Pr wB [.pointer d] n fun aa ba=>
 aF .i64 aa fun ca=>
 Y (decide (ca≤80)) ba)))))
theorem ahp {d:Option Addr} {gen count bz:Int} {bA bB:ah} {bH bI bJ:ah} {w:World} {R:Value→World→Prop} (h:QK d gen count bz bA bB bH bI bJ w R):Ok Pr rW [.pointer d,.int .i64 gen,.int .i64 count,.agg ⟨aT bz bA bB bH bI bJ⟩] w R:=
 aP (m:=⟨false,true⟩) (J:=[(6,[]),(5,[(35,.bool)])]) (L:=[]) aN Tryz.func22 (by kernel_rfl) ((by kernel_rfl:aO Pr _ _ _ Tryz.f22 _ w R=QK d gen count bz bA bB bH bI bJ w R).mpr h)
def QL (d:Option Addr) (w:World) (R:Value→World→Prop):Prop:=
 nw aA (zc Pr aA) w fun a b=>
 az (Option.isNone (α:=Addr) d)
 (ax Pr wG [.int .i64 1] b fun c e=>
 aV a 0 ⟨none,0,0⟩ ⟨none,0,0⟩ ⟨none,0,0⟩ ⟨none,0,0⟩ ⟨none,0,0⟩ e fun f=>
 aG a f fun g i j k l m=>
 R (.tuple ⟨[.int .i64 0,.int .i64 0,.agg ⟨aT g i j k l m⟩,c]⟩) f)
 (ax Pr I9 [.pointer d,.int .i64 0] b fun n o=>
 bU.bY n fun p=>
 aD p fun q s=>
 aF .i64 q fun t=>
 aD s fun u v=>
 aF .i64 u fun x=>
 aD v fun y z=>
 ez y fun A B C D E F=>
 aD z fun G I=>
 aQ G fun J=>
 (I=[]∧
 nw aA (zc Pr aA) o fun L M=>
 aV L A B C D E F M fun N=>
 ax Pr I9 [.pointer d,.int .i64 40] N fun O Q=>
 bU.bY O fun S=>
 aD S fun T U=>
 aF .i64 T fun V=>
 aD U fun X Y=>
 aF .i64 X fun Z=>
 aD Y fun aa ba=>
 ez aa fun ca da ea fa ga ia=>
 aD ba fun ja ka=>
 aQ ja fun la=>
 (ka=[]∧
 nw aA (zc Pr aA) Q fun ma na=>
 aV ma ca da ea fa ga ia na fun oa=>
 az (J && ((!la) || (decide (V<t))))
 (aG L (World.drew oa) fun pa qa sa ta ua va=>
 aV a pa qa sa ta ua va (World.drew oa) fun xa=>
 aG a xa fun ya za Aa Ba Ca Da=>
 R (.tuple ⟨[.int .i64 t,.int .i64 x,.agg ⟨aT ya za Aa Ba Ca Da⟩,.nilIface]⟩) xa)
 (az la
 (aG ma (World.drew oa) fun Ea Fa Ga Ia Ja La=>
 aV a Ea Fa Ga Ia Ja La (World.drew oa) fun Ma=>
 aG a Ma fun Na Oa Qa Sa Ta Ua=>
 R (.tuple ⟨[.int .i64 V,.int .i64 Z,.agg ⟨aT Na Oa Qa Sa Ta Ua⟩,.nilIface]⟩) Ma)
 (ax Pr wG [.int .i64 9] oa fun Va Xa=>
 aV a 0 ⟨none,0,0⟩ ⟨none,0,0⟩ ⟨none,0,0⟩ ⟨none,0,0⟩ ⟨none,0,0⟩ Xa fun Ya=>
 aG a Ya fun Za ab bb cb db eb=>
 R (.tuple ⟨[.int .i64 0,.int .i64 0,.agg ⟨aT Za ab bb cb db eb⟩,Va]⟩) Ya)))))
theorem ahq {d:Option Addr} {w:World} {R:Value→World→Prop} (h:QL d w R):Ok Pr qn [.pointer d] w R:=
 aP (m:=⟨true,true⟩) (J:=[]) (L:=[]) aN Tryz.func24 (by kernel_rfl) ((by kernel_rfl:aO Pr _ _ _ Tryz.f24 _ w R=QL d w R).mpr h)
def Pa (name:ByteArray) (w:World) (R:Value→World→Prop):Prop:=
 nw aA (zc Pr aA) w fun a b=>
 ((oP Pr aM 1312 1312 (World.drew b) fun c d=>
 ((oP Pr aM 32 32 d fun e f=>
 ((ax Pr qP (wP name c e) f fun g i=>
 bU.bY g fun j=>
 aD j fun k l=>
 ez k fun m n o p q s=>
 aD l fun t u=>
 aF .i64 t fun v=>
 (u=[]∧
 nw aA (zc Pr aA) i fun x y=>
 aV x m n o p q s y fun z=>
 aG x z fun A B C D E F=>
 aV a A B C D E F z fun G=>
 aG a G fun I J L M N O=>
 R (.agg ⟨aT I J L M N O⟩) G))∧
 (nw aA (zc Pr aA) f fun Q S=>
 ax Pr qP (wP name c e) S fun T U=>
 bU.bY T fun V=>
 aD V fun X Y=>
 ez X fun Z aa ba ca da ea=>
 aD Y fun fa ga=>
 aF .i64 fa fun ia=>
 (ga=[]∧
 aV Q Z aa ba ca da ea U fun ja=>
 aG Q ja fun ka la ma na oa pa=>
 aV a ka la ma na oa pa ja fun qa=>
 aG a qa fun sa ta ua va xa ya=>
 R (.agg ⟨aT sa ta ua va xa ya⟩) qa))))∧
 (nw aA (zc Pr aA) d fun za Aa=>
 oP Pr aM 32 32 Aa fun Ba Ca=>
 ax Pr qP (wP name c Ba) Ca fun Da Ea=>
 bU.bY Da fun Fa=>
 aD Fa fun Ga Ia=>
 ez Ga fun Ja La Ma Na Oa Qa=>
 aD Ia fun Sa Ta=>
 aF .i64 Sa fun Ua=>
 (Ta=[]∧
 aV za Ja La Ma Na Oa Qa Ea fun Va=>
 aG za Va fun Xa Ya Za ab bb cb=>
 aV a Xa Ya Za ab bb cb Va fun db=>
 aG a db fun eb fb gb ib jb kb=>
 R (.agg ⟨aT eb fb gb ib jb kb⟩) db))))∧
 (((oP Pr aM 32 32 (World.drew b) fun lb mb=>
 ((oP Pr aM 1312 1312 mb fun nb ob=>
 ((ax Pr qP (wP name nb lb) ob fun pb qb=>
 bU.bY pb fun sb=>
 aD sb fun tb ub=>
 ez tb fun vb xb yb zb Ab Bb=>
 aD ub fun Cb Db=>
 aF .i64 Cb fun Eb=>
 (Db=[]∧
 nw aA (zc Pr aA) qb fun Fb Gb=>
 aV Fb vb xb yb zb Ab Bb Gb fun Ib=>
 aG Fb Ib fun Jb Lb Mb Nb Ob Qb=>
 aV a Jb Lb Mb Nb Ob Qb Ib fun Sb=>
 aG a Sb fun Tb Ub Vb Xb Yb Zb=>
 R (.agg ⟨aT Tb Ub Vb Xb Yb Zb⟩) Sb))∧
 (nw aA (zc Pr aA) ob fun ac bc=>
 ax Pr qP (wP name nb lb) bc fun cc dc=>
 bU.bY cc fun ec=>
 aD ec fun fc gc=>
 ez fc fun ic jc kc lc mc nc=>
 aD gc fun oc pc=>
 aF .i64 oc fun qc=>
 (pc=[]∧
 aV ac ic jc kc lc mc nc dc fun sc=>
 aG ac sc fun tc uc vc xc yc Ac=>
 aV a tc uc vc xc yc Ac sc fun Bc=>
 aG a Bc fun Cc Dc Ec Fc Gc Ic=>
 R (.agg ⟨aT Cc Dc Ec Fc Gc Ic⟩) Bc))))∧
 (nw aA (zc Pr aA) mb fun Jc Lc=>
 oP Pr aM 1312 1312 Lc fun Mc Nc=>
 ax Pr qP (wP name Mc lb) Nc fun Oc Qc=>
 bU.bY Oc fun Sc=>
 aD Sc fun Tc Uc=>
 ez Tc fun Vc Xc Yc Zc bd cd=>
 aD Uc fun dd ed=>
 aF .i64 dd fun fd=>
 (ed=[]∧
 aV Jc Vc Xc Yc Zc bd cd Qc fun gd=>
 aG Jc gd fun jd kd ld md nd od=>
 aV a jd kd ld md nd od gd fun pd=>
 aG a pd fun qd sd td ud vd xd=>
 R (.agg ⟨aT qd sd td ud vd xd⟩) pd))))∧
 (nw aA (zc Pr aA) (World.drew b) fun yd zd=>
 ((oP Pr aM 1312 1312 zd fun Ad Bd=>
 oP Pr aM 32 32 Bd fun Cd Dd=>
 ax Pr qP (wP name Ad Cd) Dd fun Ed Fd=>
 bU.bY Ed fun Gd=>
 aD Gd fun Id Jd=>
 ez Id fun Ld Md Od Qd Sd Td=>
 aD Jd fun Ud Vd=>
 aF .i64 Ud fun Xd=>
 (Vd=[]∧
 aV yd Ld Md Od Qd Sd Td Fd fun Yd=>
 aG yd Yd fun Zd ae be ce de ee=>
 aV a Zd ae be ce de ee Yd fun fe=>
 aG a fe fun ge ie je ke le me=>
 R (.agg ⟨aT ge ie je ke le me⟩) fe))∧
 (oP Pr aM 32 32 zd fun ne oe=>
 oP Pr aM 1312 1312 oe fun pe qe=>
 ax Pr qP (wP name pe ne) qe fun se te=>
 bU.bY se fun ue=>
 aD ue fun ve xe=>
 ez ve fun ye ze Ae Be Ce De=>
 aD xe fun Ee Fe=>
 aF .i64 Ee fun Ge=>
 (Fe=[]∧
 aV yd ye ze Ae Be Ce De te fun Ie=>
 aG yd Ie fun Je Le Me Oe Qe Se=>
 aV a Je Le Me Oe Qe Se Ie fun Te=>
 aG a Te fun Ue Ve Xe Ye Ze af=>
 R (.agg ⟨aT Ue Ve Xe Ye Ze af⟩) Te)))))))
theorem agc {name:ByteArray} {w:World} {R:Value→World→Prop} (h:Pa name w R):Ok Pr tu [.string name] w R:=
 aP (m:=⟨true,true⟩) (J:=[]) (L:=[]) aN Tryz.func30 (by kernel_rfl) ((by kernel_rfl:aO Pr _ _ _ Tryz.f30 _ w R=Pa name w R).mpr h)
def Pb (n:Int) (name:ByteArray) (w:World) (R:Value→World→Prop):Prop:=
 nw cV (zc Pr cV) w fun a b=>
 iN a 1 n 1 1 0 0 0 0 0 0 0 name ⟨none,0,0⟩ ⟨none,0,0⟩ ⟨none,0,0⟩ b fun c=>
 jH a c fun d e f g i j k l m o p q s t u=>
 R (.agg ⟨kQ d e f g i j k l m o p q s t u⟩) c
theorem agd {n:Int} {name:ByteArray} {w:World} {R:Value→World→Prop} (h:Pb n name w R):Ok Pr B2 [.int .i64 n,.string name] w R:=
 aP (m:=⟨true,true⟩) (J:=[]) (L:=[]) aN Tryz.func31 (by kernel_rfl) ((by kernel_rfl:aO Pr _ _ _ Tryz.f31 _ w R=Pb n name w R).mpr h)
def Pc (d:Option Addr) (cP gen:Int) (count jn:Int) (jo jq:Int) (jr js:Int) (jt ju:Int) (jv jw:Int) (jx iV:Int) (iW:ByteArray) (iX iY iZ:ah) (w:World) (R:Value→World→Prop):Prop:=
 nw cV (kQ jn jo jq jr js jt ju jv jw jx iV iW iX iY iZ) w fun a b=>
 (aH (count+2)∧
 jH a (World.drew b) fun c e f g i j k l m n o p q s t=>
 ax Pr wB [.pointer d] (World.drew b) fun u v=>
 aF .i64 u fun x=>
 (kept a 15 (World.drew b) v∧
 ax Pr Js [.agg ⟨kQ c e f g i j k l m n o p q s t⟩] v fun y z=>
 aK y fun A=>
 ax Pr I0 [.pointer d,.int .i64 cP,.int .i64 x,.int .i64 gen,.int .i64 (count+2),.slice A.a A.n A.c] z fun B C=>
 bU.bY B fun D=>
 aD D fun E F=>
 aF .i64 E fun G=>
 aD F fun I J=>
 (J=[]∧
 R (.tuple ⟨[.int .i64 G,I]⟩) C)))
theorem age {d:Option Addr} {cP gen:Int} {count jn:Int} {jo jq:Int} {jr js:Int} {jt ju:Int} {jv jw:Int} {jx iV:Int} {iW:ByteArray} {iX iY iZ:ah} {w:World} {R:Value→World→Prop} (h:Pc d cP gen count jn jo jq jr js jt ju jv jw jx iV iW iX iY iZ w R):Ok Pr B4 [.pointer d,.int .i64 cP,.int .i64 gen,.int .i64 count,.agg ⟨kQ jn jo jq jr js jt ju jv jw jx iV iW iX iY iZ⟩] w R:=
 aP (m:=⟨true,true⟩) (J:=[]) (L:=[]) aN Tryz.func33 (by kernel_rfl) ((by kernel_rfl:aO Pr _ _ _ Tryz.f33 _ w R=Pc d cP gen count jn jo jq jr js jt ju jv jw jx iV iW iX iY iZ w R).mpr h)
def Pd (d:Option Addr) (w:World) (R:Value→World→Prop):Prop:=
 nw aA (zc Pr aA) w fun a b=>
 ax Pr qn [.pointer d] b fun c e=>
 bU.bY c fun f=>
 aD f fun g i=>
 aF .i64 g fun j=>
 aD i fun k l=>
 aF .i64 k fun m=>
 aD l fun n o=>
 ez n fun p q s t u v=>
 aD o fun x y=>
 (y=[]∧
 nw aA (zc Pr aA) e fun z A=>
 aV z p q s t u v A fun B=>
 dF x fun C=>
 az (!C)
 (aV a 0 ⟨none,0,0⟩ ⟨none,0,0⟩ ⟨none,0,0⟩ ⟨none,0,0⟩ ⟨none,0,0⟩ B fun D=>
 aG a D fun E F G I J L=>
 R (.tuple ⟨[.int .i64 0,.int .i64 0,.int .i64 0,.agg ⟨aT E F G I J L⟩,x]⟩) D)
 (AQ (fun (M N:Int)=>[(8,some (.int .i64 M)),(11,some (.int .i64 N))])
 (fun M N O=>aG z (World.drew O) fun Q S T U V X=>
 aV a Q S T U V X (World.drew O) fun Y=>
 aG a Y fun Z aa ba ca da ea=>
 R (.tuple ⟨[.int .i64 j,.int .i64 M,.int .i64 N,.agg ⟨aT Z aa ba ca da ea⟩,.nilIface]⟩) Y)
 (fun fa=>
 ko (fun (ga ia:Int)=>[(8,some (.int .i64 ga)),(11,some (.int .i64 ia))])
 (fun ja ga ia ka=>ax Pr wB [.pointer d] ka fun la ma=>
 aF .i64 la fun na=>
 (aH (ga+2)∧
 ax Pr Jh [.pointer d,.int .i64 ia,.int .i64 na,.int .i64 j,.int .i64 (ga+2)] ma fun oa pa=>
 bU.bY oa fun qa=>
 aD qa fun sa ta=>
 aK sa fun ua=>
 aD ta fun va xa=>
 aF .i64 va fun ya=>
 aD xa fun za Aa=>
 aQ za fun Ba=>
 (Aa=[]∧
 az (!Ba)
 (fa ga ia pa)
 (ax Pr Et [.slice ua.a ua.n ua.c] pa fun Ca Da=>
 bU.bY Ca fun Ea=>
 aD Ea fun Fa Ga=>
 wE Fa fun Ia Ja La Ma Na Oa Qa Sa Ta Ua Va Xa Ya Za ab=>
 aD Ga fun bb cb=>
 (cb=[]∧
 nw cV (zc Pr cV) Da fun db eb=>
 iN db Ia Ja La Ma Na Oa Qa Sa Ta Ua Va Xa Ya Za ab eb fun fb=>
 dF bb fun gb=>
 az (!gb)
 (fa ga ia fb)
 (aG z fb fun ib jb kb lb mb nb=>
 jH db fb fun ob pb qb sb tb ub vb xb yb zb Ab Bb Cb Db Eb=>
 ax Pr Er [.agg ⟨aT ib jb kb lb mb nb⟩,.agg ⟨kQ ob pb qb sb tb ub vb xb yb zb Ab Bb Cb Db Eb⟩] fb fun Fb Gb=>
 bU.bY Fb fun Ib=>
 aD Ib fun Jb Lb=>
 ez Jb fun Mb Nb Ob Qb Sb Tb=>
 aD Lb fun Ub Vb=>
 qh Ub fun Xb Yb Zb ac=>
 aD Vb fun bc cc=>
 (cc=[]∧
 nw aA (zc Pr aA) Gb fun dc ec=>
 nw eH (zc Pr eH) ec fun fc gc=>
 aV dc Mb Nb Ob Qb Sb Tb gc fun ic=>
 ew fc Xb Yb Zb ac ic fun jc=>
 dF bc fun kc=>
 az (!kc)
 (fa ga ia jc)
 ((aH (ga+1)∧
 aG dc (World.drew jc) fun lc mc nc oc pc qc=>
 aV z lc mc nc oc pc qc (World.drew jc) fun sc=>
 ja (ga+1) ya sc)))))))))
 m 80 B)))
theorem agf {d:Option Addr} {w:World} {R:Value→World→Prop} (h:Pd d w R):Ok Pr xY [.pointer d] w R:=
 aP (m:=⟨true,true⟩) (J:=[(12,[(8,.int .i64),(11,.int .i64)])]) (L:=[(5,[(8,.int .i64),(11,.int .i64)])]) aN Tryz.func34 (by kernel_rfl) ((by kernel_rfl:aO Pr _ _ _ Tryz.f34 _ w R=Pd d w R).mpr h)
def Jq (d:Option Addr) (gen cP:Int) (w:World) (R:Value→World→Prop):Prop:=
 iJ []
 (fun a=>ax Pr ED [.int .i64 gen] a fun b c=>
 aF .i64 b fun e=>
 ax Pr ED [.int .i64 gen] c fun f g=>
 aF .i64 f fun i=>
 (aH (i+40)∧
 ax Pr I1 [.pointer d,.int .i64 e,.int .i64 (i+40)] g fun j k=>
 dF j fun l=>
 az (!l)
 (R j k)
 (ax Pr wB [.pointer d] k fun m n=>
 aF .i64 m fun o=>
 ax Pr I1 [.pointer d,.int .i64 cP,.int .i64 o] n fun p q=>
 R p q)))
 (fun s=>
 az (Option.isNone (α:=Addr) d)
 (ax Pr wG [.int .i64 1] w fun t u=>
 R t u)
 (fD (fun (v:Bool)=>[(12,some (.bool v))])
 (fun v x=>az v
 (ax Pr wG [.int .i64 2] x fun y z=>
 R y z)
 (s x))
 (fun A=>
 az ((decide (gen<1)) || (decide (cP<80)))
 (A true w)
 (ax Pr wB [.pointer d] w fun B C=>
 aF .i64 B fun D=>
 A (decide (D<cP)) C))))
theorem Xn {d:Option Addr} {gen cP:Int} {w:World} {R:Value→World→Prop} (h:Jq d gen cP w R):Ok Pr Co [.pointer d,.int .i64 gen,.int .i64 cP] w R:=
 aP (m:=⟨true,true⟩) (J:=[(5,[]),(4,[(12,.bool)])]) (L:=[]) aN Tryz.func35 (by kernel_rfl) ((by kernel_rfl:aO Pr _ _ _ Tryz.f35 _ w R=Jq d gen cP w R).mpr h)
def NU (free:Addr) (w:World) (R:Value→World→Prop):Prop:=
 bO free w fun a=>
 ax Pr pZ [.pointer a,.int .i64 (-9223372036854775808:Int),.int .i64 9223372036854775807] w fun b c=>
 aF .i64 b fun d=>
 R (.int .i64 d) c
theorem afn {free:Addr} {w:World} {R:Value→World→Prop} (h:NU free w R):Ok Pr p8 [.pointer (some free)] w R:=
 aP (m:=⟨true,true⟩) (J:=[]) (L:=[]) aN Tryz.func43 (by kernel_rfl) ((by kernel_rfl:aO Pr _ _ _ Tryz.f43 _ w R=NU free w R).mpr h)
def PX (code:Int) (w:World) (R:Value→World→Prop):Prop:=
 nw qo [.int .i64 code,.string amt] w fun a b=>
 R (.iface kH (.pointer (some a))) b
theorem agP {code:Int} {w:World} {R:Value→World→Prop} (h:PX code w R):Ok Pr wG [.int .i64 code] w R:=
 aP (m:=⟨true,true⟩) (J:=[]) (L:=[]) aN Tryz.func48 (by kernel_rfl) ((by kernel_rfl:aO Pr _ _ _ Tryz.f48 _ w R=PX code w R).mpr h)
def QM (bz:Int) (bA bB:ah) (bH bI bJ:ah) (w:World) (R:Value→World→Prop):Prop:=
 nw aA (aT bz bA bB bH bI bJ) w fun a b=>
 aG a b fun c d e f g i=>
 ax Pr EJ [.agg ⟨aT c d e f g i⟩] b fun j k=>
 aQ j fun l=>
 az (!l)
 (ax Pr IQ [.int .i64 2] k fun m n=>
 R (.tuple ⟨[.slice none 0 0,m]⟩) n)
 (fD (fun (o:ah)=>[(4,some (.slice o.a o.n o.c))])
 (fun o p=>ay (Addr.add a 2) p fun q=>
 ko (fun (s:ah) (t:Int)=>[(4,some (.slice s.a s.n s.c)),(35,some (.int .i64 t))])
 (fun u s t v=>az (decide (t<(q.n:Int)))
 (aZ q.a t q.n
 (Am (Addr.add (base q.a) (Int.toNat t * 3)) v fun x y z=>
 nw cZ (zc Pr cZ) v fun A B=>
 uX A x y z B fun C=>
 au .i64 (Addr.add A 0) (World.drew C) fun D=>
 au .i64 (Addr.add A 1) (World.drew C) fun E=>
 dR (Addr.add A 2) (World.drew C) fun F=>
 nw bn [.int .i64 D,.int .i64 E] (World.drew C) fun G I=>
 (kept (Addr.add A 2) 1 (World.drew C) I∧
 ax Pr cW [.slice s.a s.n s.c,.slice (some G) 2 2] I fun J L=>
 aK J fun M=>
 (kept (Addr.add A 2) 1 I L∧
 ax Pr Cq [.slice M.a M.n M.c,.string F] L fun N O=>
 aK N fun Q=>
 u Q (IntKind.wrap .i64 (t+1)) O))))
 (ay (Addr.add a 3) v fun S=>
 nw bn [.int .i64 (S.n:Int)] v fun T U=>
 ax Pr cW [.slice s.a s.n s.c,.slice (some T) 1 1] U fun V X=>
 aK V fun Y=>
 ay (Addr.add a 3) X fun Z=>
 ko (fun (aa:ah) (ba:Int)=>[(4,some (.slice aa.a aa.n aa.c)),(59,some (.int .i64 ba))])
 (fun ca aa ba da=>az (decide (ba<(Z.n:Int)))
 (aZ Z.a ba Z.n
 (B5 (Addr.add (base Z.a) (Int.toNat ba * 5)) da fun ea fa ga ia ja=>
 nw ey (zc Pr ey) da fun ka la=>
 p9 ka ea fa ga ia ja la fun ma=>
 au .i64 (Addr.add ka 0) (World.drew ma) fun na=>
 au .i64 (Addr.add ka 1) (World.drew ma) fun oa=>
 ay (Addr.add ka 2) (World.drew ma) fun pa=>
 au .i64 (Addr.add ka 3) (World.drew ma) fun qa=>
 au .u64 (Addr.add ka 4) (World.drew ma) fun sa=>
 ((nw bn [.int .i64 na,.int .i64 oa] (World.drew ma) fun ta ua=>
 (kept (Addr.add ka 4) 1 (World.drew ma) ua∧
 (kept (Addr.add ka 3) 1 (World.drew ma) ua∧
 (kept (Addr.add ka 2) 1 (World.drew ma) ua∧
 ((ax Pr cW [.slice aa.a aa.n aa.c,.slice (some ta) 2 2] ua fun va xa=>
 aK va fun ya=>
 (kept (Addr.add ka 4) 1 ua xa∧
 (kept (Addr.add ka 3) 1 ua xa∧
 (kept (Addr.add ka 2) 1 ua xa∧
 ((nw bp [.slice pa.a pa.n pa.c] xa fun za Aa=>
 (kept (Addr.add ka 4) 1 xa Aa∧
 (kept (Addr.add ka 3) 1 xa Aa∧
 (kept (Addr.add ka 1) 1 xa Aa∧
 (kept (Addr.add ka 0) 1 xa Aa∧
 ((ax Pr fV [.slice ya.a ya.n ya.c,.slice (some za) 1 1] Aa fun Ba Ca=>
 aK Ba fun Da=>
 (kept (Addr.add ka 4) 1 Aa Ca∧
 (kept (Addr.add ka 3) 1 Aa Ca∧
 nw bn [.int .i64 qa,.int .i64 (IntKind.wrap .i64 (sa))] Ca fun Ea Fa=>
 (kept (Addr.add ka 2) 1 Ca Fa∧
 (kept (Addr.add ka 1) 1 Ca Fa∧
 (kept (Addr.add ka 0) 1 Ca Fa∧
 ax Pr cW [.slice Da.a Da.n Da.c,.slice (some Ea) 2 2] Fa fun Ga Ia=>
 aK Ga fun Ja=>
 ca Ja (IntKind.wrap .i64 (ba+1)) Ia))))))∧
 (nw bn [.int .i64 qa,.int .i64 (IntKind.wrap .i64 (sa))] Aa fun La Ma=>
 (kept (Addr.add ka 2) 1 Aa Ma∧
 (kept (Addr.add ka 1) 1 Aa Ma∧
 (kept (Addr.add ka 0) 1 Aa Ma∧
 ax Pr fV [.slice ya.a ya.n ya.c,.slice (some za) 1 1] Ma fun Na Oa=>
 aK Na fun Qa=>
 (kept (Addr.add ka 4) 1 Ma Oa∧
 (kept (Addr.add ka 3) 1 Ma Oa∧
 ax Pr cW [.slice Qa.a Qa.n Qa.c,.slice (some La) 2 2] Oa fun Sa Ta=>
 aK Sa fun Ua=>
 ca Ua (IntKind.wrap .i64 (ba+1)) Ta))))))))))))∧
 (nw bn [.int .i64 qa,.int .i64 (IntKind.wrap .i64 (sa))] xa fun Va Xa=>
 (kept (Addr.add ka 2) 1 xa Xa∧
 (kept (Addr.add ka 1) 1 xa Xa∧
 (kept (Addr.add ka 0) 1 xa Xa∧
 nw bp [.slice pa.a pa.n pa.c] Xa fun Ya Za=>
 (kept (Addr.add ka 4) 1 Xa Za∧
 (kept (Addr.add ka 3) 1 Xa Za∧
 (kept (Addr.add ka 1) 1 Xa Za∧
 (kept (Addr.add ka 0) 1 Xa Za∧
 ax Pr fV [.slice ya.a ya.n ya.c,.slice (some Ya) 1 1] Za fun ab bb=>
 aK ab fun cb=>
 (kept (Addr.add ka 4) 1 Za bb∧
 (kept (Addr.add ka 3) 1 Za bb∧
 ax Pr cW [.slice cb.a cb.n cb.c,.slice (some Va) 2 2] bb fun db eb=>
 aK db fun fb=>
 ca fb (IntKind.wrap .i64 (ba+1)) eb)))))))))))))))∧
 (((nw bp [.slice pa.a pa.n pa.c] ua fun gb ib=>
 (kept (Addr.add ka 4) 1 ua ib∧
 (kept (Addr.add ka 3) 1 ua ib∧
 (kept (Addr.add ka 1) 1 ua ib∧
 (kept (Addr.add ka 0) 1 ua ib∧
 ((ax Pr cW [.slice aa.a aa.n aa.c,.slice (some ta) 2 2] ib fun jb kb=>
 aK jb fun lb=>
 (kept (Addr.add ka 4) 1 ib kb∧
 (kept (Addr.add ka 3) 1 ib kb∧
 (kept (Addr.add ka 2) 1 ib kb∧
 ((ax Pr fV [.slice lb.a lb.n lb.c,.slice (some gb) 1 1] kb fun mb nb=>
 aK mb fun ob=>
 (kept (Addr.add ka 4) 1 kb nb∧
 (kept (Addr.add ka 3) 1 kb nb∧
 nw bn [.int .i64 qa,.int .i64 (IntKind.wrap .i64 (sa))] nb fun pb qb=>
 (kept (Addr.add ka 2) 1 nb qb∧
 (kept (Addr.add ka 1) 1 nb qb∧
 (kept (Addr.add ka 0) 1 nb qb∧
 ax Pr cW [.slice ob.a ob.n ob.c,.slice (some pb) 2 2] qb fun sb tb=>
 aK sb fun ub=>
 ca ub (IntKind.wrap .i64 (ba+1)) tb))))))∧
 (nw bn [.int .i64 qa,.int .i64 (IntKind.wrap .i64 (sa))] kb fun vb xb=>
 (kept (Addr.add ka 2) 1 kb xb∧
 (kept (Addr.add ka 1) 1 kb xb∧
 (kept (Addr.add ka 0) 1 kb xb∧
 ax Pr fV [.slice lb.a lb.n lb.c,.slice (some gb) 1 1] xb fun yb zb=>
 aK yb fun Ab=>
 (kept (Addr.add ka 4) 1 xb zb∧
 (kept (Addr.add ka 3) 1 xb zb∧
 ax Pr cW [.slice Ab.a Ab.n Ab.c,.slice (some vb) 2 2] zb fun Bb Cb=>
 aK Bb fun Db=>
 ca Db (IntKind.wrap .i64 (ba+1)) Cb)))))))))))∧
 (nw bn [.int .i64 qa,.int .i64 (IntKind.wrap .i64 (sa))] ib fun Eb Fb=>
 (kept (Addr.add ka 2) 1 ib Fb∧
 (kept (Addr.add ka 1) 1 ib Fb∧
 (kept (Addr.add ka 0) 1 ib Fb∧
 ax Pr cW [.slice aa.a aa.n aa.c,.slice (some ta) 2 2] Fb fun Gb Ib=>
 aK Gb fun Jb=>
 (kept (Addr.add ka 4) 1 Fb Ib∧
 (kept (Addr.add ka 3) 1 Fb Ib∧
 (kept (Addr.add ka 2) 1 Fb Ib∧
 ax Pr fV [.slice Jb.a Jb.n Jb.c,.slice (some gb) 1 1] Ib fun Lb Mb=>
 aK Lb fun Nb=>
 (kept (Addr.add ka 4) 1 Ib Mb∧
 (kept (Addr.add ka 3) 1 Ib Mb∧
 ax Pr cW [.slice Nb.a Nb.n Nb.c,.slice (some Eb) 2 2] Mb fun Ob Qb=>
 aK Ob fun Sb=>
 ca Sb (IntKind.wrap .i64 (ba+1)) Qb)))))))))))))))∧
 (nw bn [.int .i64 qa,.int .i64 (IntKind.wrap .i64 (sa))] ua fun Tb Ub=>
 (kept (Addr.add ka 2) 1 ua Ub∧
 (kept (Addr.add ka 1) 1 ua Ub∧
 (kept (Addr.add ka 0) 1 ua Ub∧
 ((ax Pr cW [.slice aa.a aa.n aa.c,.slice (some ta) 2 2] Ub fun Vb Xb=>
 aK Vb fun Yb=>
 (kept (Addr.add ka 4) 1 Ub Xb∧
 (kept (Addr.add ka 3) 1 Ub Xb∧
 (kept (Addr.add ka 2) 1 Ub Xb∧
 nw bp [.slice pa.a pa.n pa.c] Xb fun Zb ac=>
 (kept (Addr.add ka 4) 1 Xb ac∧
 (kept (Addr.add ka 3) 1 Xb ac∧
 (kept (Addr.add ka 1) 1 Xb ac∧
 (kept (Addr.add ka 0) 1 Xb ac∧
 ax Pr fV [.slice Yb.a Yb.n Yb.c,.slice (some Zb) 1 1] ac fun bc cc=>
 aK bc fun dc=>
 (kept (Addr.add ka 4) 1 ac cc∧
 (kept (Addr.add ka 3) 1 ac cc∧
 ax Pr cW [.slice dc.a dc.n dc.c,.slice (some Tb) 2 2] cc fun ec fc=>
 aK ec fun gc=>
 ca gc (IntKind.wrap .i64 (ba+1)) fc))))))))))∧
 (nw bp [.slice pa.a pa.n pa.c] Ub fun ic jc=>
 (kept (Addr.add ka 4) 1 Ub jc∧
 (kept (Addr.add ka 3) 1 Ub jc∧
 (kept (Addr.add ka 1) 1 Ub jc∧
 (kept (Addr.add ka 0) 1 Ub jc∧
 ax Pr cW [.slice aa.a aa.n aa.c,.slice (some ta) 2 2] jc fun kc lc=>
 aK kc fun mc=>
 (kept (Addr.add ka 4) 1 jc lc∧
 (kept (Addr.add ka 3) 1 jc lc∧
 (kept (Addr.add ka 2) 1 jc lc∧
 ax Pr fV [.slice mc.a mc.n mc.c,.slice (some ic) 1 1] lc fun nc oc=>
 aK nc fun pc=>
 (kept (Addr.add ka 4) 1 lc oc∧
 (kept (Addr.add ka 3) 1 lc oc∧
 ax Pr cW [.slice pc.a pc.n pc.c,.slice (some Tb) 2 2] oc fun qc sc=>
 aK qc fun tc=>
 ca tc (IntKind.wrap .i64 (ba+1)) sc))))))))))))))))))))))∧
 (((nw bp [.slice pa.a pa.n pa.c] (World.drew ma) fun uc vc=>
 (kept (Addr.add ka 4) 1 (World.drew ma) vc∧
 (kept (Addr.add ka 3) 1 (World.drew ma) vc∧
 (kept (Addr.add ka 1) 1 (World.drew ma) vc∧
 (kept (Addr.add ka 0) 1 (World.drew ma) vc∧
 ((nw bn [.int .i64 na,.int .i64 oa] vc fun xc yc=>
 (kept (Addr.add ka 4) 1 vc yc∧
 (kept (Addr.add ka 3) 1 vc yc∧
 (kept (Addr.add ka 2) 1 vc yc∧
 ((ax Pr cW [.slice aa.a aa.n aa.c,.slice (some xc) 2 2] yc fun Ac Bc=>
 aK Ac fun Cc=>
 (kept (Addr.add ka 4) 1 yc Bc∧
 (kept (Addr.add ka 3) 1 yc Bc∧
 (kept (Addr.add ka 2) 1 yc Bc∧
 ((ax Pr fV [.slice Cc.a Cc.n Cc.c,.slice (some uc) 1 1] Bc fun Dc Ec=>
 aK Dc fun Fc=>
 (kept (Addr.add ka 4) 1 Bc Ec∧
 (kept (Addr.add ka 3) 1 Bc Ec∧
 nw bn [.int .i64 qa,.int .i64 (IntKind.wrap .i64 (sa))] Ec fun Gc Ic=>
 (kept (Addr.add ka 2) 1 Ec Ic∧
 (kept (Addr.add ka 1) 1 Ec Ic∧
 (kept (Addr.add ka 0) 1 Ec Ic∧
 ax Pr cW [.slice Fc.a Fc.n Fc.c,.slice (some Gc) 2 2] Ic fun Jc Lc=>
 aK Jc fun Mc=>
 ca Mc (IntKind.wrap .i64 (ba+1)) Lc))))))∧
 (nw bn [.int .i64 qa,.int .i64 (IntKind.wrap .i64 (sa))] Bc fun Nc Oc=>
 (kept (Addr.add ka 2) 1 Bc Oc∧
 (kept (Addr.add ka 1) 1 Bc Oc∧
 (kept (Addr.add ka 0) 1 Bc Oc∧
 ax Pr fV [.slice Cc.a Cc.n Cc.c,.slice (some uc) 1 1] Oc fun Qc Sc=>
 aK Qc fun Tc=>
 (kept (Addr.add ka 4) 1 Oc Sc∧
 (kept (Addr.add ka 3) 1 Oc Sc∧
 ax Pr cW [.slice Tc.a Tc.n Tc.c,.slice (some Nc) 2 2] Sc fun Uc Vc=>
 aK Uc fun Xc=>
 ca Xc (IntKind.wrap .i64 (ba+1)) Vc)))))))))))∧
 (nw bn [.int .i64 qa,.int .i64 (IntKind.wrap .i64 (sa))] yc fun Yc Zc=>
 (kept (Addr.add ka 2) 1 yc Zc∧
 (kept (Addr.add ka 1) 1 yc Zc∧
 (kept (Addr.add ka 0) 1 yc Zc∧
 ax Pr cW [.slice aa.a aa.n aa.c,.slice (some xc) 2 2] Zc fun bd cd=>
 aK bd fun dd=>
 (kept (Addr.add ka 4) 1 Zc cd∧
 (kept (Addr.add ka 3) 1 Zc cd∧
 (kept (Addr.add ka 2) 1 Zc cd∧
 ax Pr fV [.slice dd.a dd.n dd.c,.slice (some uc) 1 1] cd fun ed fd=>
 aK ed fun gd=>
 (kept (Addr.add ka 4) 1 cd fd∧
 (kept (Addr.add ka 3) 1 cd fd∧
 ax Pr cW [.slice gd.a gd.n gd.c,.slice (some Yc) 2 2] fd fun jd kd=>
 aK jd fun ld=>
 ca ld (IntKind.wrap .i64 (ba+1)) kd))))))))))))))∧
 (nw bn [.int .i64 qa,.int .i64 (IntKind.wrap .i64 (sa))] vc fun md nd=>
 (kept (Addr.add ka 2) 1 vc nd∧
 (kept (Addr.add ka 1) 1 vc nd∧
 (kept (Addr.add ka 0) 1 vc nd∧
 nw bn [.int .i64 na,.int .i64 oa] nd fun od pd=>
 (kept (Addr.add ka 4) 1 nd pd∧
 (kept (Addr.add ka 3) 1 nd pd∧
 (kept (Addr.add ka 2) 1 nd pd∧
 ax Pr cW [.slice aa.a aa.n aa.c,.slice (some od) 2 2] pd fun qd sd=>
 aK qd fun td=>
 (kept (Addr.add ka 4) 1 pd sd∧
 (kept (Addr.add ka 3) 1 pd sd∧
 (kept (Addr.add ka 2) 1 pd sd∧
 ax Pr fV [.slice td.a td.n td.c,.slice (some uc) 1 1] sd fun ud vd=>
 aK ud fun xd=>
 (kept (Addr.add ka 4) 1 sd vd∧
 (kept (Addr.add ka 3) 1 sd vd∧
 ax Pr cW [.slice xd.a xd.n xd.c,.slice (some md) 2 2] vd fun yd zd=>
 aK yd fun Ad=>
 ca Ad (IntKind.wrap .i64 (ba+1)) zd))))))))))))))))))∧
 (nw bn [.int .i64 qa,.int .i64 (IntKind.wrap .i64 (sa))] (World.drew ma) fun Bd Cd=>
 (kept (Addr.add ka 2) 1 (World.drew ma) Cd∧
 (kept (Addr.add ka 1) 1 (World.drew ma) Cd∧
 (kept (Addr.add ka 0) 1 (World.drew ma) Cd∧
 ((nw bn [.int .i64 na,.int .i64 oa] Cd fun Dd Ed=>
 (kept (Addr.add ka 4) 1 Cd Ed∧
 (kept (Addr.add ka 3) 1 Cd Ed∧
 (kept (Addr.add ka 2) 1 Cd Ed∧
 ((ax Pr cW [.slice aa.a aa.n aa.c,.slice (some Dd) 2 2] Ed fun Fd Gd=>
 aK Fd fun Id=>
 (kept (Addr.add ka 4) 1 Ed Gd∧
 (kept (Addr.add ka 3) 1 Ed Gd∧
 (kept (Addr.add ka 2) 1 Ed Gd∧
 nw bp [.slice pa.a pa.n pa.c] Gd fun Jd Ld=>
 (kept (Addr.add ka 4) 1 Gd Ld∧
 (kept (Addr.add ka 3) 1 Gd Ld∧
 (kept (Addr.add ka 1) 1 Gd Ld∧
 (kept (Addr.add ka 0) 1 Gd Ld∧
 ax Pr fV [.slice Id.a Id.n Id.c,.slice (some Jd) 1 1] Ld fun Md Od=>
 aK Md fun Qd=>
 (kept (Addr.add ka 4) 1 Ld Od∧
 (kept (Addr.add ka 3) 1 Ld Od∧
 ax Pr cW [.slice Qd.a Qd.n Qd.c,.slice (some Bd) 2 2] Od fun Sd Td=>
 aK Sd fun Ud=>
 ca Ud (IntKind.wrap .i64 (ba+1)) Td))))))))))∧
 (nw bp [.slice pa.a pa.n pa.c] Ed fun Vd Xd=>
 (kept (Addr.add ka 4) 1 Ed Xd∧
 (kept (Addr.add ka 3) 1 Ed Xd∧
 (kept (Addr.add ka 1) 1 Ed Xd∧
 (kept (Addr.add ka 0) 1 Ed Xd∧
 ax Pr cW [.slice aa.a aa.n aa.c,.slice (some Dd) 2 2] Xd fun Yd Zd=>
 aK Yd fun ae=>
 (kept (Addr.add ka 4) 1 Xd Zd∧
 (kept (Addr.add ka 3) 1 Xd Zd∧
 (kept (Addr.add ka 2) 1 Xd Zd∧
 ax Pr fV [.slice ae.a ae.n ae.c,.slice (some Vd) 1 1] Zd fun be ce=>
 aK be fun de=>
 (kept (Addr.add ka 4) 1 Zd ce∧
 (kept (Addr.add ka 3) 1 Zd ce∧
 ax Pr cW [.slice de.a de.n de.c,.slice (some Bd) 2 2] ce fun ee fe=>
 aK ee fun ge=>
 ca ge (IntKind.wrap .i64 (ba+1)) fe)))))))))))))))∧
 (nw bp [.slice pa.a pa.n pa.c] Cd fun ie je=>
 (kept (Addr.add ka 4) 1 Cd je∧
 (kept (Addr.add ka 3) 1 Cd je∧
 (kept (Addr.add ka 1) 1 Cd je∧
 (kept (Addr.add ka 0) 1 Cd je∧
 nw bn [.int .i64 na,.int .i64 oa] je fun ke le=>
 (kept (Addr.add ka 4) 1 je le∧
 (kept (Addr.add ka 3) 1 je le∧
 (kept (Addr.add ka 2) 1 je le∧
 ax Pr cW [.slice aa.a aa.n aa.c,.slice (some ke) 2 2] le fun me ne=>
 aK me fun oe=>
 (kept (Addr.add ka 4) 1 le ne∧
 (kept (Addr.add ka 3) 1 le ne∧
 (kept (Addr.add ka 2) 1 le ne∧
 ax Pr fV [.slice oe.a oe.n oe.c,.slice (some ie) 1 1] ne fun pe qe=>
 aK pe fun se=>
 (kept (Addr.add ka 4) 1 ne qe∧
 (kept (Addr.add ka 3) 1 ne qe∧
 ax Pr cW [.slice se.a se.n se.c,.slice (some Bd) 2 2] qe fun te ue=>
 aK te fun ve=>
 ca ve (IntKind.wrap .i64 (ba+1)) ue)))))))))))))))))))))))
 (ay (Addr.add a 4) da fun xe=>
 nw bn [.int .i64 (xe.n:Int)] da fun ye ze=>
 ax Pr cW [.slice aa.a aa.n aa.c,.slice (some ye) 1 1] ze fun Ae Be=>
 aK Ae fun Ce=>
 ay (Addr.add a 4) Be fun De=>
 ko (fun (Ee:ah) (Fe:Int)=>[(4,some (.slice Ee.a Ee.n Ee.c)),(91,some (.int .i64 Fe))])
 (fun Ge Ee Fe Ie=>az (decide (Fe<(De.n:Int)))
 (aZ De.a Fe De.n
 (iI (Addr.add (base De.a) (Int.toNat Fe * 4)) Ie fun Je Le Me Oe=>
 nw bW (zc Pr bW) Ie fun Qe Se=>
 kR Qe Je Le Me Oe Se fun Te=>
 au .i64 (Addr.add Qe 0) Te fun Ue=>
 au .i64 (Addr.add Qe 1) Te fun Ve=>
 au .i64 (Addr.add Qe 2) Te fun Xe=>
 ay (Addr.add Qe 3) Te fun Ye=>
 nw bn (Z8 Ue Ve Xe (Ye.n:Int)) Te fun Ze af=>
 ax Pr cW [.slice Ee.a Ee.n Ee.c,.slice (some Ze) 4 4] af fun bf cf=>
 aK bf fun df=>
 ay (Addr.add Qe 3) cf fun ef=>
 ko (fun (ff:ah) (gf:Int)=>[(4,some (.slice ff.a ff.n ff.c)),(110,some (.int .i64 gf))])
 (fun jf ff gf kf=>az (decide (gf<(ef.n:Int)))
 (aZ ef.a gf ef.n
 (uV (Addr.add (base ef.a) (Int.toNat gf * 4)) kf fun lf mf nf pf=>
 nw eW (zc Pr eW) kf fun qf sf=>
 rT qf lf mf nf pf sf fun tf=>
 au .i64 (Addr.add qf 0) (World.drew tf) fun uf=>
 au .i64 (Addr.add qf 1) (World.drew tf) fun vf=>
 au .i64 (Addr.add qf 2) (World.drew tf) fun xf=>
 ay (Addr.add qf 3) (World.drew tf) fun yf=>
 ((nw bn (jB uf vf xf) (World.drew tf) fun zf Af=>
 (kept (Addr.add qf 3) 1 (World.drew tf) Af∧
 ((ax Pr cW [.slice ff.a ff.n ff.c,.slice (some zf) 3 3] Af fun Bf Cf=>
 aK Bf fun Df=>
 (kept (Addr.add qf 3) 1 Af Cf∧
 nw bp [.slice yf.a yf.n yf.c] Cf fun Ef Ff=>
 (kept (Addr.add qf 2) 1 Cf Ff∧
 (kept (Addr.add qf 1) 1 Cf Ff∧
 (kept (Addr.add qf 0) 1 Cf Ff∧
 ax Pr fV [.slice Df.a Df.n Df.c,.slice (some Ef) 1 1] Ff fun Gf If=>
 aK Gf fun Jf=>
 jf Jf (IntKind.wrap .i64 (gf+1)) If)))))∧
 (nw bp [.slice yf.a yf.n yf.c] Af fun Lf Mf=>
 (kept (Addr.add qf 2) 1 Af Mf∧
 (kept (Addr.add qf 1) 1 Af Mf∧
 (kept (Addr.add qf 0) 1 Af Mf∧
 ax Pr cW [.slice ff.a ff.n ff.c,.slice (some zf) 3 3] Mf fun Nf Of=>
 aK Nf fun Qf=>
 (kept (Addr.add qf 3) 1 Mf Of∧
 ax Pr fV [.slice Qf.a Qf.n Qf.c,.slice (some Lf) 1 1] Of fun Sf Tf=>
 aK Sf fun Uf=>
 jf Uf (IntKind.wrap .i64 (gf+1)) Tf))))))))∧
 (nw bp [.slice yf.a yf.n yf.c] (World.drew tf) fun Vf Xf=>
 (kept (Addr.add qf 2) 1 (World.drew tf) Xf∧
 (kept (Addr.add qf 1) 1 (World.drew tf) Xf∧
 (kept (Addr.add qf 0) 1 (World.drew tf) Xf∧
 nw bn (jB uf vf xf) Xf fun Yf Zf=>
 (kept (Addr.add qf 3) 1 Xf Zf∧
 ax Pr cW [.slice ff.a ff.n ff.c,.slice (some Yf) 3 3] Zf fun ag bg=>
 aK ag fun cg=>
 (kept (Addr.add qf 3) 1 Zf bg∧
 ax Pr fV [.slice cg.a cg.n cg.c,.slice (some Vf) 1 1] bg fun dg eg=>
 aK dg fun fg=>
 jf fg (IntKind.wrap .i64 (gf+1)) eg)))))))))
 (Ge ff (IntKind.wrap .i64 (Fe+1)) kf))
 df 0 cf))
 (ay (Addr.add a 5) Ie fun gg=>
 nw bn [.int .i64 (gg.n:Int)] Ie fun ig jg=>
 ax Pr cW [.slice Ee.a Ee.n Ee.c,.slice (some ig) 1 1] jg fun kg lg=>
 aK kg fun mg=>
 ay (Addr.add a 5) lg fun ng=>
 ko (fun (og:ah) (pg:Int)=>[(4,some (.slice og.a og.n og.c)),(138,some (.int .i64 pg))])
 (fun qg og pg sg=>az (decide (pg<(ng.n:Int)))
 (aZ ng.a pg ng.n
 (qm (Addr.add (base ng.a) (Int.toNat pg * 6)) sg fun tg ug vg xg yg zg=>
 nw dJ (zc Pr dJ) sg fun Ag Bg=>
 tw Ag tg ug vg xg yg zg Bg fun Cg=>
 au .i64 (Addr.add Ag 0) (World.drew Cg) fun Dg=>
 au .i64 (Addr.add Ag 1) (World.drew Cg) fun Eg=>
 au .i64 (Addr.add Ag 2) (World.drew Cg) fun Fg=>
 au .i64 (Addr.add Ag 3) (World.drew Cg) fun Gg=>
 au .i64 (Addr.add Ag 4) (World.drew Cg) fun Ig=>
 nq (Addr.add Ag 5) (World.drew Cg) fun Jg=>
 ax Pr Pj [.bool Jg] (World.drew Cg) fun Lg Mg=>
 aF .i64 Lg fun Ng=>
 (kept (Addr.add Ag 4) 1 (World.drew Cg) Mg∧
 (kept (Addr.add Ag 3) 1 (World.drew Cg) Mg∧
 (kept (Addr.add Ag 2) 1 (World.drew Cg) Mg∧
 (kept (Addr.add Ag 1) 1 (World.drew Cg) Mg∧
 (kept (Addr.add Ag 0) 1 (World.drew Cg) Mg∧
 nw bn (ajF Dg Eg Fg Gg Ig Ng) Mg fun Og Qg=>
 ax Pr cW [.slice og.a og.n og.c,.slice (some Og) 6 6] Qg fun Sg Tg=>
 aK Sg fun Ug=>
 qg Ug (IntKind.wrap .i64 (pg+1)) Tg)))))))
 (R (.tuple ⟨[.slice og.a og.n og.c,.nilIface]⟩) sg))
 mg 0 lg))
 Ce 0 Be))
 Y 0 X))
 o 0 p)
 (fun Vg=>
 au .i64 (Addr.add a 0) (World.drew k) fun Xg=>
 ay (Addr.add a 1) (World.drew k) fun Yg=>
 ay (Addr.add a 2) (World.drew k) fun Zg=>
 ((nw bn [.int .i64 Xg] (World.drew k) fun ai bi=>
 (kept (Addr.add a 2) 1 (World.drew k) bi∧
 (kept (Addr.add a 1) 1 (World.drew k) bi∧
 ((ax Pr cW [.slice none 0 0,.slice (some ai) 1 1] bi fun ci di=>
 aK ci fun ei=>
 (kept (Addr.add a 2) 1 bi di∧
 (kept (Addr.add a 1) 1 bi di∧
 ((nw bp [.slice Yg.a Yg.n Yg.c] di fun fi gi=>
 (kept (Addr.add a 2) 1 di gi∧
 (kept (Addr.add a 0) 1 di gi∧
 ((ax Pr fV [.slice ei.a ei.n ei.c,.slice (some fi) 1 1] gi fun ii ji=>
 aK ii fun ki=>
 (kept (Addr.add a 2) 1 gi ji∧
 nw bn [.int .i64 (Zg.n:Int)] ji fun li mi=>
 (kept (Addr.add a 1) 1 ji mi∧
 (kept (Addr.add a 0) 1 ji mi∧
 ax Pr cW [.slice ki.a ki.n ki.c,.slice (some li) 1 1] mi fun ni oi=>
 aK ni fun pi=>
 Vg pi oi))))∧
 (nw bn [.int .i64 (Zg.n:Int)] gi fun qi si=>
 (kept (Addr.add a 1) 1 gi si∧
 (kept (Addr.add a 0) 1 gi si∧
 ax Pr fV [.slice ei.a ei.n ei.c,.slice (some fi) 1 1] si fun ti ui=>
 aK ti fun vi=>
 (kept (Addr.add a 2) 1 si ui∧
 ax Pr cW [.slice vi.a vi.n vi.c,.slice (some qi) 1 1] ui fun xi yi=>
 aK xi fun zi=>
 Vg zi yi))))))))∧
 (nw bn [.int .i64 (Zg.n:Int)] di fun Ai Bi=>
 (kept (Addr.add a 1) 1 di Bi∧
 (kept (Addr.add a 0) 1 di Bi∧
 nw bp [.slice Yg.a Yg.n Yg.c] Bi fun Ci Di=>
 (kept (Addr.add a 2) 1 Bi Di∧
 (kept (Addr.add a 0) 1 Bi Di∧
 ax Pr fV [.slice ei.a ei.n ei.c,.slice (some Ci) 1 1] Di fun Ei Fi=>
 aK Ei fun Gi=>
 (kept (Addr.add a 2) 1 Di Fi∧
 ax Pr cW [.slice Gi.a Gi.n Gi.c,.slice (some Ai) 1 1] Fi fun Ii Ji=>
 aK Ii fun Li=>
 Vg Li Ji))))))))))∧
 (((nw bp [.slice Yg.a Yg.n Yg.c] bi fun Mi Ni=>
 (kept (Addr.add a 2) 1 bi Ni∧
 (kept (Addr.add a 0) 1 bi Ni∧
 ((ax Pr cW [.slice none 0 0,.slice (some ai) 1 1] Ni fun Oi Qi=>
 aK Oi fun Si=>
 (kept (Addr.add a 2) 1 Ni Qi∧
 (kept (Addr.add a 1) 1 Ni Qi∧
 ((ax Pr fV [.slice Si.a Si.n Si.c,.slice (some Mi) 1 1] Qi fun Ti Ui=>
 aK Ti fun Vi=>
 (kept (Addr.add a 2) 1 Qi Ui∧
 nw bn [.int .i64 (Zg.n:Int)] Ui fun Xi Yi=>
 (kept (Addr.add a 1) 1 Ui Yi∧
 (kept (Addr.add a 0) 1 Ui Yi∧
 ax Pr cW [.slice Vi.a Vi.n Vi.c,.slice (some Xi) 1 1] Yi fun Zi aj=>
 aK Zi fun bj=>
 Vg bj aj))))∧
 (nw bn [.int .i64 (Zg.n:Int)] Qi fun cj dj=>
 (kept (Addr.add a 1) 1 Qi dj∧
 (kept (Addr.add a 0) 1 Qi dj∧
 ax Pr fV [.slice Si.a Si.n Si.c,.slice (some Mi) 1 1] dj fun ej fj=>
 aK ej fun gj=>
 (kept (Addr.add a 2) 1 dj fj∧
 ax Pr cW [.slice gj.a gj.n gj.c,.slice (some cj) 1 1] fj fun ij jj=>
 aK ij fun kj=>
 Vg kj jj))))))))∧
 (nw bn [.int .i64 (Zg.n:Int)] Ni fun lj mj=>
 (kept (Addr.add a 1) 1 Ni mj∧
 (kept (Addr.add a 0) 1 Ni mj∧
 ax Pr cW [.slice none 0 0,.slice (some ai) 1 1] mj fun nj oj=>
 aK nj fun pj=>
 (kept (Addr.add a 2) 1 mj oj∧
 (kept (Addr.add a 1) 1 mj oj∧
 ax Pr fV [.slice pj.a pj.n pj.c,.slice (some Mi) 1 1] oj fun qj sj=>
 aK qj fun tj=>
 (kept (Addr.add a 2) 1 oj sj∧
 ax Pr cW [.slice tj.a tj.n tj.c,.slice (some lj) 1 1] sj fun uj vj=>
 aK uj fun xj=>
 Vg xj vj))))))))))∧
 (nw bn [.int .i64 (Zg.n:Int)] bi fun yj zj=>
 (kept (Addr.add a 1) 1 bi zj∧
 (kept (Addr.add a 0) 1 bi zj∧
 ((ax Pr cW [.slice none 0 0,.slice (some ai) 1 1] zj fun Aj Bj=>
 aK Aj fun Cj=>
 (kept (Addr.add a 2) 1 zj Bj∧
 (kept (Addr.add a 1) 1 zj Bj∧
 nw bp [.slice Yg.a Yg.n Yg.c] Bj fun Dj Ej=>
 (kept (Addr.add a 2) 1 Bj Ej∧
 (kept (Addr.add a 0) 1 Bj Ej∧
 ax Pr fV [.slice Cj.a Cj.n Cj.c,.slice (some Dj) 1 1] Ej fun Fj Gj=>
 aK Fj fun Ij=>
 (kept (Addr.add a 2) 1 Ej Gj∧
 ax Pr cW [.slice Ij.a Ij.n Ij.c,.slice (some yj) 1 1] Gj fun Jj Lj=>
 aK Jj fun Mj=>
 Vg Mj Lj))))))∧
 (nw bp [.slice Yg.a Yg.n Yg.c] zj fun Nj Oj=>
 (kept (Addr.add a 2) 1 zj Oj∧
 (kept (Addr.add a 0) 1 zj Oj∧
 ax Pr cW [.slice none 0 0,.slice (some ai) 1 1] Oj fun Qj Sj=>
 aK Qj fun Tj=>
 (kept (Addr.add a 2) 1 Oj Sj∧
 (kept (Addr.add a 1) 1 Oj Sj∧
 ax Pr fV [.slice Tj.a Tj.n Tj.c,.slice (some Nj) 1 1] Sj fun Uj Vj=>
 aK Uj fun Xj=>
 (kept (Addr.add a 2) 1 Sj Vj∧
 ax Pr cW [.slice Xj.a Xj.n Xj.c,.slice (some yj) 1 1] Vj fun Yj Zj=>
 aK Yj fun ak=>
 Vg ak Zj))))))))))))))))∧
 (((nw bp [.slice Yg.a Yg.n Yg.c] (World.drew k) fun bk ck=>
 (kept (Addr.add a 2) 1 (World.drew k) ck∧
 (kept (Addr.add a 0) 1 (World.drew k) ck∧
 ((nw bn [.int .i64 Xg] ck fun dk ek=>
 (kept (Addr.add a 2) 1 ck ek∧
 (kept (Addr.add a 1) 1 ck ek∧
 ((ax Pr cW [.slice none 0 0,.slice (some dk) 1 1] ek fun fk gk=>
 aK fk fun ik=>
 (kept (Addr.add a 2) 1 ek gk∧
 (kept (Addr.add a 1) 1 ek gk∧
 ((ax Pr fV [.slice ik.a ik.n ik.c,.slice (some bk) 1 1] gk fun jk kk=>
 aK jk fun lk=>
 (kept (Addr.add a 2) 1 gk kk∧
 nw bn [.int .i64 (Zg.n:Int)] kk fun nk pk=>
 (kept (Addr.add a 1) 1 kk pk∧
 (kept (Addr.add a 0) 1 kk pk∧
 ax Pr cW [.slice lk.a lk.n lk.c,.slice (some nk) 1 1] pk fun qk sk=>
 aK qk fun tk=>
 Vg tk sk))))∧
 (nw bn [.int .i64 (Zg.n:Int)] gk fun uk vk=>
 (kept (Addr.add a 1) 1 gk vk∧
 (kept (Addr.add a 0) 1 gk vk∧
 ax Pr fV [.slice ik.a ik.n ik.c,.slice (some bk) 1 1] vk fun xk yk=>
 aK xk fun zk=>
 (kept (Addr.add a 2) 1 vk yk∧
 ax Pr cW [.slice zk.a zk.n zk.c,.slice (some uk) 1 1] yk fun Ak Bk=>
 aK Ak fun Ck=>
 Vg Ck Bk))))))))∧
 (nw bn [.int .i64 (Zg.n:Int)] ek fun Dk Ek=>
 (kept (Addr.add a 1) 1 ek Ek∧
 (kept (Addr.add a 0) 1 ek Ek∧
 ax Pr cW [.slice none 0 0,.slice (some dk) 1 1] Ek fun Fk Gk=>
 aK Fk fun Ik=>
 (kept (Addr.add a 2) 1 Ek Gk∧
 (kept (Addr.add a 1) 1 Ek Gk∧
 ax Pr fV [.slice Ik.a Ik.n Ik.c,.slice (some bk) 1 1] Gk fun Jk Lk=>
 aK Jk fun Mk=>
 (kept (Addr.add a 2) 1 Gk Lk∧
 ax Pr cW [.slice Mk.a Mk.n Mk.c,.slice (some Dk) 1 1] Lk fun Nk Qk=>
 aK Nk fun Sk=>
 Vg Sk Qk))))))))))∧
 (nw bn [.int .i64 (Zg.n:Int)] ck fun Tk Uk=>
 (kept (Addr.add a 1) 1 ck Uk∧
 (kept (Addr.add a 0) 1 ck Uk∧
 nw bn [.int .i64 Xg] Uk fun Vk Xk=>
 (kept (Addr.add a 2) 1 Uk Xk∧
 (kept (Addr.add a 1) 1 Uk Xk∧
 ax Pr cW [.slice none 0 0,.slice (some Vk) 1 1] Xk fun Yk Zk=>
 aK Yk fun al=>
 (kept (Addr.add a 2) 1 Xk Zk∧
 (kept (Addr.add a 1) 1 Xk Zk∧
 ax Pr fV [.slice al.a al.n al.c,.slice (some bk) 1 1] Zk fun bl cl=>
 aK bl fun dl=>
 (kept (Addr.add a 2) 1 Zk cl∧
 ax Pr cW [.slice dl.a dl.n dl.c,.slice (some Tk) 1 1] cl fun el fl=>
 aK el fun gl=>
 Vg gl fl))))))))))))∧
 (nw bn [.int .i64 (Zg.n:Int)] (World.drew k) fun il jl=>
 (kept (Addr.add a 1) 1 (World.drew k) jl∧
 (kept (Addr.add a 0) 1 (World.drew k) jl∧
 ((nw bn [.int .i64 Xg] jl fun kl ll=>
 (kept (Addr.add a 2) 1 jl ll∧
 (kept (Addr.add a 1) 1 jl ll∧
 ((ax Pr cW [.slice none 0 0,.slice (some kl) 1 1] ll fun ml nl=>
 aK ml fun ol=>
 (kept (Addr.add a 2) 1 ll nl∧
 (kept (Addr.add a 1) 1 ll nl∧
 nw bp [.slice Yg.a Yg.n Yg.c] nl fun pl ql=>
 (kept (Addr.add a 2) 1 nl ql∧
 (kept (Addr.add a 0) 1 nl ql∧
 ax Pr fV [.slice ol.a ol.n ol.c,.slice (some pl) 1 1] ql fun sl tl=>
 aK sl fun ul=>
 (kept (Addr.add a 2) 1 ql tl∧
 ax Pr cW [.slice ul.a ul.n ul.c,.slice (some il) 1 1] tl fun vl xl=>
 aK vl fun yl=>
 Vg yl xl))))))∧
 (nw bp [.slice Yg.a Yg.n Yg.c] ll fun zl Al=>
 (kept (Addr.add a 2) 1 ll Al∧
 (kept (Addr.add a 0) 1 ll Al∧
 ax Pr cW [.slice none 0 0,.slice (some kl) 1 1] Al fun Bl Cl=>
 aK Bl fun Dl=>
 (kept (Addr.add a 2) 1 Al Cl∧
 (kept (Addr.add a 1) 1 Al Cl∧
 ax Pr fV [.slice Dl.a Dl.n Dl.c,.slice (some zl) 1 1] Cl fun El Fl=>
 aK El fun Gl=>
 (kept (Addr.add a 2) 1 Cl Fl∧
 ax Pr cW [.slice Gl.a Gl.n Gl.c,.slice (some il) 1 1] Fl fun Il Jl=>
 aK Il fun Ll=>
 Vg Ll Jl))))))))))∧
 (nw bp [.slice Yg.a Yg.n Yg.c] jl fun Ml Nl=>
 (kept (Addr.add a 2) 1 jl Nl∧
 (kept (Addr.add a 0) 1 jl Nl∧
 nw bn [.int .i64 Xg] Nl fun Ol Ql=>
 (kept (Addr.add a 2) 1 Nl Ql∧
 (kept (Addr.add a 1) 1 Nl Ql∧
 ax Pr cW [.slice none 0 0,.slice (some Ol) 1 1] Ql fun Tl Ul=>
 aK Tl fun Vl=>
 (kept (Addr.add a 2) 1 Ql Ul∧
 (kept (Addr.add a 1) 1 Ql Ul∧
 ax Pr fV [.slice Vl.a Vl.n Vl.c,.slice (some Ml) 1 1] Ul fun Xl Yl=>
 aK Xl fun Zl=>
 (kept (Addr.add a 2) 1 Ul Yl∧
 ax Pr cW [.slice Zl.a Zl.n Zl.c,.slice (some il) 1 1] Yl fun am bm=>
 aK am fun cm=>
 Vg cm bm)))))))))))))))))
theorem ahr {bz:Int} {bA bB:ah} {bH bI bJ:ah} {w:World} {R:Value→World→Prop} (h:QM bz bA bB bH bI bJ w R):Ok Pr P6 [.agg ⟨aT bz bA bB bH bI bJ⟩] w R:=
 aP (m:=⟨false,true⟩) (J:=[(4,[(4,.sl)])]) (L:=[(5,[(4,.sl),(35,.int .i64)]),(11,[(4,.sl),(59,.int .i64)]),(17,[(4,.sl),(91,.int .i64)]),(21,[(4,.sl),(110,.int .i64)]),(28,[(4,.sl),(138,.int .i64)])]) aN Tryz.func56 (by kernel_rfl) ((by kernel_rfl:aO Pr _ _ _ Tryz.f56 _ w R=QM bz bA bB bH bI bJ w R).mpr h)
def RG (gen:Int) (w:World) (R:Value→World→Prop):Prop:=
 ax Pr ED [.int .i64 gen] w fun a b=>
 aF .i64 a fun c=>
 (aH (40 - c)∧
 (aH ((40 - c)+40)∧
 R (.tuple ⟨[.int .i64 (40 - c),.int .i64 ((40 - c)+40)]⟩) b))
theorem aiq {gen:Int} {w:World} {R:Value→World→Prop} (h:RG gen w R):Ok Pr JE [.int .i64 gen] w R:=
 aP (m:=⟨true,true⟩) (J:=[]) (L:=[]) aN Tryz.func58 (by kernel_rfl) ((by kernel_rfl:aO Pr _ _ _ Tryz.f58 _ w R=RG gen w R).mpr h)
def QN (d:Option Addr) (cP:Int) (w:World) (R:Value→World→Prop):Prop:=
 nw aA (zc Pr aA) w fun a b=>
 ax Pr Qh [.pointer d,.int .i64 cP] b fun c e=>
 bU.bY c fun f=>
 aD f fun g i=>
 aF .i64 g fun j=>
 aD i fun k l=>
 aF .i64 k fun m=>
 aD l fun n o=>
 aQ n fun p=>
 (o=[]∧
 ax Pr JE [.int .i64 j] e fun q s=>
 bU.bY q fun t=>
 aD t fun u v=>
 aF .i64 u fun x=>
 aD v fun y z=>
 aF .i64 y fun A=>
 (z=[]∧
 az ((!p) || (!decide (x=cP)))
 (aV a 0 ⟨none,0,0⟩ ⟨none,0,0⟩ ⟨none,0,0⟩ ⟨none,0,0⟩ ⟨none,0,0⟩ s fun B=>
 aG a B fun C D E F G I=>
 R (.tuple ⟨[.int .i64 0,.int .i64 0,.agg ⟨aT C D E F G I⟩,.bool false]⟩) B)
 (ax Pr Jh [.pointer d,.int .i64 cP,.int .i64 A,.int .i64 j,.int .i64 m] s fun J L=>
 bU.bY J fun M=>
 aD M fun N O=>
 aK N fun Q=>
 aD O fun S T=>
 aF .i64 S fun U=>
 aD T fun V X=>
 aQ V fun Y=>
 (X=[]∧
 ax Pr Pk [.slice Q.a Q.n Q.c] L fun Z aa=>
 bU.bY Z fun ba=>
 aD ba fun ca da=>
 ez ca fun ea fa ga ia ja ka=>
 aD da fun la ma=>
 (ma=[]∧
 nw aA (zc Pr aA) aa fun na oa=>
 aV na ea fa ga ia ja ka oa fun pa=>
 iJ []
 (fun qa=>(aH (m - 1)∧
 aG na (World.drew qa) fun sa ta ua va xa ya=>
 aV a sa ta ua va xa ya (World.drew qa) fun za=>
 aG a za fun Aa Ba Ca Da Ea Fa=>
 R (.tuple ⟨[.int .i64 j,.int .i64 (m - 1),.agg ⟨aT Aa Ba Ca Da Ea Fa⟩,.bool true]⟩) za))
 (fun Ga=>
 fD (fun (Ia:Bool)=>[(57,some (.bool Ia))])
 (fun Ia Ja=>az Ia
 (aV a 0 ⟨none,0,0⟩ ⟨none,0,0⟩ ⟨none,0,0⟩ ⟨none,0,0⟩ ⟨none,0,0⟩ Ja fun La=>
 aG a La fun Ma Na Oa Qa Sa Ta=>
 R (.tuple ⟨[.int .i64 0,.int .i64 0,.agg ⟨aT Ma Na Oa Qa Sa Ta⟩,.bool false]⟩) La)
 (Ga Ja))
 (fun Ua=>
 az (!Y)
 (Ua true pa)
 (dF la fun Va=>
 Ua (!Va) pa))))))))
theorem ahs {d:Option Addr} {cP:Int} {w:World} {R:Value→World→Prop} (h:QN d cP w R):Ok Pr I9 [.pointer d,.int .i64 cP] w R:=
 aP (m:=⟨true,true⟩) (J:=[(9,[]),(8,[(57,.bool)])]) (L:=[]) aN Tryz.func64 (by kernel_rfl) ((by kernel_rfl:aO Pr _ _ _ Tryz.f64 _ w R=QN d cP w R).mpr h)
def PY (gen:Int) (w:World) (R:Value→World→Prop):Prop:=
 (0≤gen∧
 (aH ((gen % 2) * 40)∧
 R (.int .i64 ((gen % 2) * 40)) w))
theorem agQ {gen:Int} {w:World} {R:Value→World→Prop} (h:PY gen w R):Ok Pr ED [.int .i64 gen] w R:=
 aP (m:=⟨true,true⟩) (J:=[]) (L:=[]) aN Tryz.func80 (by kernel_rfl) ((by kernel_rfl:aO Pr _ _ _ Tryz.f80 _ w R=PY gen w R).mpr h)
def PZ (HA:Bool) (w:World) (R:Value→World→Prop):Prop:=
 az HA
 (R (.int .i64 1) w)
 (R (.int .i64 0) w)
theorem agR {HA:Bool} {w:World} {R:Value→World→Prop} (h:PZ HA w R):Ok Pr Pj [.bool HA] w R:=
 aP (m:=⟨true,true⟩) (J:=[]) (L:=[]) aN Tryz.func93 (by kernel_rfl) ((by kernel_rfl:aO Pr _ _ _ Tryz.f93 _ w R=PZ HA w R).mpr h)
def P0 (b:ah) (w:World) (R:Value→World→Prop):Prop:=
 nw aA (zc Pr aA) w fun a c=>
 ax Pr Jt [.slice b.a b.n b.c] c fun d e=>
 sI d fun f=>
 nw oH (zc Pr oH) e fun g i=>
 st (Addr.add g 0) (.pointer f) i fun j=>
 ax Pr I4 [.int .i64 1] j fun k l=>
 bU.bY k fun m=>
 aD m fun n o=>
 aF .i64 n fun p=>
 aD o fun q s=>
 aF .i64 q fun t=>
 aD s fun u v=>
 aF .i64 u fun x=>
 (v=[]∧
 fD (fun (y:Addr)=>[(8,some (.pointer (some y)))])
 (fun y z=>bO (Addr.add g 0) z fun A=>
 ax Pr pZ [.pointer A,.int .i64 0,.int .i64 8] z fun B C=>
 aF .i64 B fun D=>
 dX (fun (E:Int)=>[(26,some (.int .i64 E))])
 (fun F E G=>az (decide (E<D))
 (ay (Addr.add y 2) (World.drew G) fun I=>
 bO (Addr.add g 0) (World.drew G) fun J=>
 bO (Addr.add g 0) (World.drew G) fun L=>
 bO (Addr.add g 0) (World.drew G) fun M=>
 ax Pr fU [.agg ⟨[.pointer J]⟩] (World.drew G) fun N O=>
 aF .i64 N fun Q=>
 (kept (Addr.add g 0) 1 (World.drew G) O∧
 (kept g 1 (World.drew G) O∧
 (kept (Addr.add y 2) 1 (World.drew G) O∧
 ax Pr fU [.agg ⟨[.pointer L]⟩] O fun S T=>
 aF .i64 S fun U=>
 (kept (Addr.add g 0) 1 O T∧
 (kept (Addr.add y 2) 1 O T∧
 ax Pr BT [.pointer M,.int .i64 300] T fun V X=>
 tU V fun Y=>
 (kept (Addr.add y 2) 1 T X∧
 nw cZ (tQ Q U Y) X fun Z aa=>
 (kept (Addr.add y 2) 1 X aa∧
 cS Pr [jU,jU] jU [.slice I.a I.n I.c,.slice (some Z) 1 1] aa fun ba ca=>
 st (Addr.add y 2) (.slice ba.a ba.n ba.c) ca fun da=>
 F (IntKind.wrap .i64 (E+1)) da))))))))
 (bO (Addr.add g 0) G fun ea=>
 ax Pr pZ [.pointer ea,.int .i64 0,.int .i64 6] G fun fa ga=>
 aF .i64 fa fun ia=>
 dX (fun (ja:Int)=>[(45,some (.int .i64 ja))])
 (fun ka ja la=>az (decide (ja<ia))
 (ay (Addr.add y 3) (World.drew la) fun ma=>
 bO (Addr.add g 0) (World.drew la) fun na=>
 bO (Addr.add g 0) (World.drew la) fun oa=>
 bO (Addr.add g 0) (World.drew la) fun pa=>
 bO (Addr.add g 0) (World.drew la) fun qa=>
 bO (Addr.add g 0) (World.drew la) fun sa=>
 ax Pr fU [.agg ⟨[.pointer na]⟩] (World.drew la) fun ta ua=>
 aF .i64 ta fun va=>
 (kept g 1 (World.drew la) ua∧
 (kept g 1 (World.drew la) ua∧
 (kept (Addr.add g 0) 1 (World.drew la) ua∧
 (kept g 1 (World.drew la) ua∧
 (kept (Addr.add y 3) 1 (World.drew la) ua∧
 ax Pr fU [.agg ⟨[.pointer oa]⟩] ua fun xa ya=>
 aF .i64 xa fun za=>
 (kept g 1 ua ya∧
 (kept g 1 ua ya∧
 (kept (Addr.add g 0) 1 ua ya∧
 (kept (Addr.add y 3) 1 ua ya∧
 ax Pr p7 [.pointer pa,.int .i64 p] ya fun Aa Ba=>
 aK Aa fun Ca=>
 (kept g 1 ya Ba∧
 (kept g 1 ya Ba∧
 (kept (Addr.add y 3) 1 ya Ba∧
 ax Pr fU [.agg ⟨[.pointer qa]⟩] Ba fun Da Ea=>
 aF .i64 Da fun Fa=>
 (kept g 1 Ba Ea∧
 (kept (Addr.add y 3) 1 Ba Ea∧
 ax Pr fU [.agg ⟨[.pointer sa]⟩] Ea fun Ga Ia=>
 aF .i64 Ga fun Ja=>
 (kept (Addr.add y 3) 1 Ea Ia∧
 nw ey (RQ va za Ca Fa (IntKind.wrap .u64 (Ja))) Ia fun La Ma=>
 (kept (Addr.add y 3) 1 Ia Ma∧
 cS Pr [nE,nE] nE [.slice ma.a ma.n ma.c,.slice (some La) 1 1] Ma fun Na Oa=>
 st (Addr.add y 3) (.slice Na.a Na.n Na.c) Oa fun Qa=>
 ka (IntKind.wrap .i64 (ja+1)) Qa)))))))))))))))))
 (bO (Addr.add g 0) la fun Sa=>
 ax Pr pZ [.pointer Sa,.int .i64 0,.int .i64 6] la fun Ta Ua=>
 aF .i64 Ta fun Va=>
 dX (fun (Xa:Int)=>[(70,some (.int .i64 Xa))])
 (fun Ya Xa Za=>az (decide (Xa<Va))
 (ay (Addr.add y 4) (World.drew Za) fun ab=>
 bO (Addr.add g 0) (World.drew Za) fun bb=>
 ax Pr Eo [.agg ⟨[.pointer bb]⟩] (World.drew Za) fun cb db=>
 Cx cb fun eb fb gb ib=>
 (kept (Addr.add y 4) 1 (World.drew Za) db∧
 nw bW (fu eb fb gb ib) db fun jb kb=>
 (kept (Addr.add y 4) 1 db kb∧
 cS Pr [nH,nH] nH [.slice ab.a ab.n ab.c,.slice (some jb) 1 1] kb fun lb mb=>
 st (Addr.add y 4) (.slice lb.a lb.n lb.c) mb fun nb=>
 Ya (IntKind.wrap .i64 (Xa+1)) nb)))
 (bO (Addr.add g 0) Za fun ob=>
 ax Pr pZ [.pointer ob,.int .i64 0,.int .i64 8] Za fun pb qb=>
 aF .i64 pb fun sb=>
 dX (fun (tb:Int)=>[(83,some (.int .i64 tb))])
 (fun ub tb vb=>az (decide (tb<sb))
 (ay (Addr.add y 5) (World.drew vb) fun xb=>
 bO (Addr.add g 0) (World.drew vb) fun yb=>
 bO (Addr.add g 0) (World.drew vb) fun zb=>
 bO (Addr.add g 0) (World.drew vb) fun Ab=>
 bO (Addr.add g 0) (World.drew vb) fun Bb=>
 bO (Addr.add g 0) (World.drew vb) fun Cb=>
 bO (Addr.add g 0) (World.drew vb) fun Db=>
 ax Pr fU [.agg ⟨[.pointer yb]⟩] (World.drew vb) fun Eb Fb=>
 aF .i64 Eb fun Gb=>
 (kept (Addr.add g 0) 1 (World.drew vb) Fb∧
 (kept g 1 (World.drew vb) Fb∧
 (kept g 1 (World.drew vb) Fb∧
 (kept g 1 (World.drew vb) Fb∧
 (kept g 1 (World.drew vb) Fb∧
 (kept (Addr.add y 5) 1 (World.drew vb) Fb∧
 ax Pr fU [.agg ⟨[.pointer zb]⟩] Fb fun Ib Jb=>
 aF .i64 Ib fun Lb=>
 (kept (Addr.add g 0) 1 Fb Jb∧
 (kept g 1 Fb Jb∧
 (kept g 1 Fb Jb∧
 (kept g 1 Fb Jb∧
 (kept (Addr.add y 5) 1 Fb Jb∧
 ax Pr fU [.agg ⟨[.pointer Ab]⟩] Jb fun Mb Nb=>
 aF .i64 Mb fun Ob=>
 (kept (Addr.add g 0) 1 Jb Nb∧
 (kept g 1 Jb Nb∧
 (kept g 1 Jb Nb∧
 (kept (Addr.add y 5) 1 Jb Nb∧
 ax Pr fU [.agg ⟨[.pointer Bb]⟩] Nb fun Qb Sb=>
 aF .i64 Qb fun Tb=>
 (kept (Addr.add g 0) 1 Nb Sb∧
 (kept g 1 Nb Sb∧
 (kept (Addr.add y 5) 1 Nb Sb∧
 ax Pr fU [.agg ⟨[.pointer Cb]⟩] Sb fun Ub Vb=>
 aF .i64 Ub fun Xb=>
 (kept (Addr.add g 0) 1 Sb Vb∧
 (kept (Addr.add y 5) 1 Sb Vb∧
 ax Pr pZ [.pointer Db,.int .i64 0,.int .i64 1] Vb fun Yb Zb=>
 aF .i64 Yb fun ac=>
 (kept (Addr.add y 5) 1 Vb Zb∧
 nw dJ (pz Gb Lb Ob Tb Xb (decide (ac=1))) Zb fun bc cc=>
 (kept (Addr.add y 5) 1 Zb cc∧
 cS Pr [nF,nF] nF [.slice xb.a xb.n xb.c,.slice (some bc) 1 1] cc fun dc ec=>
 st (Addr.add y 5) (.slice dc.a dc.n dc.c) ec fun fc=>
 ub (IntKind.wrap .i64 (tb+1)) fc)))))))))))))))))))))))
 (fD (fun (gc:Bool)=>[(114,some (.bool gc))])
 (fun gc ic=>az gc
 (ax Pr IQ [.int .i64 4] ic fun jc kc=>
 aV a 0 ⟨none,0,0⟩ ⟨none,0,0⟩ ⟨none,0,0⟩ ⟨none,0,0⟩ ⟨none,0,0⟩ kc fun lc=>
 aG a lc fun mc nc oc pc qc sc=>
 R (.tuple ⟨[.agg ⟨aT mc nc oc pc qc sc⟩,jc]⟩) lc)
 (aG y ic fun tc uc vc xc yc Ac=>
 aV a tc uc vc xc yc Ac ic fun Bc=>
 aG a Bc fun Cc Dc Ec Fc Gc Ic=>
 R (.tuple ⟨[.agg ⟨aT Cc Dc Ec Fc Gc Ic⟩,.nilIface]⟩) Bc))
 (fun Jc=>
 bO (Addr.add g 0) vb fun Lc=>
 ax Pr Iy [.pointer Lc] vb fun Mc Nc=>
 dF Mc fun Oc=>
 aG y Nc fun Qc Sc Tc Uc Vc Xc=>
 az (!Oc)
 (Jc true Nc)
 (ax Pr EJ [.agg ⟨aT Qc Sc Tc Uc Vc Xc⟩] Nc fun Yc Zc=>
 aQ Yc fun bd=>
 Jc (!bd) Zc))))
 0 qb))
 0 Ua))
 0 ga))
 0 C)
 (fun cd=>
 bO (Addr.add g 0) (World.drew l) fun dd=>
 bO (Addr.add g 0) (World.drew l) fun ed=>
 ((ax Pr fU [.agg ⟨[.pointer dd]⟩] (World.drew l) fun fd gd=>
 aF .i64 fd fun jd=>
 (kept (Addr.add g 0) 1 (World.drew l) gd∧
 ((ax Pr p7 [.pointer ed,.int .i64 32] gd fun kd ld=>
 aK kd fun md=>
 nw aA (zc Pr aA) ld fun nd od=>
 (kept (Addr.add g 0) 1 ld od∧
 (kept g 1 ld od∧
 aV nd jd md ⟨none,0,0⟩ ⟨none,0,0⟩ ⟨none,0,0⟩ ⟨none,0,0⟩ od fun pd=>
 cd nd pd)))∧
 (nw aA (zc Pr aA) gd fun qd sd=>
 (kept (Addr.add g 0) 1 gd sd∧
 (kept g 1 gd sd∧
 ax Pr p7 [.pointer ed,.int .i64 32] sd fun td ud=>
 aK td fun vd=>
 aV qd jd vd ⟨none,0,0⟩ ⟨none,0,0⟩ ⟨none,0,0⟩ ⟨none,0,0⟩ ud fun xd=>
 cd qd xd))))))∧
 (nw aA (zc Pr aA) (World.drew l) fun yd zd=>
 (kept (Addr.add g 0) 1 (World.drew l) zd∧
 (kept g 1 (World.drew l) zd∧
 ax Pr fU [.agg ⟨[.pointer dd]⟩] zd fun Ad Bd=>
 aF .i64 Ad fun Cd=>
 (kept (Addr.add g 0) 1 zd Bd∧
 ax Pr p7 [.pointer ed,.int .i64 32] Bd fun Dd Ed=>
 aK Dd fun Fd=>
 aV yd Cd Fd ⟨none,0,0⟩ ⟨none,0,0⟩ ⟨none,0,0⟩ ⟨none,0,0⟩ Ed fun Gd=>
 cd yd Gd)))))))
theorem agS {b:ah} {w:World} {R:Value→World→Prop} (h:P0 b w R):Ok Pr Pk [.slice b.a b.n b.c] w R:=
 aP (m:=⟨false,true⟩) (J:=[(4,[(8,.DE)]),(21,[(114,.bool)])]) (L:=[(5,[(26,.int .i64)]),(9,[(45,.int .i64)]),(13,[(70,.int .i64)]),(17,[(83,.int .i64)])]) aN Tryz.func105 (by kernel_rfl) ((by kernel_rfl:aO Pr _ _ _ Tryz.f105 _ w R=P0 b w R).mpr h)
def M0 (uO:Option Addr) (w:World) (R:Value→World→Prop):Prop:=
 nw oH [.pointer uO] w fun a b=>
 bO (Addr.add a 0) b fun c=>
 ax Pr pZ [.pointer c,.int .i64 (-9223372036854775808:Int),.int .i64 9223372036854775807] b fun d e=>
 aF .i64 d fun f=>
 R (.int .i64 f) e
theorem aew {uO:Option Addr} {w:World} {R:Value→World→Prop} (h:M0 uO w R):Ok Pr fU [.agg ⟨[.pointer uO]⟩] w R:=
 aP (m:=⟨true,true⟩) (J:=[]) (L:=[]) aN Tryz.func138 (by kernel_rfl) ((by kernel_rfl:aO Pr _ _ _ Tryz.f138 _ w R=M0 uO w R).mpr h)
def M1 (uO:Option Addr) (w:World) (R:Value→World→Prop):Prop:=
 nw oH [.pointer uO] w fun a b=>
 nw bW (zc Pr bW) b fun c d=>
 fD (fun (e:Addr)=>[(3,some (.pointer (some e)))])
 (fun e f=>bO (Addr.add a 0) f fun g=>
 ax Pr pZ [.pointer g,.int .i64 0,.int .i64 5] f fun i j=>
 aF .i64 i fun k=>
 dX (fun (l:Int)=>[(14,some (.int .i64 l))])
 (fun m l n=>az (decide (l<k))
 (ay (Addr.add e 3) (World.drew n) fun o=>
 bO (Addr.add a 0) (World.drew n) fun p=>
 bO (Addr.add a 0) (World.drew n) fun q=>
 bO (Addr.add a 0) (World.drew n) fun s=>
 bO (Addr.add a 0) (World.drew n) fun t=>
 ax Pr fU [.agg ⟨[.pointer p]⟩] (World.drew n) fun u v=>
 aF .i64 u fun x=>
 (kept (Addr.add a 0) 1 (World.drew n) v∧
 (kept a 1 (World.drew n) v∧
 (kept a 1 (World.drew n) v∧
 (kept (Addr.add e 3) 1 (World.drew n) v∧
 ax Pr fU [.agg ⟨[.pointer q]⟩] v fun y z=>
 aF .i64 y fun A=>
 (kept (Addr.add a 0) 1 v z∧
 (kept a 1 v z∧
 (kept (Addr.add e 3) 1 v z∧
 ax Pr fU [.agg ⟨[.pointer s]⟩] z fun B C=>
 aF .i64 B fun D=>
 (kept (Addr.add a 0) 1 z C∧
 (kept (Addr.add e 3) 1 z C∧
 ax Pr p7 [.pointer t,.int .i64 64] C fun E F=>
 aK E fun G=>
 (kept (Addr.add e 3) 1 C F∧
 nw eW (fu x A D G) F fun I J=>
 (kept (Addr.add e 3) 1 F J∧
 cS Pr [rS,rS] rS [.slice o.a o.n o.c,.slice (some I) 1 1] J fun L M=>
 st (Addr.add e 3) (.slice L.a L.n L.c) M fun N=>
 (aH (l+1)∧
 m (l+1) N)))))))))))))
 (iI e n fun O Q S T=>
 kR c O Q S T n fun U=>
 iI c U fun V X Y Z=>
 R (.agg ⟨fu V X Y Z⟩) U))
 0 j)
 (fun aa=>
 bO (Addr.add a 0) (World.drew d) fun ba=>
 bO (Addr.add a 0) (World.drew d) fun ca=>
 bO (Addr.add a 0) (World.drew d) fun da=>
 ((ax Pr fU [.agg ⟨[.pointer ba]⟩] (World.drew d) fun ea fa=>
 aF .i64 ea fun ga=>
 (kept a 1 (World.drew d) fa∧
 (kept a 1 (World.drew d) fa∧
 ((ax Pr fU [.agg ⟨[.pointer ca]⟩] fa fun ia ja=>
 aF .i64 ia fun ka=>
 (kept a 1 fa ja∧
 ((ax Pr fU [.agg ⟨[.pointer da]⟩] ja fun la ma=>
 aF .i64 la fun na=>
 nw bW (zc Pr bW) ma fun oa pa=>
 (kept a 1 ma pa∧
 (kept a 1 ma pa∧
 (kept a 1 ma pa∧
 kR oa ga ka na ⟨none,0,0⟩ pa fun qa=>
 aa oa qa))))∧
 (nw bW (zc Pr bW) ja fun sa ta=>
 (kept a 1 ja ta∧
 (kept a 1 ja ta∧
 (kept a 1 ja ta∧
 ax Pr fU [.agg ⟨[.pointer da]⟩] ta fun ua va=>
 aF .i64 ua fun xa=>
 kR sa ga ka xa ⟨none,0,0⟩ va fun ya=>
 aa sa ya)))))))∧
 (nw bW (zc Pr bW) fa fun za Aa=>
 (kept a 1 fa Aa∧
 (kept a 1 fa Aa∧
 (kept a 1 fa Aa∧
 ax Pr fU [.agg ⟨[.pointer ca]⟩] Aa fun Ba Ca=>
 aF .i64 Ba fun Da=>
 (kept a 1 Aa Ca∧
 ax Pr fU [.agg ⟨[.pointer da]⟩] Ca fun Ea Fa=>
 aF .i64 Ea fun Ga=>
 kR za ga Da Ga ⟨none,0,0⟩ Fa fun Ia=>
 aa za Ia)))))))))∧
 (nw bW (zc Pr bW) (World.drew d) fun Ja La=>
 (kept a 1 (World.drew d) La∧
 (kept a 1 (World.drew d) La∧
 (kept a 1 (World.drew d) La∧
 ax Pr fU [.agg ⟨[.pointer ba]⟩] La fun Ma Na=>
 aF .i64 Ma fun Oa=>
 (kept a 1 La Na∧
 (kept a 1 La Na∧
 ax Pr fU [.agg ⟨[.pointer ca]⟩] Na fun Qa Sa=>
 aF .i64 Qa fun Ta=>
 (kept a 1 Na Sa∧
 ax Pr fU [.agg ⟨[.pointer da]⟩] Sa fun Ua Va=>
 aF .i64 Ua fun Xa=>
 kR Ja Oa Ta Xa ⟨none,0,0⟩ Va fun Ya=>
 aa Ja Ya)))))))))
theorem aex {uO:Option Addr} {w:World} {R:Value→World→Prop} (h:M1 uO w R):Ok Pr Eo [.agg ⟨[.pointer uO]⟩] w R:=
 aP (m:=⟨true,true⟩) (J:=[(2,[(3,.DE)])]) (L:=[(3,[(14,.int .i64)])]) aN Tryz.func139 (by kernel_rfl) ((by kernel_rfl:aO Pr _ _ _ Tryz.f139 _ w R=M1 uO w R).mpr h)
end Go.Proofs.YtpchgbolambkcaaGreatDoor
end
section
set_option linter.unusedVariables false
set_option linter.unusedSimpArgs false
namespace Go.Proofs.YtpchgbolambkcaaGreatDoor
open Go Go.Ev
set_option maxRecDepth 20000
set_option linter.unusedVariables false
def mX (x:bZ):List B8:=cG [x.id,x.par] ++ laid (eF x.name)
def ny (p:cv):List B8:=cG [p.id,p.ten] ++ laid p.key ++ cG [p.high,IntKind.wrap .i64 (p.used.toNat:Int)]
def oC (v:cJ):List B8:=cG [v.n,v.st,v.due] ++ laid v.bV
def rO (k:ct):List B8:=cG [k.id,k.ten,k.set,(k.bu.length:Int)]
def oD (k:ct):List B8:=rO k ++ (k.bu.map oC).flatten
def q9 (b:Bool):Int:=if b then 1 else 0
def oX (g:dY):List B8:=cG [g.n0,g.n1,g.n2,g.n3,g.n4,q9 g.rev]
def vO (t:aJ):List B8:=cG [t.clock] ++ laid t.fy ++ cG [(t.bq.length:Int)]
def oT (t:aJ):List B8:=vO t ++ (t.bq.map mX).flatten ++ cG [(t.aE.length:Int)]
def mY (t:aJ):List B8:=oT t ++ (t.aE.map ny).flatten ++ cG [(t.keys.length:Int)]
def zq (t:aJ):List B8:=mY t ++ (t.keys.map oD).flatten ++ cG [(t.cM.length:Int)]
def fC (t:aJ):List B8:=zq t ++ (t.cM.map oX).flatten
structure lP (t:aJ):Prop where
 sec:t.fy.length=32
 ten:t.bq.length≤8
 UX:∀ x∈t.bq,x.name.size≤300
 aE:t.aE.length≤6
 pk:∀ p∈t.aE,p.key.length=1312
 key:t.keys.length≤6
 lS:∀ k∈t.keys,k.bu.length≤5
 bV:∀ k∈t.keys,∀ v∈k.bu,v.bV.length≤64
 gr:t.cM.length≤8
theorem X7 {A:Type} {l:List A} {x:A} (h:x∈l) (d:A):∃ i,i<l.length∧l.getD i d=x:=by
 obtain ⟨i,hi,e⟩:=List.getElem_of_mem h
 exact ⟨i,hi,by rw [List.getD_eq_getElem?_getD,List.getElem?_eq_getElem hi,e]; rfl⟩
theorem ajU {v:cJ} {n:Int} (h:lO v n=true):v.bV.length≤64:=by
 unfold lO at h
 rw [Bool.and_eq_true] at h
 have h:=h.2
 split at h
 ·simp only [Bool.and_eq_true,decide_eq_true_eq] at h; omega
 ·split at h
  ·simp only [Bool.and_eq_true,decide_eq_true_eq] at h; omega
  ·split at h
   ·simp only [Bool.and_eq_true,decide_eq_true_eq] at h; omega
   ·cases h
theorem oS.DC {t:aJ} (h:oS t):lP t:=by
 have w1:∀ {a b c:Int},aW a b c=true↔a≤c∧c≤b:=fun {a b c}=>by unfold aW; simp only [Bool.and_eq_true,decide_eq_true_eq]
 have hT:=h.ten
 unfold iw at hT
 rw [Bool.and_eq_true,decide_eq_true_eq] at hT
 have hG:=h.gr
 unfold sE at hG
 rw [Bool.and_eq_true,decide_eq_true_eq] at hG
 have hK:∀ k∈t.keys,lX k=true:=fun k hk=>by
  obtain ⟨i,hi,e⟩:=List.getElem_of_mem hk
  exact (h.key i k (by rw [List.getElem?_eq_getElem hi,e])).2.2
 refine ⟨h.sec,hT.1,fun x hx=>?_,h.TV.2,fun p hp=>?_,h.ace,fun k hk=>?_,fun k hk v hv=>?_,hG.2⟩
 ·obtain ⟨i,hi,e⟩:=X7 hx tz
  have:=SS _ hT.2 i hi
  unfold sF at this
  simp only [Bool.and_eq_true] at this
  have h3:=this.2.2.2.1
  rw [e] at h3
  have:=w1.1 h3
  omega
 ·obtain ⟨i,hi,e⟩:=List.getElem_of_mem hp
  have:=(h.aE i p (by rw [List.getElem?_eq_getElem hi,e])).2.2.1
  rw [this]; rfl
 ·have:=hK k hk
  unfold lX at this
  simp only [Bool.and_eq_true] at this
  have:=w1.1 this.2.2.2.1
  omega
 ·have:=hK k hk
  unfold lX at this
  simp only [Bool.and_eq_true] at this
  obtain ⟨i,hi,e⟩:=X7 hv vz
  have:=SQ _ this.2.2.2.2 i hi
  rw [e] at this
  exact ajU this
theorem aan {A:Type} (f:A→List B8) (c:Nat):∀ (l:List A),(∀ x∈l,(f x).length≤c)→(l.map f).flatten.length≤l.length * c
 | [],_=>by simp
 | a :: l,h=>by
  have h1:=h a (by simp)
  have h2:=aan f c l fun x hx=>h x (by simp [hx])
  rw [List.map_cons,List.flatten_cons,List.length_append,List.length_cons,Nat.succ_mul]
  omega
theorem EG {A:Type} (f:A→List B8) (c n:Nat) {l:List A} (h:∀ x∈l,(f x).length≤c) (hn:l.length≤n) (i:Nat):((l.take i).map f).flatten.length≤n * c:=by
 have h1:=aan f c (l.take i) fun x hx=>h x (List.mem_of_mem_take hx)
 have h2:(l.take i).length≤n:=by rw [List.length_take]; omega
 exact Nat.le_trans h1 (Nat.mul_le_mul_right c h2)
theorem Fm {A:Type} (f:A→List B8) (l:List A) (i:Nat) (hi:i<l.length) (d:A):((l.take (i+1)).map f).flatten=((l.take i).map f).flatten ++ f (l.getD i d):=by
 rw [qN _ _ hi d,List.map_append,List.flatten_append]
 simp
theorem wI (l:List B8):(laid l).length=8+l.length:=by unfold laid; rw [List.length_append,pE]
theorem aiN (x:bZ):(mX x).length=24+x.name.size:=by
 unfold mX; rw [List.length_append,kS,wI,qp]; simp only [List.length_cons,List.length_nil]; omega
theorem ajj (p:cv):(ny p).length=40+p.key.length:=by
 unfold ny; rw [List.length_append,List.length_append,kS,kS,wI]; simp only [List.length_cons,List.length_nil]; omega
theorem ajk (v:cJ):(oC v).length=32+v.bV.length:=by
 unfold oC; rw [List.length_append,kS,wI]; simp only [List.length_cons,List.length_nil]; omega
theorem YE (k:ct):(rO k).length=32:=by unfold rO; rw [kS]; rfl
theorem ajl (g:dY):(oX g).length=48:=by unfold oX; rw [kS]; rfl
theorem Aq (n:Int):(cG [n]).length=8:=by rw [kS]; rfl
theorem QO {t:aJ} (h:lP t):(vO t).length=56:=by
 unfold vO; rw [List.length_append,List.length_append,Aq,Aq,wI,h.sec]
theorem lP.bq {t:aJ} (h:lP t) (i:Nat):((t.bq.take i).map mX).flatten.length≤2592:=
 EG mX 324 8 (fun x hx=>by rw [aiN]; have:=h.UX x hx; omega) h.ten i
theorem lP.TW {t:aJ} (h:lP t) (i:Nat):((t.aE.take i).map ny).flatten.length≤8112:=
 EG ny 1352 6 (fun x hx=>by rw [ajj]; have:=h.pk x hx; omega) h.aE i
theorem lP.acf {t:aJ} (h:lP t) {k:ct} (hk:k∈t.keys) (i:Nat):((k.bu.take i).map oC).flatten.length≤480:=
 EG oC 96 5 (fun x hx=>by rw [ajk]; have:=h.bV k hk x hx; omega) (h.lS k hk) i
theorem lP.TX {t:aJ} (h:lP t) (i:Nat):((t.keys.take i).map oD).flatten.length≤3072:=
 EG oD 512 6 (fun x hx=>by
  unfold oD
  rw [List.length_append,YE]
  have:=h.acf hx x.bu.length
  rw [List.take_of_length_le (Nat.le_refl _)] at this
  omega) h.key i
theorem lP.grs {t:aJ} (h:lP t) (i:Nat):((t.cM.take i).map oX).flatten.length≤384:=
 EG oX 48 8 (fun x hx=>by rw [ajl]; omega) h.gr i
theorem lP.l1 {t:aJ} (h:lP t):(oT t).length≤2656:=by
 have:=h.bq t.bq.length
 rw [List.take_of_length_le (Nat.le_refl _)] at this
 unfold oT; rw [List.length_append,List.length_append,QO h,Aq]; omega
theorem lP.l2 {t:aJ} (h:lP t):(mY t).length≤10776:=by
 have:=h.TW t.aE.length
 rw [List.take_of_length_le (Nat.le_refl _)] at this
 have:=h.l1
 unfold mY; rw [List.length_append,List.length_append,Aq]; omega
theorem lP.l3 {t:aJ} (h:lP t):(zq t).length≤13856:=by
 have:=h.TX t.keys.length
 rw [List.take_of_length_le (Nat.le_refl _)] at this
 have:=h.l2
 unfold zq; rw [List.length_append,List.length_append,Aq]; omega
theorem lP.len {t:aJ} (h:lP t):(fC t).length≤14240:=by
 have:=h.grs t.cM.length
 rw [List.take_of_length_le (Nat.le_refl _)] at this
 have:=h.l3
 unfold fC; rw [List.length_append]; omega
section
variable {w0 w:World} {L:List aB} {p:Nat} {cs:List Value} {t:TypeId}
theorem dm (H:aq w0 [] w L) (k0:Nat) (h0:L[k0]? = some (.av p cs t)) {fS:List Value} {t':TypeId} {K:Addr→World→Prop}
  (h:∀ b w',aq w0 [] w' (L ++ [.av b fS t'])→(∀ j n,kept (Addr.add ⟨p,0,none⟩ j) n w w')→K ⟨b,0,none⟩ w'):nw t' fS w K:=
 oL fun b w' hb h1 h2 _=>h b w' (H.push h2 h1 (by simp [aB.av,hb])) fun j n=>H.kept h2 k0 h0 (an p j) n
theorem UY (H:aq w0 [] w L) (k0:Nat) (h0:L[k0]? = some (.av p cs t)) {v:Value} {w':World} {o:List B8} (g:qA w w' v o) {K:ah→World→Prop}
  (h:∀ y w',aq w0 [] w' (L ++ [.row aM 1 y (aL o)])→(∀ j n,kept (Addr.add ⟨p,0,none⟩ j) n w w')→K y w'):aK v fun y=>K y w':=by
 obtain ⟨y,rfl,hy,m⟩:=g
 exact dP (h y w' (H.gG m hy) fun j n=>H.kept m k0 h0 (an p j) n)
theorem dA (H:aq w0 [] w L) (k0:Nat) (h0:L[k0]? = some (.av p cs t)) {x:ah} {l:List B8} (i:Nat) (hi:L[i]? = some (.row aM 1 x (aL l))) {b:Nat} {ns:List Int} {t':TypeId} (j:Nat) (hj:L[j]? = some (.av b (dw ns) t')) {n:Nat} (hn:ns.length=n) (hl:l.length≤100000∧ns.length≤100) {K:ah→World→Prop}
  (h:∀ y w',aq w0 [] w' (L ++ [.row aM 1 y (aL (l ++ cG ns))])→(∀ j n,kept (Addr.add ⟨p,0,none⟩ j) n w w')→K y w'):ax Pr cW [.slice x.a x.n x.c,.slice (some ⟨b,0,none⟩) n n] w fun v w'=>aK v fun y=>K y w':=by
 subst hn
 refine aC (IM x l ⟨some ⟨b,0,none⟩,ns.length,ns.length⟩ ns (by omega) (by omega) w (H.bytes i hi) (H.yG j hj)) ?_
 intro v w' g
 exact UY H k0 h0 g h
theorem hJ (H:aq w0 [] w L) (k0:Nat) (h0:L[k0]? = some (.av p cs t)) {x:ah} {l:List B8} (i:Nat) (hi:L[i]? = some (.row aM 1 x (aL l))) {y:ah} {key:List B8} (hy:Bytes w0 y key) {b:Nat} {t':TypeId} (j:Nat) (hj:L[j]? = some (.av b [.slice y.a y.n y.c] t')) (hl:l.length≤100000∧key.length≤10000) {K:ah→World→Prop}
  (h:∀ y w',aq w0 [] w' (L ++ [.row aM 1 y (aL (l ++ laid key))])→(∀ j n,kept (Addr.add ⟨p,0,none⟩ j) n w w')→K y w'):ax Pr fV [.slice x.a x.n x.c,.slice (some ⟨b,0,none⟩) 1 1] w fun v w'=>aK v fun y=>K y w':=by
 refine aC (IX x l ⟨some ⟨b,0,none⟩,1,1⟩ [key] hl.1 (by simp) (fun q hq=>by rw [List.mem_singleton.1 hq]; exact hl.2) w (H.bytes i hi) (lz.Uw (H.av j hj) (by simp) (hy.aI H.mod) (sq _))) ?_
 intro v w' g
 have e:iq [key]=laid key:=by simp [iq]
 rw [e] at g
 exact UY H k0 h0 g h
theorem stT (H:aq w0 [] w L) (k0:Nat) (h0:L[k0]? = some (.av p cs t)) {x:ah} {l:List B8} (i:Nat) (hi:L[i]? = some (.row aM 1 x (aL l))) {s:ByteArray} (hl:l.length≤100000∧s.size≤10000) {K:ah→World→Prop}
  (h:∀ y w',aq w0 [] w' (L ++ [.row aM 1 y (aL (l ++ laid (eF s)))])→(∀ j n,kept (Addr.add ⟨p,0,none⟩ j) n w w')→K y w'):ax Pr Cq [.slice x.a x.n x.c,.string s] w fun v w'=>aK v fun y=>K y w':=by
 refine aC (PD x l s hl.1 hl.2 w (H.bytes i hi)) ?_
 intro v w' g
 exact UY H k0 h0 g h
end
end Go.Proofs.YtpchgbolambkcaaGreatDoor
end
section
set_option linter.unusedVariables false
set_option linter.unusedSimpArgs false
namespace Go.Proofs.YtpchgbolambkcaaGreatDoor
open Go Go.Ev
set_option maxRecDepth 20000
set_option linter.unusedVariables false
theorem _root_.Go.Ev.Own.Dq {w:World} {a b:Nat} {e:TypeId} {sz:Nat} {s:ah} {vs:List Value} (h:Own w a e sz s vs) (hb:b≤a):Own w b e sz s vs:=
 ⟨h.1,h.2.imp id fun ⟨g,cap,cur,h1,h2,h3⟩=>⟨g,cap,cur,h1,Nat.le_trans hb h2,h3⟩⟩
theorem Wy (b:Nat) (B:ah) (full:List B8) (x:ah) (bad:Bool) (s:Option (List B8)) (lo hi:Int) (w:World) (hb:bQ w b [x.v,.bool bad] gP) (hs:lu B full x bad s) (hB:Bytes w B full) :
  Ok Pr oG [.pointer (some ⟨b,0,none⟩),.int .i64 lo,.int .i64 hi] w fun v w'=>v=.int .i64 (cw lo hi s).1∧vN w w' b gP B full (cw lo hi s).2:=by
 refine ad8 ?_
 unfold Mz
 have H:=aq.tR (r:=.av b [x.v,.bool bad] gP) hb
 refine iB fun go bX=>gm fun iH fH=>?_
 have no:cw lo hi s=(0,none)→iH true w:=fun e=>by
  rw [e] at fH
  exact fH true w (ite_true rfl (H.st 0 rfl (an b 1) (by simp) rfl fun w' H=>⟨rfl,x,true,H.av 0 rfl,rfl,H.mod⟩))
 refine H.nq 0 rfl (an b 1) rfl ?_
 cases s with
 | none=>
  have hs:bad=true:=hs
  subst hs
  exact ite_true rfl (no rfl)
 | some l=>
  obtain ⟨rfl,ht⟩:=hs
  have hx:=ht.jQ w hB
  have cH:=hx.len
  refine ite_false rfl (H.ay 0 rfl (an b 0) rfl ?_)
  show iH (decide (((x.n:Nat):Int)<8)) w
  by_cases hc:l.length<8
  ·rw [decide_eq_true (show ((x.n:Nat):Int)<8 by omega)]
   exact no (by rw [Aw,if_pos hc])
  ·rw [decide_eq_false (show ¬ ((x.n:Nat):Int)<8 by omega)]
   have e2:cw lo hi (some l)=if numOf (l.take 8)<lo∨hi<numOf (l.take 8) then (0,none) else (numOf (l.take 8),some (l.drop 8)):=by rw [Aw,if_neg hc]
   rw [e2] at bX
   refine fH false w (ite_false rfl (bX w ?_))
   refine qq 0 8 (fun i (word:Int) w'=>word=((wd (l.take i)).toNat:Int)∧w'=w) rfl (by omega) ⟨rfl,rfl⟩ ?_ ?_
   ·rintro again i word _ _ hi ⟨rfl,rfl⟩ aR
    refine ite_true (decide_eq_true (by omega)) (H.ay 0 rfl (an b 0) rfl (hx.ld (by omega) ?_))
    show again _ _ _
    rw [aal _ _ (by omega),wrap_i64 (by omega) (by omega)]
    exact aR _ _ ⟨rfl,rfl⟩
   ·rintro again word _ ⟨rfl,rfl⟩
    refine ite_false (decide_eq_false (by omega)) (cN (fun h=>?_) (fun h=>?_))
    ·have h:numOf (l.take 8)<lo∨hi<numOf (l.take 8):=by simpa [numOf] using h
     rw [if_pos h]
     exact H.st 0 rfl (an b 1) (by simp) rfl fun w3 H=>⟨rfl,x,true,H.av 0 rfl,rfl,H.mod⟩
    ·have h:¬ (numOf (l.take 8)<lo∨hi<numOf (l.take 8)):=by
      simp only [Bool.or_eq_false_iff,decide_eq_false_iff_not] at h
      exact fun h2=>h2.elim h.1 h.2
     rw [if_neg h]
     refine H.ay 0 rfl (an b 0) rfl ⟨⟨by omega,by omega⟩,H.st 0 rfl (an b 0) (by simp) rfl fun w3 H=>⟨rfl,_,false,H.av 0 rfl,⟨rfl,ht.drop 8 (by omega)⟩,H.mod⟩⟩
theorem Wz (b:Nat) (B:ah) (full:List B8) (x:ah) (bad:Bool) (s:Option (List B8)) (most:Int) (hm:0≤most) (w:World) (hb:bQ w b [x.v,.bool bad] gP) (hs:lu B full x bad s) (hB:Bytes w B full) (ho:off [b] B) (hl:full.length≤1000000000) :
  Ok Pr zU [.pointer (some ⟨b,0,none⟩),.int .i64 most] w fun v w'=>∃ y:ah,v=.slice y.a y.n y.c∧Own w' w.heap.size aM 1 y (aL (cF most s).1)∧vN w w' b gP B full (cF most s).2:=by
 refine aea ?_
 unfold MC
 rw [show max most (0:Int)=most from Int.max_eq_left hm]
 refine aC (Wy b B full x bad s 0 most w hb hs hB) ?_
 rintro _ w1 ⟨rfl,x1,yZ,sU,lF,m1⟩
 have uL:=hB.mod m1 ho
 have DB:=ZI (lo:=0) (hi:=most) (by omega) s
 unfold cF
 generalize (cw 0 most s).1=n at *
 generalize (cw 0 most s).2=s1 at *
 obtain ⟨m,rfl⟩:∃ m:Nat,n=(m:Int):=⟨n.toNat,by omega⟩
 have H:=aq.tR (r:=.av b [x1.v,.bool yZ] gP) sU
 refine cr (iB fun go bX=>gm fun iH fH=>?_)
 have no:wV (m:Int) s1=([],none)→iH true w1:=fun e=>by
  rw [e] at fH
  exact fH true w1 (ite_true rfl (H.st 0 rfl (an b 1) (by simp) rfl fun w' H=>⟨⟨none,0,0⟩,rfl,Own.nil _ _ _ _,x1,true,H.av 0 rfl,rfl,m1.trans H.mod⟩))
 refine H.nq 0 rfl (an b 1) rfl ?_
 cases s1 with
 | none=>
  have lF:yZ=true:=lF
  subst lF
  exact ite_true rfl (no rfl)
 | some l=>
  obtain ⟨rfl,ht⟩:=lF
  have hx:=ht.jQ w1 uL
  have cH:=hx.len
  refine ite_false (by rw [decide_eq_false (show ¬ most<0 by omega)]; rfl) (H.ay 0 rfl (an b 0) rfl ?_)
  show iH (decide (((x1.n:Nat):Int)<(m:Int))) w1
  by_cases hc:(l.length:Int)<(m:Int)
  ·rw [decide_eq_true (show ((x1.n:Nat):Int)<(m:Int) by omega)]
   exact no (by rw [yz,if_pos hc])
  ·rw [decide_eq_false (show ¬ ((x1.n:Nat):Int)<(m:Int) by omega)]
   rw [yz,if_neg hc] at bX
   refine fH false w1 (ite_false rfl (bX w1 (H.ay 0 rfl (an b 0) rfl (hx.h m rfl (by omega) fun z hz qK hzw=>?_))))
   have hBn:B.n≤1000000000:=by rw [← hB.len]; exact hl
   have hxB:=ht.within.1
   refine H.CZ hO qK (by omega) fun y w2 H _=>?_
   refine H.ay 0 rfl (an b 0) rfl ⟨⟨by omega,by omega⟩,H.st 0 rfl (an b 0) (by simp) rfl fun w3 H=>?_⟩
   simp only [Int.toNat_natCast] at H ⊢
   have hy:=H.fresh 1 rfl (fun c hc uz=>H.apart 1 0 _ _ (by omega) rfl rfl c hc uz)
   exact ⟨y,rfl,hy.Dq m1.size,_,false,H.av 0 rfl,⟨rfl,ht.drop m (by omega)⟩,m1.trans H.mod⟩
theorem ae1 (b:Nat) (B:ah) (full:List B8) (x:ah) (bad:Bool) (s:Option (List B8)) (w:World) (hb:bQ w b [x.v,.bool bad] gP) (hs:lu B full x bad s) (hB:Bytes w B full) :
  Ok Pr MJ [.pointer (some ⟨b,0,none⟩)] w fun v w'=>v=.int .i64 (if fP s=true then 0 else 4)∧w'=w:=by
 refine aej ?_
 unfold MP
 have hc:∀ (i:Nat) (v:Value),([x.v,.bool bad]:List Value)[i]? = some v→w.cell? ⟨b,i,none⟩=some v:=fun i v hv=>by rw [hb.cell i]; exact hv
 refine ⟨bad,hc 1 _ rfl,?_⟩
 cases s with
 | none=>
  have hs:bad=true:=hs
  subst hs
  exact ite_true rfl ⟨rfl,rfl⟩
 | some l=>
  obtain ⟨rfl,ht⟩:=hs
  have cH:=(ht.jQ w hB).len
  refine ite_false rfl ⟨x,hc 0 _ rfl,?_⟩
  by_cases hl:l=[]
  ·subst hl
   have h0:x.n=0:=by simpa using cH.symm
   exact ite_false (decide_eq_false (by omega)) ⟨rfl,rfl⟩
  ·have h0:0<l.length:=List.length_pos_iff.2 hl
   refine ite_true (decide_eq_true (by omega)) ⟨?_,rfl⟩
   have:fP (some l)=false:=decide_eq_false hl
   rw [this]; rfl
end Go.Proofs.YtpchgbolambkcaaGreatDoor
end
section
set_option linter.unusedVariables false
set_option linter.unusedSimpArgs false
namespace Go.Proofs.YtpchgbolambkcaaGreatDoor
open Go Go.Ev
set_option maxRecDepth 20000
set_option linter.unusedVariables false
def UZ (a b c d:Int×Int) (l:List B8) (q:bL) (lb lt:List B8) (s:Option (List B8)):Prop:=
 ∃ s1 s2 s3 s4 s5 s6 s7 s8 s9 qM pX sa sb nm,cw a.1 a.2 (some l)=(q.n0,s1)∧cw b.1 b.2 s1=(q.n1,s2)∧cw c.1 c.2 s2=(q.n2,s3)∧cw d.1 d.2 s3=(q.n3,s4)∧cw d.1 d.2 s4=(q.n4,s5)∧cw d.1 d.2 s5=(q.n5,s6)∧
  cw d.1 d.2 s6=(q.n6,s7)∧cw d.1 d.2 s7=(q.n7,s8)∧cw d.1 d.2 s8=(q.n8,s9)∧cw d.1 d.2 s9=(q.n9,qM)∧cw d.1 d.2 qM=(q.l7,pX)∧cF 300 pX=(nm,sa)∧q.name=strOf nm∧cF 2000 sa=(lb,sb)∧cF 100 sb=(lt,s)
end Go.Proofs.YtpchgbolambkcaaGreatDoor
end
section
set_option linter.unusedVariables false
set_option linter.unusedSimpArgs false
namespace Go.Proofs.YtpchgbolambkcaaGreatDoor
open Go Go.Ev
set_option maxRecDepth 20000
set_option linter.unusedVariables false
theorem X8 (x:ah) (l:List B8) (hl:l.length≤1000000) (w:World) (hx:Bytes w x l):Ok Pr Jt [.slice x.a x.n x.c] w fun v w'=>
  ∃ (b:Nat) (B:ah),v=.pointer (some ⟨b,0,none⟩)∧Own w' w.heap.size aM 1 B (aL l)∧bQ w' b [B.v,.bool false] gh∧w.heap.size≤b∧b∉B.row∧Mod [] w w':=by
 refine ahH ?_
 unfold Rf
 refine aC (D9 x l (by omega) w hx) ?_
 rintro _ w1 ⟨y,rfl,hy,m⟩
 have H:=(aq.start w).gG m hy
 refine dP (H.nw fun p w2 H hp=>?_)
 refine ⟨p,y,rfl,H.mC 0 rfl,H.av 1 rfl,?_,fun hc=>H.apart 0 1 _ _ (by omega) rfl rfl p hc (by simp [aB.av]),H.mod⟩
 exact (H.own 1 _ rfl p (by simp [aB.av])).resolve_left (by simp)
section
variable {w0 w:World} {p b p1:Nat} {B:ah} {full:List B8} {s s':Option (List B8)} {E:List aB}
end
theorem anN:zc Pr rR=[.pointer none]:=by kernel_rfl
end Go.Proofs.YtpchgbolambkcaaGreatDoor
end
section
set_option linter.unusedVariables false
set_option linter.unusedSimpArgs false
namespace Go.Proofs.YtpchgbolambkcaaGreatDoor
open Go Go.Ev
set_option maxRecDepth 20000
set_option linter.unusedVariables false
theorem _root_.Go.Ev.aq.anO {w0 w:World} {S:List Nat} {L:List aB} (H:aq w0 S w L) {k:Nat} {r r':aB} (hk:L[k]? = some r) (hf:∀ b∈r'.fp,b∈r.fp) {j:Nat} {s:aB} (hj:(L.set k r')[j]? = some s):∀ b∈s.fp,b<w.heap.size:=by
 intro b hb
 rw [List.getElem?_set] at hj
 split at hj
 ·split at hj
  ·simp only [Option.some.injEq] at hj
   subst hj
   exact r.lt w (H.ok k r hk) b (hf b hb)
  ·cases hj
 ·exact s.lt w (H.ok j s hj) b hb
theorem _root_.Go.Ev.aq.aa2 {w0 w w':World} {S T:List Nat} {L:List aB} (H:aq w0 S w L) (k:Nat) {r r' s:aB} (hk:L[k]? = some r) (m:Mod T w w') (hT:∀ b∈T,b∈r.fp) (hr:r'.ok w') (hf:∀ b∈r'.fp,b∈r.fp) (hs:s.ok w') (GN:∀ b∈s.fp,w.heap.size≤b):aq w0 S w' (L.set k r' ++ [s]):=
 (H.nr k hk m (fun b hb=>.inl (hT b hb)) hr (fun b hb=>.inl (hf b hb))).add hs (fun b hb=>.inr (Nat.le_trans H.mod.size (GN b hb))) fun j t ht b hb kY=>by
  have:=H.anO hk hf ht b hb
  have:=GN b kY
  omega
theorem aeK (b:Nat) (B:ah) (full:List B8) (x:ah) (bad:Bool) (s:Option (List B8)) (most:Int) (hm:0≤most) (w:World) (hb:bQ w b [x.v,.bool bad] gP) (hs:lu B full x bad s) (hB:Bytes w B full) (ho:off [b] B) (hl:full.length≤1000000000) :
  Ok Pr Is [.pointer (some ⟨b,0,none⟩),.int .i64 most] w fun v w'=>v=.string (strOf (cF most s).1)∧vN w w' b gP B full (cF most s).2:=by
 refine aee ?_
 unfold MF
 refine aC (Wz b B full x bad s most hm w hb hs hB ho hl) ?_
 rintro _ w1 ⟨y,rfl,hy,hr⟩
 exact dP (aaP hy.bytes ⟨rfl,hr⟩)
section
variable {w w':World} {b:Nat} {B:ah} {full:List B8} {x:ah} {bad:Bool} {s s':Option (List B8)} {L:List aB}
theorem aa3 (hB:Bytes w B full) (ho:off [b] B) (H:aq w [b] w' (.av b [x.v,.bool bad] gP :: L)) (hs:lu B full x bad s) {lo hi n:Int} (e:cw lo hi s=(n,s')) {K:Int→World→Prop}
  (hK:∀ x' iF eU,aq w [b] eU (.av b [x'.v,.bool iF] gP :: L)→lu B full x' iF s'→K n eU) :
  ax Pr oG [.pointer (some ⟨b,0,none⟩),.int .i64 lo,.int .i64 hi] w' fun v w'=>aF .i64 v fun t=>K t w':=by
 refine aC (Wy b B full x bad s lo hi w' (H.av 0 rfl) hs (hB.mod H.mod ho)) ?_
 rintro _ eU ⟨rfl,x',iF,hb,nC,m⟩
 rw [e] at nC ⊢
 exact cr (hK x' iF eU (H.nr (r':=.av b [x'.v,.bool iF] gP) 0 rfl m (fun c hc=>.inl hc) hb (fun c hc=>.inl hc)) nC)
theorem al5 (hB:Bytes w B full) (ho:off [b] B) (hl:full.length≤1000000000) (H:aq w [b] w' (.av b [x.v,.bool bad] gP :: L)) (hs:lu B full x bad s) {most:Int} (hm:0≤most) {o:List B8} (e:cF most s=(o,s')) {K:ByteArray→World→Prop}
  (hK:∀ x' iF eU,aq w [b] eU (.av b [x'.v,.bool iF] gP :: L)→lu B full x' iF s'→K (strOf o) eU) :
  ax Pr Is [.pointer (some ⟨b,0,none⟩),.int .i64 most] w' fun v w'=>tU v fun t=>K t w':=by
 refine aC (aeK b B full x bad s most hm w' (H.av 0 rfl) hs (hB.mod H.mod ho) ho hl) ?_
 rintro _ eU ⟨rfl,x',iF,hb,nC,m⟩
 rw [e] at nC ⊢
 exact ⟨_,rfl,hK x' iF eU (H.nr (r':=.av b [x'.v,.bool iF] gP) 0 rfl m (fun c hc=>.inl hc) hb (fun c hc=>.inl hc)) nC⟩
theorem R3 (hB:Bytes w B full) (ho:off [b] B) (hl:full.length≤1000000000) (H:aq w [b] w' (.av b [x.v,.bool bad] gP :: L)) (hs:lu B full x bad s) {most:Int} (hm:0≤most) {o:List B8} (e:cF most s=(o,s')) {K:ah→World→Prop}
  (hK:∀ x' iF y eU,aq w [b] eU (.av b [x'.v,.bool iF] gP :: L ++ [.row aM 1 y (aL o)])→lu B full x' iF s'→K y eU) :
  ax Pr zU [.pointer (some ⟨b,0,none⟩),.int .i64 most] w' fun v w'=>aK v fun t=>K t w':=by
 refine aC (Wz b B full x bad s most hm w' (H.av 0 rfl) hs (hB.mod H.mod ho) ho hl) ?_
 rintro _ eU ⟨y,rfl,hy,x',iF,hb,nC,m⟩
 rw [e] at nC hy
 exact dP (hK x' iF y eU (H.aa2 (r':=.av b [x'.v,.bool iF] gP) (s:=.row aM 1 y (aL o)) 0 rfl m (fun c hc=>hc) hb (fun c hc=>hc) (hy.Dq (Nat.zero_le _)) (fun c hc=>(hy.tP c hc).1)) nC)
theorem vp {p a:Nat} {q q':bL} (k:Nat) (hB:Bytes w B full) (ho:off [b] B) (H:aq w [b] w' [.av b [x.v,.bool bad] gP,.av p iK.cells dx,.av a q.cells dx]) (hs:lu B full x bad s) {lo hi n:Int} (e:cw lo hi s=(n,s')) (hk:k<14) (hq:q.cells.set k (.int .i64 n)=q'.cells) {K:World→Prop}
  (hK:∀ x' iF eU,aq w [b] eU [.av b [x'.v,.bool iF] gP,.av p iK.cells dx,.av a q'.cells dx]→lu B full x' iF s'→K eU) :
  ax Pr oG [.pointer (some ⟨b,0,none⟩),.int .i64 lo,.int .i64 hi] w' fun v w'=>aF .i64 v fun t=>st (Addr.add ⟨a,0,none⟩ k) (.int .i64 t) w' K:=by
 refine aa3 hB ho H hs e fun x' iF eU H nC=>H.st 2 rfl (an a k) hk rfl fun w3 H=>hK x' iF w3 ?_ nC
 rw [hq] at H
 exact H
end
theorem aht (lo hi:Int) (b:Nat) (B:ah) (full:List B8) (w:World) (hb:bQ w b [B.v,.bool false] gP) (hB:Bytes w B full) (ho:off [b] B) (hl:full.length≤1000000000) :
  Ok Pr Pg [.pointer (some ⟨b,0,none⟩),.int .i64 lo,.int .i64 hi] w fun v w'=>∃ (q:bL) (lb lt:List B8) (s:Option (List B8)) (x:ah) (bad:Bool),v=.agg ⟨q.cells⟩∧UZ (lo,hi) (lo,hi) (lo,hi) (lo,hi) full q lb lt s∧
   aq w [b] w' [.av b [x.v,.bool bad] gP,.row aM 1 q.dG (aL lb),.row aM 1 q.tok (aL lt)]∧lu B full x bad s:=by
 refine agr ?_
 unfold Py
 rw [SO]
 obtain ⟨v0,s1,e1⟩:∃ v s',cw lo hi (some full)=(v,s'):=⟨_,_,rfl⟩
 obtain ⟨v1,s2,e2⟩:∃ v s',cw lo hi s1=(v,s'):=⟨_,_,rfl⟩
 obtain ⟨v2,s3,e3⟩:∃ v s',cw lo hi s2=(v,s'):=⟨_,_,rfl⟩
 obtain ⟨v3,s4,e4⟩:∃ v s',cw lo hi s3=(v,s'):=⟨_,_,rfl⟩
 obtain ⟨v4,s5,e5⟩:∃ v s',cw lo hi s4=(v,s'):=⟨_,_,rfl⟩
 obtain ⟨v5,s6,e6⟩:∃ v s',cw lo hi s5=(v,s'):=⟨_,_,rfl⟩
 obtain ⟨v6,s7,e7⟩:∃ v s',cw lo hi s6=(v,s'):=⟨_,_,rfl⟩
 obtain ⟨v7,s8,e8⟩:∃ v s',cw lo hi s7=(v,s'):=⟨_,_,rfl⟩
 obtain ⟨v8,s9,e9⟩:∃ v s',cw lo hi s8=(v,s'):=⟨_,_,rfl⟩
 obtain ⟨v9,qM,uP⟩:∃ v s',cw lo hi s9=(v,s'):=⟨_,_,rfl⟩
 obtain ⟨v10,pX,uQ⟩:∃ v s',cw lo hi qM=(v,s'):=⟨_,_,rfl⟩
 obtain ⟨nm,sa,ea⟩:∃ v s',cF 300 pX=(v,s'):=⟨_,_,rfl⟩
 obtain ⟨lb,sb,eb⟩:∃ v s',cF 2000 sa=(v,s'):=⟨_,_,rfl⟩
 obtain ⟨lt,sc,ec⟩:∃ v s',cF 100 sb=(v,s'):=⟨_,_,rfl⟩
 have H:=aq.tR (r:=.av b [B.v,.bool false] gP) hb
 refine H.nw fun p w1 H _=>?_
 refine aa3 hB ho H (s:=some full) ⟨rfl,jh.self B full⟩ e1 fun _ _ w2 H hs=>H.nw fun a w3 H _=>H.rX 2 rfl rfl fun w4 H=>?_
 refine vp (q:=⟨v0,0,0,0,0,0,0,0,0,0,0,eO,⟨none,0,0⟩,⟨none,0,0⟩⟩) (q':=⟨v0,v1,0,0,0,0,0,0,0,0,0,eO,⟨none,0,0⟩,⟨none,0,0⟩⟩) 1 hB ho H hs e2 (by omega) rfl fun _ _ _ H hs=>?_
 refine vp (q:=⟨v0,v1,0,0,0,0,0,0,0,0,0,eO,⟨none,0,0⟩,⟨none,0,0⟩⟩) (q':=⟨v0,v1,v2,0,0,0,0,0,0,0,0,eO,⟨none,0,0⟩,⟨none,0,0⟩⟩) 2 hB ho H hs e3 (by omega) rfl fun _ _ _ H hs=>?_
 refine vp (q:=⟨v0,v1,v2,0,0,0,0,0,0,0,0,eO,⟨none,0,0⟩,⟨none,0,0⟩⟩) (q':=⟨v0,v1,v2,v3,0,0,0,0,0,0,0,eO,⟨none,0,0⟩,⟨none,0,0⟩⟩) 3 hB ho H hs e4 (by omega) rfl fun _ _ _ H hs=>?_
 refine vp (q:=⟨v0,v1,v2,v3,0,0,0,0,0,0,0,eO,⟨none,0,0⟩,⟨none,0,0⟩⟩) (q':=⟨v0,v1,v2,v3,v4,0,0,0,0,0,0,eO,⟨none,0,0⟩,⟨none,0,0⟩⟩) 4 hB ho H hs e5 (by omega) rfl fun _ _ _ H hs=>?_
 refine vp (q:=⟨v0,v1,v2,v3,v4,0,0,0,0,0,0,eO,⟨none,0,0⟩,⟨none,0,0⟩⟩) (q':=⟨v0,v1,v2,v3,v4,v5,0,0,0,0,0,eO,⟨none,0,0⟩,⟨none,0,0⟩⟩) 5 hB ho H hs e6 (by omega) rfl fun _ _ _ H hs=>?_
 refine vp (q:=⟨v0,v1,v2,v3,v4,v5,0,0,0,0,0,eO,⟨none,0,0⟩,⟨none,0,0⟩⟩) (q':=⟨v0,v1,v2,v3,v4,v5,v6,0,0,0,0,eO,⟨none,0,0⟩,⟨none,0,0⟩⟩) 6 hB ho H hs e7 (by omega) rfl fun _ _ _ H hs=>?_
 refine vp (q:=⟨v0,v1,v2,v3,v4,v5,v6,0,0,0,0,eO,⟨none,0,0⟩,⟨none,0,0⟩⟩) (q':=⟨v0,v1,v2,v3,v4,v5,v6,v7,0,0,0,eO,⟨none,0,0⟩,⟨none,0,0⟩⟩) 7 hB ho H hs e8 (by omega) rfl fun _ _ _ H hs=>?_
 refine vp (q:=⟨v0,v1,v2,v3,v4,v5,v6,v7,0,0,0,eO,⟨none,0,0⟩,⟨none,0,0⟩⟩) (q':=⟨v0,v1,v2,v3,v4,v5,v6,v7,v8,0,0,eO,⟨none,0,0⟩,⟨none,0,0⟩⟩) 8 hB ho H hs e9 (by omega) rfl fun _ _ _ H hs=>?_
 refine vp (q:=⟨v0,v1,v2,v3,v4,v5,v6,v7,v8,0,0,eO,⟨none,0,0⟩,⟨none,0,0⟩⟩) (q':=⟨v0,v1,v2,v3,v4,v5,v6,v7,v8,v9,0,eO,⟨none,0,0⟩,⟨none,0,0⟩⟩) 9 hB ho H hs uP (by omega) rfl fun _ _ _ H hs=>?_
 refine vp (q:=⟨v0,v1,v2,v3,v4,v5,v6,v7,v8,v9,0,eO,⟨none,0,0⟩,⟨none,0,0⟩⟩) (q':=⟨v0,v1,v2,v3,v4,v5,v6,v7,v8,v9,v10,eO,⟨none,0,0⟩,⟨none,0,0⟩⟩) 10 hB ho H hs uQ (by omega) rfl fun _ _ _ H hs=>?_
 refine al5 hB ho hl H hs (by omega) ea fun x7 aoF _ H hs=>H.st 2 rfl (an a 11) (show 11<14 by omega) rfl fun w7 H=>?_
 have H:aq w [b] w7 [.av b [x7.v,.bool aoF] gP,.av p iK.cells dx,.av a (⟨v0,v1,v2,v3,v4,v5,v6,v7,v8,v9,v10,strOf nm,⟨none,0,0⟩,⟨none,0,0⟩⟩:bL).cells dx]:=H
 refine R3 hB ho hl H hs (by omega) eb fun x8 KW y2 _ H hs=>H.st 2 rfl (an a 12) (show 12<14 by omega) rfl fun w8 H=>?_
 have H:aq w [b] w8 [.av b [x8.v,.bool KW] gP,.av p iK.cells dx,.av a (⟨v0,v1,v2,v3,v4,v5,v6,v7,v8,v9,v10,strOf nm,y2,⟨none,0,0⟩⟩:bL).cells dx,.row aM 1 y2 (aL lb)]:=H
 refine R3 hB ho hl H hs (by omega) ec fun x9 TY y3 _ H hs=>H.st 2 rfl (an a 13) (show 13<14 by omega) rfl fun w9 H=>?_
 obtain ⟨q,hq⟩:∃ q:bL,q=⟨v0,v1,v2,v3,v4,v5,v6,v7,v8,v9,v10,strOf nm,y2,y3⟩:=⟨_,rfl⟩
 have H:aq w [b] w9 [.av b [x9.v,.bool TY] gP,.av p iK.cells dx,.av a q.cells dx,.row aM 1 q.dG (aL lb),.row aM 1 q.tok (aL lt)]:=by
  rw [hq]
  have H:aq w [b] w9 [.av b [x9.v,.bool TY] gP,.av p iK.cells dx,.av a (⟨v0,v1,v2,v3,v4,v5,v6,v7,v8,v9,v10,strOf nm,y2,y3⟩:bL).cells dx,.row aM 1 y2 (aL lb),.row aM 1 y3 (aL lt)]:=H
  exact H
 have qD:UZ (lo,hi) (lo,hi) (lo,hi) (lo,hi) full q lb lt sc:=by
  rw [hq]
  exact ⟨s1,s2,s3,s4,s5,s6,s7,s8,s9,qM,pX,sa,sb,nm,e1,e2,e3,e4,e5,e6,e7,e8,e9,uP,uQ,ea,rfl,eb,ec⟩
 refine H.dD 2 rfl (H.rX 1 rfl rfl fun dN H=>H.dD 1 rfl ⟨q,lb,lt,sc,x9,TY,rfl,qD,?_,hs⟩)
 exact ((H.two 0 3 rfl rfl (by omega)).add (H.ok 4 _ rfl) (H.own 4 _ rfl) fun j u hj c hc=>by
  match j with
  | 0=>simp at hj; subst hj; exact H.apart 0 4 _ _ (by omega) rfl rfl c hc
  | 1=>simp at hj; subst hj; exact H.apart 3 4 _ _ (by omega) rfl rfl c hc
  | j+2=>simp at hj)
end Go.Proofs.YtpchgbolambkcaaGreatDoor
end
section
set_option linter.unusedVariables false
set_option linter.unusedSimpArgs false
namespace Go.Proofs.YtpchgbolambkcaaGreatDoor
open Go Go.Ev
set_option maxRecDepth 20000
set_option linter.unusedVariables false
theorem _root_.Go.Ev.aq.pick {w0 w:World} {S:List Nat} {L L':List aB} (H:aq w0 S w L) (f:Nat→Nat) (h:∀ j r,L'[j]? = some r→L[f j]? = some r) (hi:∀ i,i<L'.length→∀ j,j<L'.length→f i=f j→i=j):aq w0 S w L':=
 ⟨H.mod,fun k r hk=>H.ok _ r (h k r hk),fun k r hk=>H.own _ r (h k r hk),fun j k r s j6 hj hk=>
  H.apart (f j) (f k) r s (fun e=>j6 (hi j (List.getElem?_eq_some_iff.1 hj).1 k (List.getElem?_eq_some_iff.1 hk).1 e)) (h j r hj) (h k s hk)⟩
theorem Tq {A:Type} {x:A} {K:A→Prop} (h:K x):lt x K:=h
def Out (a b c d:Int×Int) (l:List B8) (q:bL) (lb lt o1 o2:List B8) (e:Int):Prop:=
 ((l.length<2420∨6000<l.length)∧q=iK∧lb=[]∧lt=[]∧o1=[]∧o2=[]∧e=3)∨
 (¬ (l.length<2420∨6000<l.length)∧∃ q' U0 U1 s,UZ a b c d (l.take (l.length - 2420)) q' U0 U1 s∧q'.dG.n=U0.length∧q'.tok.n=U1.length∧
  (((fP s && iP q')=false∧q=iK∧lb=[]∧lt=[]∧o1=[]∧o2=[]∧e=4)∨
   ((fP s && iP q')=true∧q=q'∧lb=U0∧lt=U1∧o1=l.take (l.length - 2420)∧o2=l.drop (l.length - 2420)∧e=0)))
end Go.Proofs.YtpchgbolambkcaaGreatDoor
end
section
set_option linter.unusedVariables false
set_option linter.unusedSimpArgs false
namespace Go.Proofs.YtpchgbolambkcaaGreatDoor
open Go Go.Ev
set_option maxRecDepth 20000
set_option linter.unusedVariables false
set_option maxHeartbeats 2000000
theorem _root_.Go.Ev.aq.KL {w0 w:World} {L:List aB} (H:aq w0 [] w L) (a b c:Nat) {r s t:aB} (ha:L[a]? = some r) (hb:L[b]? = some s) (hc:L[c]? = some t) (hd:a≠b∧a≠c∧b≠c):aq w0 [] w [r,s,t]:=by
 obtain ⟨h1,h2,h3⟩:=hd
 refine H.pick (fun i=>if i=0 then a else if i=1 then b else c) (fun j x hx=>?_) fun i hi j hj=>?_
 ·match j with
  | 0=>simp only [List.getElem?_cons_zero,Option.some.injEq] at hx; subst hx; exact ha
  | 1=>simp only [List.getElem?_cons_succ,List.getElem?_cons_zero,Option.some.injEq] at hx; subst hx; exact hb
  | 2=>simp only [List.getElem?_cons_succ,List.getElem?_cons_zero,Option.some.injEq] at hx; subst hx; exact hc
  | n+3=>simp at hx
 ·have hi:i<3:=hi
  have hj:j<3:=hj
  rcases (by omega:i=0∨i=1∨i=2) with rfl | rfl | rfl <;> rcases (by omega:j=0∨j=1∨j=2) with rfl | rfl | rfl <;> simp <;> omega
theorem ahX (b:Bool) (w:World):Ok Pr Pj [.bool b] w fun v w'=>v=.int .i64 (q9 b)∧w'=w:=by
 refine agR ?_
 unfold PZ
 cases b with
 | true=>exact ite_true rfl ⟨rfl,rfl⟩
 | false=>exact ite_false rfl ⟨rfl,rfl⟩
theorem al6:zc Pr dJ=qR 0 0 0 0 0 false:=by kernel_rfl
def aoG (w w':World) (v:Value) (t:aJ):Prop:=∃ (y:ah) (er:Value),v=.tuple ⟨[.slice y.a y.n y.c,er]⟩∧aq w [] w' [.row aM 1 y (aL (if dh t then fC t else [])),aB.err er (if dh t then 0 else 2)]
theorem air (s:cL) (t:aJ) (hs:t.small) (w:World) (hx:bN w s t):Ok Pr P6 [.agg ⟨t.cs s⟩] w fun v w'=>aoG w w' v t:=by
 refine ahr ?_
 unfold QM
 rw [Ss,E9,CQ,alP,al6]
 have wg:=hx.ten.len
 have rJ:=hx.aE.len
 have zK:=hx.key.len
 have Hl:=hx.gr.len
 refine (aq.start w).nw fun p w1 H _=>?_
 have H:aq w [] w1 [.av p (t.cs s) aA]:=H
 refine H.aG 0 rfl (aC (PR s t hs _ (hx.aI H.mod)) ?_)
 rintro _ w2 ⟨rfl,m⟩
 have H:=H.frame m
 refine bh ?_
 by_cases hm:dh t=true
 case neg=>
  have hm:=Bool.eq_false_iff.2 hm
  refine ite_true (by rw [hm]; rfl) (aC (W5 2 (by omega) w2) ?_)
  rintro er w3 ⟨he,m3⟩
  refine ⟨⟨none,0,0⟩,er,rfl,?_⟩
  rw [if_neg (by rw [hm]; simp),if_neg (by rw [hm]; simp)]
  exact ((H.jC aM 1).only 1 rfl).jY m3 he
 have hF:=(mQ.1 hm).DC
 have f1:=hF.ten
 have f2:=hF.aE
 have f3:=hF.key
 have f4:=hF.gr
 refine ite_false (by rw [hm]; rfl) (gm fun go bX=>?_)
 have body:∀ (b:ah) (w3:World),aq w [] w3 [.av p (t.cs s) aA,.row aM 1 b (aL (vO t))]→go b w3:=by
  intro b w3 H
  refine bX b w3 (H.ay 0 rfl (an p 2) rfl ?_)
  refine qq 0 t.bq.length (fun i b w'=>aq w [] w' [.av p (t.cs s) aA,.row aM 1 b (aL (vO t ++ ((t.bq.take i).map mX).flatten))]) rfl (by omega) (by simpa using H) ?_ ?_
  ·intro again i b w4 _ hi H aR
   obtain ⟨cU,hc⟩:=(hx.ten.aI H.mod).at hi
   have a0:(vO t ++ ((t.bq.take i).map mX).flatten).length≤3000:=by have:=hF.bq i; rw [List.length_append,QO hF]; omega
   have hS:=Fm mX t.bq i hi tz
   have hq:(t.bq.getD i tz).name.size≤300:=hF.UX _ (by rw [List.getD_eq_getElem?_getD,List.getElem?_eq_getElem hi]; exact List.getElem_mem hi)
   generalize ((t.bq.take i).map mX).flatten=F at *
   generalize t.bq.getD i tz=q at *
   refine ite_true (decide_eq_true (by omega)) ⟨cU,BX hc (H.nw fun p1 w5 D _=>D.uX 2 rfl rfl fun w6 D=>?_)⟩
   have D:aq w [] w6.drew [.av p (t.cs s) aA,.row aM 1 b (aL (vO t ++ F)),.av p1 (lK q.id q.par q.name) cZ]:=D.drew
   refine D.au 2 rfl (an p1 0) rfl (D.au 2 rfl (an p1 1) rfl (D.dR 2 rfl (an p1 2) rfl ?_))
   refine dm D 2 rfl fun b1 _ H1 q1=>⟨q1 _ _,?_⟩
   refine dA H1 2 rfl 1 rfl (ns:=[q.id,q.par]) 3 rfl rfl ⟨by omega,Nat.le_of_ble_eq_true rfl⟩ fun y2 _ H2 q2=>⟨q2 _ _,?_⟩
   refine stT H2 2 rfl 4 rfl ⟨by rw [List.length_append,kS]; show _+8 * 2≤_; omega,by omega⟩ fun y3 w7 H3 q3=>?_
   rw [wrap_i64 (by omega) (by omega)]
   refine aR _ _ ?_
   have K:=H3.two 0 5 rfl rfl (by decide)
   rw [hS]
   simpa [mX,List.append_assoc] using K
  ·intro again b w4 H
   rw [List.take_of_length_le (Nat.le_refl _)] at H
   have uN:(vO t ++ (t.bq.map mX).flatten).length≤3000:=by have:=hF.bq t.bq.length; rw [List.take_of_length_le (Nat.le_refl _)] at this; rw [List.length_append,QO hF]; omega
   refine ite_false (decide_eq_false (by omega)) (H.ay 0 rfl (an p 3) rfl (dm H 0 rfl fun b1 _ H1 q1=>?_))
   refine dA H1 0 rfl 1 rfl (ns:=[((s.aE.n:Nat):Int)]) 2 rfl rfl ⟨by omega,Nat.le_of_ble_eq_true rfl⟩ fun b w5 H2 q2=>?_
   have H:=H2.two 0 3 rfl rfl (by decide)
   rw [← rJ,show vO t ++ (t.bq.map mX).flatten ++ cG [(t.aE.length:Int)]=oT t from rfl] at H
   refine H.ay 0 rfl (an p 3) rfl ?_
   refine qq 0 t.aE.length (fun i b w'=>aq w [] w' [.av p (t.cs s) aA,.row aM 1 b (aL (oT t ++ ((t.aE.take i).map ny).flatten))]) rfl (by omega) (by simpa using H) ?_ ?_
   ·intro again i b w4 _ hi H aR
    obtain ⟨cU,x,j8,hc⟩:=hx.aE.at hi
    have a00:(oT t ++ ((t.aE.take i).map ny).flatten).length≤11000:=by have:=hF.TW i; have:=hF.l1; rw [List.length_append]; omega
    have hS:=Fm ny t.aE i hi eJ
    have hq:(t.aE.getD i eJ).key.length=1312:=hF.pk _ (by rw [List.getD_eq_getElem?_getD,List.getElem?_eq_getElem hi]; exact List.getElem_mem hi)
    generalize ((t.aE.take i).map ny).flatten=F at *
    generalize t.aE.getD i eJ=q at *
    refine ite_true (decide_eq_true (by omega)) ⟨cU,Ep (fun j v h=>H.mod.yQ (hc j v h)) (H.nw fun p1 w5 D _=>D.p9 2 rfl rfl fun w6 D=>?_)⟩
    have H:aq w [] w6.drew [.av p (t.cs s) aA,.row aM 1 b (aL (oT t ++ F)),.av p1 (q.cs x) ey]:=D.drew
    refine H.au 2 rfl (an p1 0) rfl (H.au 2 rfl (an p1 1) rfl (H.ay 2 rfl (an p1 2) rfl (H.au 2 rfl (an p1 3) rfl (H.au 2 rfl (an p1 4) rfl ?_))))
    generalize hU:IntKind.wrap .i64 (q.used.toNat:Int)=U
    have fin:∀ (y:ah) (w':World),aq w [] w' [.av p (t.cs s) aA,.row aM 1 y (aL (oT t ++ F ++ cG [q.id,q.ten] ++ laid q.key ++ cG [q.high,U]))]→again y (IntKind.wrap .i64 ((i:Int)+1)) w':=by
     intro y w' K
     rw [wrap_i64 (by omega) (by omega)]
     refine aR _ _ ?_
     rw [hS]
     simpa [ny,hU,List.append_assoc] using K
    have a0:(oT t ++ F).length≤100000:=by omega
    have a11:(oT t ++ F ++ cG [q.id,q.ten]).length≤11016:=by rw [List.length_append,kS]; show _+8 * 2≤_; omega
    have a1:(oT t ++ F ++ cG [q.id,q.ten]).length≤100000:=by omega
    have a2:(oT t ++ F ++ cG [q.id,q.ten] ++ laid q.key).length≤100000:=by rw [List.length_append,wI]; omega
    generalize oT t ++ F=o at *
    skip
    refine And.intro ?_ ?_
    ·refine dm H 2 rfl fun b1 _ H1 kq=>?_
     refine ⟨kq _ _,kq _ _,kq _ _,?_⟩
     refine And.intro ?_ ?_
     ·refine dA H1 2 rfl 1 rfl (ns:=[q.id,q.ten]) 3 rfl rfl ⟨a0,Nat.le_of_ble_eq_true rfl⟩ fun y2 _ H2 kq=>?_
      refine ⟨kq _ _,kq _ _,kq _ _,?_⟩
      refine And.intro ?_ ?_
      ·refine dm H2 2 rfl fun b3 _ H3 kq=>?_
       refine ⟨kq _ _,kq _ _,kq _ _,kq _ _,?_⟩
       refine And.intro ?_ ?_
       ·refine hJ H3 2 rfl 4 rfl j8 5 rfl ⟨a1,by omega⟩ fun y4 _ H4 kq=>?_
        refine ⟨kq _ _,kq _ _,?_⟩
        refine dm H4 2 rfl fun b5 _ H5 kq=>?_
        refine ⟨kq _ _,kq _ _,kq _ _,?_⟩
        refine dA H5 2 rfl 6 rfl (ns:=[q.high,U]) 7 rfl rfl ⟨a2,Nat.le_of_ble_eq_true rfl⟩ fun y6 _ H6 kq=>?_
        exact fin _ _ (H6.two 0 8 rfl rfl (by decide))
       ·refine dm H3 2 rfl fun b7 _ H7 kq=>?_
        refine ⟨kq _ _,kq _ _,kq _ _,?_⟩
        refine hJ H7 2 rfl 4 rfl j8 5 rfl ⟨a1,by omega⟩ fun y8 _ H8 kq=>?_
        refine ⟨kq _ _,kq _ _,?_⟩
        refine dA H8 2 rfl 7 rfl (ns:=[q.high,U]) 6 rfl rfl ⟨a2,Nat.le_of_ble_eq_true rfl⟩ fun y9 _ H9 kq=>?_
        exact fin _ _ (H9.two 0 8 rfl rfl (by decide))
      ·refine dm H2 2 rfl fun b10 _ rF kq=>?_
       refine ⟨kq _ _,kq _ _,kq _ _,?_⟩
       refine dm rF 2 rfl fun b11 _ rG kq=>?_
       refine ⟨kq _ _,kq _ _,kq _ _,kq _ _,?_⟩
       refine hJ rG 2 rfl 4 rfl j8 6 rfl ⟨a1,by omega⟩ fun y12 _ uD kq=>?_
       refine ⟨kq _ _,kq _ _,?_⟩
       refine dA uD 2 rfl 7 rfl (ns:=[q.high,U]) 5 rfl rfl ⟨a2,Nat.le_of_ble_eq_true rfl⟩ fun y13 _ xH kq=>?_
       exact fin _ _ (xH.two 0 8 rfl rfl (by decide))
     ·refine And.intro ?_ ?_
      ·refine dm H1 2 rfl fun b14 _ zE kq=>?_
       refine ⟨kq _ _,kq _ _,kq _ _,kq _ _,?_⟩
       refine And.intro ?_ ?_
       ·refine dA zE 2 rfl 1 rfl (ns:=[q.id,q.ten]) 3 rfl rfl ⟨a0,Nat.le_of_ble_eq_true rfl⟩ fun y15 _ HB kq=>?_
        refine ⟨kq _ _,kq _ _,kq _ _,?_⟩
        refine And.intro ?_ ?_
        ·refine hJ HB 2 rfl 5 rfl j8 4 rfl ⟨a1,by omega⟩ fun y16 _ U2 kq=>?_
         refine ⟨kq _ _,kq _ _,?_⟩
         refine dm U2 2 rfl fun b17 _ U3 kq=>?_
         refine ⟨kq _ _,kq _ _,kq _ _,?_⟩
         refine dA U3 2 rfl 6 rfl (ns:=[q.high,U]) 7 rfl rfl ⟨a2,Nat.le_of_ble_eq_true rfl⟩ fun y18 _ U4 kq=>?_
         exact fin _ _ (U4.two 0 8 rfl rfl (by decide))
        ·refine dm HB 2 rfl fun b19 _ U5 kq=>?_
         refine ⟨kq _ _,kq _ _,kq _ _,?_⟩
         refine hJ U5 2 rfl 5 rfl j8 4 rfl ⟨a1,by omega⟩ fun y20 _ U6 kq=>?_
         refine ⟨kq _ _,kq _ _,?_⟩
         refine dA U6 2 rfl 7 rfl (ns:=[q.high,U]) 6 rfl rfl ⟨a2,Nat.le_of_ble_eq_true rfl⟩ fun y21 _ U7 kq=>?_
         exact fin _ _ (U7.two 0 8 rfl rfl (by decide))
       ·refine dm zE 2 rfl fun b22 _ U9 kq=>?_
        refine ⟨kq _ _,kq _ _,kq _ _,?_⟩
        refine dA U9 2 rfl 1 rfl (ns:=[q.id,q.ten]) 3 rfl rfl ⟨a0,Nat.le_of_ble_eq_true rfl⟩ fun y23 _ Vh kq=>?_
        refine ⟨kq _ _,kq _ _,kq _ _,?_⟩
        refine hJ Vh 2 rfl 6 rfl j8 4 rfl ⟨a1,by omega⟩ fun y24 _ Vm kq=>?_
        refine ⟨kq _ _,kq _ _,?_⟩
        refine dA Vm 2 rfl 7 rfl (ns:=[q.high,U]) 5 rfl rfl ⟨a2,Nat.le_of_ble_eq_true rfl⟩ fun y25 _ Vn kq=>?_
        exact fin _ _ (Vn.two 0 8 rfl rfl (by decide))
      ·refine dm H1 2 rfl fun b26 _ HC kq=>?_
       refine ⟨kq _ _,kq _ _,kq _ _,?_⟩
       refine And.intro ?_ ?_
       ·refine dA HC 2 rfl 1 rfl (ns:=[q.id,q.ten]) 3 rfl rfl ⟨a0,Nat.le_of_ble_eq_true rfl⟩ fun y27 _ Vo kq=>?_
        refine ⟨kq _ _,kq _ _,kq _ _,?_⟩
        refine dm Vo 2 rfl fun b28 _ Vp kq=>?_
        refine ⟨kq _ _,kq _ _,kq _ _,kq _ _,?_⟩
        refine hJ Vp 2 rfl 5 rfl j8 6 rfl ⟨a1,by omega⟩ fun y29 _ Vq kq=>?_
        refine ⟨kq _ _,kq _ _,?_⟩
        refine dA Vq 2 rfl 7 rfl (ns:=[q.high,U]) 4 rfl rfl ⟨a2,Nat.le_of_ble_eq_true rfl⟩ fun y30 _ Vr kq=>?_
        exact fin _ _ (Vr.two 0 8 rfl rfl (by decide))
       ·refine dm HC 2 rfl fun b31 _ Vs kq=>?_
        refine ⟨kq _ _,kq _ _,kq _ _,kq _ _,?_⟩
        refine dA Vs 2 rfl 1 rfl (ns:=[q.id,q.ten]) 3 rfl rfl ⟨a0,Nat.le_of_ble_eq_true rfl⟩ fun y32 _ Vt kq=>?_
        refine ⟨kq _ _,kq _ _,kq _ _,?_⟩
        refine hJ Vt 2 rfl 6 rfl j8 5 rfl ⟨a1,by omega⟩ fun y33 _ Vu kq=>?_
        refine ⟨kq _ _,kq _ _,?_⟩
        refine dA Vu 2 rfl 7 rfl (ns:=[q.high,U]) 4 rfl rfl ⟨a2,Nat.le_of_ble_eq_true rfl⟩ fun y34 _ Vv kq=>?_
        exact fin _ _ (Vv.two 0 8 rfl rfl (by decide))
    ·refine And.intro ?_ ?_
     ·refine dm H 2 rfl fun b35 _ HD kq=>?_
      refine ⟨kq _ _,kq _ _,kq _ _,kq _ _,?_⟩
      refine And.intro ?_ ?_
      ·refine dm HD 2 rfl fun b36 _ HE kq=>?_
       refine ⟨kq _ _,kq _ _,kq _ _,?_⟩
       refine And.intro ?_ ?_
       ·refine dA HE 2 rfl 1 rfl (ns:=[q.id,q.ten]) 4 rfl rfl ⟨a0,Nat.le_of_ble_eq_true rfl⟩ fun y37 _ HG kq=>?_
        refine ⟨kq _ _,kq _ _,kq _ _,?_⟩
        refine And.intro ?_ ?_
        ·refine hJ HG 2 rfl 5 rfl j8 3 rfl ⟨a1,by omega⟩ fun y38 _ Vw kq=>?_
         refine ⟨kq _ _,kq _ _,?_⟩
         refine dm Vw 2 rfl fun b39 _ Vx kq=>?_
         refine ⟨kq _ _,kq _ _,kq _ _,?_⟩
         refine dA Vx 2 rfl 6 rfl (ns:=[q.high,U]) 7 rfl rfl ⟨a2,Nat.le_of_ble_eq_true rfl⟩ fun y40 _ Vy kq=>?_
         exact fin _ _ (Vy.two 0 8 rfl rfl (by decide))
        ·refine dm HG 2 rfl fun b41 _ Vz kq=>?_
         refine ⟨kq _ _,kq _ _,kq _ _,?_⟩
         refine hJ Vz 2 rfl 5 rfl j8 3 rfl ⟨a1,by omega⟩ fun y42 _ VA kq=>?_
         refine ⟨kq _ _,kq _ _,?_⟩
         refine dA VA 2 rfl 7 rfl (ns:=[q.high,U]) 6 rfl rfl ⟨a2,Nat.le_of_ble_eq_true rfl⟩ fun y43 _ VB kq=>?_
         exact fin _ _ (VB.two 0 8 rfl rfl (by decide))
       ·refine dm HE 2 rfl fun b44 _ VC kq=>?_
        refine ⟨kq _ _,kq _ _,kq _ _,?_⟩
        refine dA VC 2 rfl 1 rfl (ns:=[q.id,q.ten]) 4 rfl rfl ⟨a0,Nat.le_of_ble_eq_true rfl⟩ fun y45 _ VD kq=>?_
        refine ⟨kq _ _,kq _ _,kq _ _,?_⟩
        refine hJ VD 2 rfl 6 rfl j8 3 rfl ⟨a1,by omega⟩ fun y46 _ VE kq=>?_
        refine ⟨kq _ _,kq _ _,?_⟩
        refine dA VE 2 rfl 7 rfl (ns:=[q.high,U]) 5 rfl rfl ⟨a2,Nat.le_of_ble_eq_true rfl⟩ fun y47 _ VF kq=>?_
        exact fin _ _ (VF.two 0 8 rfl rfl (by decide))
      ·refine dm HD 2 rfl fun b48 _ VG kq=>?_
       refine ⟨kq _ _,kq _ _,kq _ _,?_⟩
       refine dm VG 2 rfl fun b49 _ VH kq=>?_
       refine ⟨kq _ _,kq _ _,kq _ _,?_⟩
       refine dA VH 2 rfl 1 rfl (ns:=[q.id,q.ten]) 5 rfl rfl ⟨a0,Nat.le_of_ble_eq_true rfl⟩ fun y50 _ VI kq=>?_
       refine ⟨kq _ _,kq _ _,kq _ _,?_⟩
       refine hJ VI 2 rfl 6 rfl j8 3 rfl ⟨a1,by omega⟩ fun y51 _ VJ kq=>?_
       refine ⟨kq _ _,kq _ _,?_⟩
       refine dA VJ 2 rfl 7 rfl (ns:=[q.high,U]) 4 rfl rfl ⟨a2,Nat.le_of_ble_eq_true rfl⟩ fun y52 _ VK kq=>?_
       exact fin _ _ (VK.two 0 8 rfl rfl (by decide))
     ·refine dm H 2 rfl fun b53 _ HH kq=>?_
      refine ⟨kq _ _,kq _ _,kq _ _,?_⟩
      refine And.intro ?_ ?_
      ·refine dm HH 2 rfl fun b54 _ HI kq=>?_
       refine ⟨kq _ _,kq _ _,kq _ _,?_⟩
       refine And.intro ?_ ?_
       ·refine dA HI 2 rfl 1 rfl (ns:=[q.id,q.ten]) 4 rfl rfl ⟨a0,Nat.le_of_ble_eq_true rfl⟩ fun y55 _ VL kq=>?_
        refine ⟨kq _ _,kq _ _,kq _ _,?_⟩
        refine dm VL 2 rfl fun b56 _ VM kq=>?_
        refine ⟨kq _ _,kq _ _,kq _ _,kq _ _,?_⟩
        refine hJ VM 2 rfl 5 rfl j8 6 rfl ⟨a1,by omega⟩ fun y57 _ VN kq=>?_
        refine ⟨kq _ _,kq _ _,?_⟩
        refine dA VN 2 rfl 7 rfl (ns:=[q.high,U]) 3 rfl rfl ⟨a2,Nat.le_of_ble_eq_true rfl⟩ fun y58 _ VP kq=>?_
        exact fin _ _ (VP.two 0 8 rfl rfl (by decide))
       ·refine dm HI 2 rfl fun b59 _ VQ kq=>?_
        refine ⟨kq _ _,kq _ _,kq _ _,kq _ _,?_⟩
        refine dA VQ 2 rfl 1 rfl (ns:=[q.id,q.ten]) 4 rfl rfl ⟨a0,Nat.le_of_ble_eq_true rfl⟩ fun y60 _ VR kq=>?_
        refine ⟨kq _ _,kq _ _,kq _ _,?_⟩
        refine hJ VR 2 rfl 6 rfl j8 5 rfl ⟨a1,by omega⟩ fun y61 _ VS kq=>?_
        refine ⟨kq _ _,kq _ _,?_⟩
        refine dA VS 2 rfl 7 rfl (ns:=[q.high,U]) 3 rfl rfl ⟨a2,Nat.le_of_ble_eq_true rfl⟩ fun y62 _ VT kq=>?_
        exact fin _ _ (VT.two 0 8 rfl rfl (by decide))
      ·refine dm HH 2 rfl fun b63 _ VU kq=>?_
       refine ⟨kq _ _,kq _ _,kq _ _,kq _ _,?_⟩
       refine dm VU 2 rfl fun b64 _ VV kq=>?_
       refine ⟨kq _ _,kq _ _,kq _ _,?_⟩
       refine dA VV 2 rfl 1 rfl (ns:=[q.id,q.ten]) 5 rfl rfl ⟨a0,Nat.le_of_ble_eq_true rfl⟩ fun y65 _ VW kq=>?_
       refine ⟨kq _ _,kq _ _,kq _ _,?_⟩
       refine hJ VW 2 rfl 6 rfl j8 4 rfl ⟨a1,by omega⟩ fun y66 _ VX kq=>?_
       refine ⟨kq _ _,kq _ _,?_⟩
       refine dA VX 2 rfl 7 rfl (ns:=[q.high,U]) 3 rfl rfl ⟨a2,Nat.le_of_ble_eq_true rfl⟩ fun y67 _ VY kq=>?_
       exact fin _ _ (VY.two 0 8 rfl rfl (by decide))
   ·intro again b w4 H
    rw [List.take_of_length_le (Nat.le_refl _)] at H
    have uN:(oT t ++ (t.aE.map ny).flatten).length≤11000:=by have:=hF.TW t.aE.length; rw [List.take_of_length_le (Nat.le_refl _)] at this; have:=hF.l1; rw [List.length_append]; omega
    refine ite_false (decide_eq_false (by omega)) (H.ay 0 rfl (an p 4) rfl (dm H 0 rfl fun b1 _ H1 q1=>?_))
    refine dA H1 0 rfl 1 rfl (ns:=[((s.key.n:Nat):Int)]) 2 rfl rfl ⟨by omega,Nat.le_of_ble_eq_true rfl⟩ fun b w5 H2 q2=>?_
    have H:=H2.two 0 3 rfl rfl (by decide)
    rw [← zK,show oT t ++ (t.aE.map ny).flatten ++ cG [(t.keys.length:Int)]=mY t from rfl] at H
    refine H.ay 0 rfl (an p 4) rfl ?_
    refine qq 0 t.keys.length (fun i b w'=>aq w [] w' [.av p (t.cs s) aA,.row aM 1 b (aL (mY t ++ ((t.keys.take i).map oD).flatten))]) rfl (by omega) (by simpa using H) ?_ ?_
    ·intro again i b w4 _ hi H aR
     obtain ⟨cU,x,j8,hc⟩:=hx.key.at hi
     have a0:(mY t ++ ((t.keys.take i).map oD).flatten).length≤14000:=by have:=hF.TX i; have:=hF.l2; rw [List.length_append]; omega
     have hS:=Fm oD t.keys i hi kz
     have dM:t.keys.getD i kz∈t.keys:=by rw [List.getD_eq_getElem?_getD,List.getElem?_eq_getElem hi]; exact List.getElem_mem hi
     have hq:=hF.lS _ dM
     have hqv:=hF.acf dM
     have hqs:=hF.bV _ dM
     generalize ((t.keys.take i).map oD).flatten=F at *
     generalize t.keys.getD i kz=q at *
     have nY:=j8.len
     refine ite_true (decide_eq_true (by omega)) ⟨cU,wF (fun j v h=>H.mod.yQ (hc j v h)) (H.nw fun p1 w5 D _=>D.kR 2 rfl rfl fun w6 D=>?_)⟩
     have H:aq w [] w6 [.av p (t.cs s) aA,.row aM 1 b (aL (mY t ++ F)),.av p1 (q.cs x) bW]:=D
     refine H.au 2 rfl (an p1 0) rfl (H.au 2 rfl (an p1 1) rfl (H.au 2 rfl (an p1 2) rfl (H.ay 2 rfl (an p1 3) rfl (dm H 2 rfl fun b1 _ H1 q1=>?_))))
     refine dA H1 2 rfl 1 rfl (ns:=[q.id,q.ten,q.set,((x.n:Nat):Int)]) 3 rfl rfl ⟨by omega,Nat.le_of_ble_eq_true rfl⟩ fun b w7 H2 q2=>?_
     have H:=H2.KL 0 2 4 rfl rfl rfl (by decide)
     rw [← nY,show cG [q.id,q.ten,q.set,((q.bu.length:Nat):Int)]=rO q from rfl] at H
     have a1:(mY t ++ F ++ rO q).length≤14032:=by rw [List.length_append,YE]; omega
     refine H.ay 1 rfl (an p1 3) rfl ?_
     refine qq 0 q.bu.length (fun j b w'=>aq w [] w' [.av p (t.cs s) aA,.av p1 (q.cs x) bW,.row aM 1 b (aL (mY t ++ F ++ rO q ++ ((q.bu.take j).map oC).flatten))]) rfl (by omega) (by simpa using H) ?_ ?_
     ·intro AJ j b w8 _ hj H um
      have hva:q.bu[j]? = some (q.bu.getD j vz):=by rw [List.getD_eq_getElem?_getD,List.getElem?_eq_getElem hj]; rfl
      obtain ⟨cU,y,HJ,hcv⟩:=Dv.at cJ.eo (by omega) j8 hva
      have hSv:=Fm oC q.bu j hj vz
      have pQ:(q.bu.getD j vz).bV.length≤64:=hqs _ (by rw [List.getD_eq_getElem?_getD,List.getElem?_eq_getElem hj]; exact List.getElem_mem hj)
      have hqj:=hqv j
      generalize ((q.bu.take j).map oC).flatten=G at *
      generalize q.bu.getD j vz=v at *
      have HJ:Bytes w y v.bV:=HJ
      refine ite_true (decide_eq_true (by omega)) ⟨cU,BW (fun j' v' h=>H.mod.yQ (hcv j' v' h)) (H.nw fun p2 w9 D _=>D.rT 3 rfl rfl fun dN D=>?_)⟩
      have H:aq w [] dN.drew [.av p (t.cs s) aA,.av p1 (q.cs x) bW,.row aM 1 b (aL (mY t ++ F ++ rO q ++ G)),.av p2 (v.cs y) eW]:=D.drew
      refine H.au 3 rfl (an p2 0) rfl (H.au 3 rfl (an p2 1) rfl (H.au 3 rfl (an p2 2) rfl (H.ay 3 rfl (an p2 3) rfl ?_)))
      have fin:∀ (z:ah) (w':World),aq w [] w' [.av p (t.cs s) aA,.av p1 (q.cs x) bW,.row aM 1 z (aL (mY t ++ F ++ rO q ++ G ++ cG [v.n,v.st,v.due] ++ laid v.bV))]→AJ z (IntKind.wrap .i64 ((j:Int)+1)) w':=by
       intro z w' K
       rw [wrap_i64 (by omega) (by omega)]
       refine um _ _ ?_
       rw [hSv]
       simpa [oC,List.append_assoc] using K
      have a0:(mY t ++ F ++ rO q ++ G).length≤90000:=by rw [List.length_append]; omega
      have a1:(mY t ++ F ++ rO q ++ G ++ cG [v.n,v.st,v.due]).length≤100000:=by rw [List.length_append,kS]; show _+8 * 3≤_; omega
      have a0:(mY t ++ F ++ rO q ++ G).length≤100000:=by omega
      generalize mY t ++ F ++ rO q ++ G=o at *
      skip
      refine And.intro ?_ ?_
      ·refine dm H 3 rfl fun b1 _ H1 kq=>?_
       refine ⟨kq _ _,?_⟩
       refine And.intro ?_ ?_
       ·refine dA H1 3 rfl 2 rfl (ns:=[v.n,v.st,v.due]) 4 rfl rfl ⟨a0,Nat.le_of_ble_eq_true rfl⟩ fun y2 _ H2 kq=>?_
        refine ⟨kq _ _,?_⟩
        refine dm H2 3 rfl fun b3 _ H3 kq=>?_
        refine ⟨kq _ _,kq _ _,kq _ _,?_⟩
        refine hJ H3 3 rfl 5 rfl HJ 6 rfl ⟨a1,by omega⟩ fun y4 _ H4 kq=>?_
        exact fin _ _ (H4.KL 0 1 7 rfl rfl rfl (by decide))
       ·refine dm H1 3 rfl fun b5 _ H5 kq=>?_
        refine ⟨kq _ _,kq _ _,kq _ _,?_⟩
        refine dA H5 3 rfl 2 rfl (ns:=[v.n,v.st,v.due]) 4 rfl rfl ⟨a0,Nat.le_of_ble_eq_true rfl⟩ fun y6 _ H6 kq=>?_
        refine ⟨kq _ _,?_⟩
        refine hJ H6 3 rfl 6 rfl HJ 5 rfl ⟨a1,by omega⟩ fun y7 _ H7 kq=>?_
        exact fin _ _ (H7.KL 0 1 7 rfl rfl rfl (by decide))
      ·refine dm H 3 rfl fun b8 _ H8 kq=>?_
       refine ⟨kq _ _,kq _ _,kq _ _,?_⟩
       refine dm H8 3 rfl fun b9 _ H9 kq=>?_
       refine ⟨kq _ _,?_⟩
       refine dA H9 3 rfl 2 rfl (ns:=[v.n,v.st,v.due]) 5 rfl rfl ⟨a0,Nat.le_of_ble_eq_true rfl⟩ fun y10 _ rF kq=>?_
       refine ⟨kq _ _,?_⟩
       refine hJ rF 3 rfl 6 rfl HJ 4 rfl ⟨a1,by omega⟩ fun y11 _ rG kq=>?_
       exact fin _ _ (rG.KL 0 1 7 rfl rfl rfl (by decide))
     ·intro AJ b w8 H
      rw [List.take_of_length_le (Nat.le_refl _)] at H
      refine ite_false (decide_eq_false (by omega)) ?_
      rw [wrap_i64 (by omega) (by omega)]
      refine aR _ _ ?_
      have K:=H.two 0 2 rfl rfl (by decide)
      rw [hS]
      simpa [oD,List.append_assoc] using K
    ·intro again b w4 H
     rw [List.take_of_length_le (Nat.le_refl _)] at H
     have uN:(mY t ++ (t.keys.map oD).flatten).length≤14000:=by have:=hF.TX t.keys.length; rw [List.take_of_length_le (Nat.le_refl _)] at this; have:=hF.l2; rw [List.length_append]; omega
     refine ite_false (decide_eq_false (by omega)) (H.ay 0 rfl (an p 5) rfl (dm H 0 rfl fun b1 _ H1 q1=>?_))
     refine dA H1 0 rfl 1 rfl (ns:=[((s.gr.n:Nat):Int)]) 2 rfl rfl ⟨by omega,Nat.le_of_ble_eq_true rfl⟩ fun b w5 H2 q2=>?_
     have H:=H2.two 0 3 rfl rfl (by decide)
     have aoH:t.cM.length=s.gr.n:=Hl
     rw [← aoH,show mY t ++ (t.keys.map oD).flatten ++ cG [(t.cM.length:Int)]=zq t from rfl] at H
     refine H.ay 0 rfl (an p 5) rfl ?_
     refine qq 0 t.cM.length (fun i b w'=>aq w [] w' [.av p (t.cs s) aA,.row aM 1 b (aL (zq t ++ ((t.cM.take i).map oX).flatten))]) rfl (by omega) (by simpa using H) ?_ ?_
     ·intro again i b w4 _ hi H aR
      have a0:(zq t ++ ((t.cM.take i).map oX).flatten).length≤15000:=by have:=hF.grs i; have:=hF.l3; rw [List.length_append]; omega
      have hS:=Fm oX t.cM i hi gz
      refine ite_true (decide_eq_true (by omega)) (kO.ld (hx.gr.aI H.mod) hi rfl ?_)
      generalize ((t.cM.take i).map oX).flatten=F at *
      generalize t.cM.getD i gz=q at *
      refine H.nw fun p1 w5 D _=>D.tw 2 rfl rfl fun w6 D=>?_
      have H:aq w [] w6.drew [.av p (t.cs s) aA,.row aM 1 b (aL (zq t ++ F)),.av p1 (qR q.n0 q.n1 q.n2 q.n3 q.n4 q.rev) dJ]:=D.drew
      refine H.au 2 rfl (an p1 0) rfl (H.au 2 rfl (an p1 1) rfl (H.au 2 rfl (an p1 2) rfl (H.au 2 rfl (an p1 3) rfl (H.au 2 rfl (an p1 4) rfl (H.nq 2 rfl (an p1 5) rfl (aC (ahX _ _) ?_))))))
      rintro _ w7 ⟨rfl,rfl⟩
      have kk:∀ j n,kept (Addr.add ⟨p1,0,none⟩ j) n w6.drew w6.drew:=fun j n _ _=>rfl
      refine cr ⟨kk _ _,kk _ _,kk _ _,kk _ _,kk _ _,dm H 2 rfl fun b1 _ H1 q1=>?_⟩
      refine dA H1 2 rfl 1 rfl (ns:=[q.n0,q.n1,q.n2,q.n3,q.n4,q9 q.rev]) 3 rfl rfl ⟨by omega,Nat.le_of_ble_eq_true rfl⟩ fun y2 w8 H2 q2=>?_
      rw [wrap_i64 (by omega) (by omega)]
      refine aR _ _ ?_
      have K:=H2.two 0 4 rfl rfl (by decide)
      rw [hS]
      simpa [oX,List.append_assoc] using K
     ·intro again b w4 H
      rw [List.take_of_length_le (Nat.le_refl _)] at H
      have K:=H.only 1 rfl
      refine ite_false (decide_eq_false (by omega)) ⟨b,.nilIface,rfl,?_⟩
      rw [if_pos hm,if_pos hm]
      exact K.jY (Mod.refl _ _) (q8 _ _)
 have fin:∀ (y:ah) (w':World),aq w [] w' [.av p (t.cs s) aA,.row aM 1 y (aL ([] ++ cG [t.clock] ++ laid t.fy ++ cG [((s.ten.n:Nat):Int)]))]→go y w':=fun y w' K=>body y w' (by rw [← wg] at K; exact K)
 have a0:([]:List B8).length≤100000:=by simp
 have a1:([] ++ cG [t.clock]).length≤100000:=by rw [List.length_append,Aq]; simp
 have a2:([] ++ cG [t.clock] ++ laid t.fy).length≤100000:=by rw [List.length_append,List.length_append,Aq,wI,hF.sec]; simp
 have BA:=hF.sec
 have H:aq w [] w2.drew [.av p (t.cs s) aA,.row aM 1 ⟨none,0,0⟩ (aL [])]:=H.drew.jC aM 1
 refine H.au 0 rfl (an p 0) rfl (H.ay 0 rfl (an p 1) rfl (H.ay 0 rfl (an p 2) rfl ?_))
 have mZ:=hx.sec
 skip
 refine And.intro ?_ ?_
 ·refine dm H 0 rfl fun b1 _ H1 kq=>?_
  refine ⟨kq _ _,kq _ _,?_⟩
  refine And.intro ?_ ?_
  ·refine dA H1 0 rfl 1 rfl (ns:=[t.clock]) 2 rfl rfl ⟨a0,Nat.le_of_ble_eq_true rfl⟩ fun y2 _ H2 kq=>?_
   refine ⟨kq _ _,kq _ _,?_⟩
   refine And.intro ?_ ?_
   ·refine dm H2 0 rfl fun b3 _ H3 kq=>?_
    refine ⟨kq _ _,kq _ _,?_⟩
    refine And.intro ?_ ?_
    ·refine hJ H3 0 rfl 3 rfl mZ 4 rfl ⟨a1,by omega⟩ fun y4 _ H4 kq=>?_
     refine ⟨kq _ _,?_⟩
     refine dm H4 0 rfl fun b5 _ H5 kq=>?_
     refine ⟨kq _ _,kq _ _,?_⟩
     refine dA H5 0 rfl 5 rfl (ns:=[((s.ten.n:Nat):Int)]) 6 rfl rfl ⟨a2,Nat.le_of_ble_eq_true rfl⟩ fun y6 _ H6 kq=>?_
     exact fin _ _ (H6.two 0 7 rfl rfl (by decide))
    ·refine dm H3 0 rfl fun b7 _ H7 kq=>?_
     refine ⟨kq _ _,kq _ _,?_⟩
     refine hJ H7 0 rfl 3 rfl mZ 4 rfl ⟨a1,by omega⟩ fun y8 _ H8 kq=>?_
     refine ⟨kq _ _,?_⟩
     refine dA H8 0 rfl 6 rfl (ns:=[((s.ten.n:Nat):Int)]) 5 rfl rfl ⟨a2,Nat.le_of_ble_eq_true rfl⟩ fun y9 _ H9 kq=>?_
     exact fin _ _ (H9.two 0 7 rfl rfl (by decide))
   ·refine dm H2 0 rfl fun b10 _ rF kq=>?_
    refine ⟨kq _ _,kq _ _,?_⟩
    refine dm rF 0 rfl fun b11 _ rG kq=>?_
    refine ⟨kq _ _,kq _ _,?_⟩
    refine hJ rG 0 rfl 3 rfl mZ 5 rfl ⟨a1,by omega⟩ fun y12 _ uD kq=>?_
    refine ⟨kq _ _,?_⟩
    refine dA uD 0 rfl 6 rfl (ns:=[((s.ten.n:Nat):Int)]) 4 rfl rfl ⟨a2,Nat.le_of_ble_eq_true rfl⟩ fun y13 _ xH kq=>?_
    exact fin _ _ (xH.two 0 7 rfl rfl (by decide))
  ·refine And.intro ?_ ?_
   ·refine dm H1 0 rfl fun b14 _ zE kq=>?_
    refine ⟨kq _ _,kq _ _,?_⟩
    refine And.intro ?_ ?_
    ·refine dA zE 0 rfl 1 rfl (ns:=[t.clock]) 2 rfl rfl ⟨a0,Nat.le_of_ble_eq_true rfl⟩ fun y15 _ HB kq=>?_
     refine ⟨kq _ _,kq _ _,?_⟩
     refine And.intro ?_ ?_
     ·refine hJ HB 0 rfl 4 rfl mZ 3 rfl ⟨a1,by omega⟩ fun y16 _ U2 kq=>?_
      refine ⟨kq _ _,?_⟩
      refine dm U2 0 rfl fun b17 _ U3 kq=>?_
      refine ⟨kq _ _,kq _ _,?_⟩
      refine dA U3 0 rfl 5 rfl (ns:=[((s.ten.n:Nat):Int)]) 6 rfl rfl ⟨a2,Nat.le_of_ble_eq_true rfl⟩ fun y18 _ U4 kq=>?_
      exact fin _ _ (U4.two 0 7 rfl rfl (by decide))
     ·refine dm HB 0 rfl fun b19 _ U5 kq=>?_
      refine ⟨kq _ _,kq _ _,?_⟩
      refine hJ U5 0 rfl 4 rfl mZ 3 rfl ⟨a1,by omega⟩ fun y20 _ U6 kq=>?_
      refine ⟨kq _ _,?_⟩
      refine dA U6 0 rfl 6 rfl (ns:=[((s.ten.n:Nat):Int)]) 5 rfl rfl ⟨a2,Nat.le_of_ble_eq_true rfl⟩ fun y21 _ U7 kq=>?_
      exact fin _ _ (U7.two 0 7 rfl rfl (by decide))
    ·refine dm zE 0 rfl fun b22 _ U9 kq=>?_
     refine ⟨kq _ _,kq _ _,?_⟩
     refine dA U9 0 rfl 1 rfl (ns:=[t.clock]) 2 rfl rfl ⟨a0,Nat.le_of_ble_eq_true rfl⟩ fun y23 _ Vh kq=>?_
     refine ⟨kq _ _,kq _ _,?_⟩
     refine hJ Vh 0 rfl 5 rfl mZ 3 rfl ⟨a1,by omega⟩ fun y24 _ Vm kq=>?_
     refine ⟨kq _ _,?_⟩
     refine dA Vm 0 rfl 6 rfl (ns:=[((s.ten.n:Nat):Int)]) 4 rfl rfl ⟨a2,Nat.le_of_ble_eq_true rfl⟩ fun y25 _ Vn kq=>?_
     exact fin _ _ (Vn.two 0 7 rfl rfl (by decide))
   ·refine dm H1 0 rfl fun b26 _ HC kq=>?_
    refine ⟨kq _ _,kq _ _,?_⟩
    refine And.intro ?_ ?_
    ·refine dA HC 0 rfl 1 rfl (ns:=[t.clock]) 2 rfl rfl ⟨a0,Nat.le_of_ble_eq_true rfl⟩ fun y27 _ Vo kq=>?_
     refine ⟨kq _ _,kq _ _,?_⟩
     refine dm Vo 0 rfl fun b28 _ Vp kq=>?_
     refine ⟨kq _ _,kq _ _,?_⟩
     refine hJ Vp 0 rfl 4 rfl mZ 5 rfl ⟨a1,by omega⟩ fun y29 _ Vq kq=>?_
     refine ⟨kq _ _,?_⟩
     refine dA Vq 0 rfl 6 rfl (ns:=[((s.ten.n:Nat):Int)]) 3 rfl rfl ⟨a2,Nat.le_of_ble_eq_true rfl⟩ fun y30 _ Vr kq=>?_
     exact fin _ _ (Vr.two 0 7 rfl rfl (by decide))
    ·refine dm HC 0 rfl fun b31 _ Vs kq=>?_
     refine ⟨kq _ _,kq _ _,?_⟩
     refine dA Vs 0 rfl 1 rfl (ns:=[t.clock]) 2 rfl rfl ⟨a0,Nat.le_of_ble_eq_true rfl⟩ fun y32 _ Vt kq=>?_
     refine ⟨kq _ _,kq _ _,?_⟩
     refine hJ Vt 0 rfl 5 rfl mZ 4 rfl ⟨a1,by omega⟩ fun y33 _ Vu kq=>?_
     refine ⟨kq _ _,?_⟩
     refine dA Vu 0 rfl 6 rfl (ns:=[((s.ten.n:Nat):Int)]) 3 rfl rfl ⟨a2,Nat.le_of_ble_eq_true rfl⟩ fun y34 _ Vv kq=>?_
     exact fin _ _ (Vv.two 0 7 rfl rfl (by decide))
 ·refine And.intro ?_ ?_
  ·refine dm H 0 rfl fun b35 _ HD kq=>?_
   refine ⟨kq _ _,kq _ _,?_⟩
   refine And.intro ?_ ?_
   ·refine dm HD 0 rfl fun b36 _ HE kq=>?_
    refine ⟨kq _ _,kq _ _,?_⟩
    refine And.intro ?_ ?_
    ·refine dA HE 0 rfl 1 rfl (ns:=[t.clock]) 3 rfl rfl ⟨a0,Nat.le_of_ble_eq_true rfl⟩ fun y37 _ HG kq=>?_
     refine ⟨kq _ _,kq _ _,?_⟩
     refine And.intro ?_ ?_
     ·refine hJ HG 0 rfl 4 rfl mZ 2 rfl ⟨a1,by omega⟩ fun y38 _ Vw kq=>?_
      refine ⟨kq _ _,?_⟩
      refine dm Vw 0 rfl fun b39 _ Vx kq=>?_
      refine ⟨kq _ _,kq _ _,?_⟩
      refine dA Vx 0 rfl 5 rfl (ns:=[((s.ten.n:Nat):Int)]) 6 rfl rfl ⟨a2,Nat.le_of_ble_eq_true rfl⟩ fun y40 _ Vy kq=>?_
      exact fin _ _ (Vy.two 0 7 rfl rfl (by decide))
     ·refine dm HG 0 rfl fun b41 _ Vz kq=>?_
      refine ⟨kq _ _,kq _ _,?_⟩
      refine hJ Vz 0 rfl 4 rfl mZ 2 rfl ⟨a1,by omega⟩ fun y42 _ VA kq=>?_
      refine ⟨kq _ _,?_⟩
      refine dA VA 0 rfl 6 rfl (ns:=[((s.ten.n:Nat):Int)]) 5 rfl rfl ⟨a2,Nat.le_of_ble_eq_true rfl⟩ fun y43 _ VB kq=>?_
      exact fin _ _ (VB.two 0 7 rfl rfl (by decide))
    ·refine dm HE 0 rfl fun b44 _ VC kq=>?_
     refine ⟨kq _ _,kq _ _,?_⟩
     refine dA VC 0 rfl 1 rfl (ns:=[t.clock]) 3 rfl rfl ⟨a0,Nat.le_of_ble_eq_true rfl⟩ fun y45 _ VD kq=>?_
     refine ⟨kq _ _,kq _ _,?_⟩
     refine hJ VD 0 rfl 5 rfl mZ 2 rfl ⟨a1,by omega⟩ fun y46 _ VE kq=>?_
     refine ⟨kq _ _,?_⟩
     refine dA VE 0 rfl 6 rfl (ns:=[((s.ten.n:Nat):Int)]) 4 rfl rfl ⟨a2,Nat.le_of_ble_eq_true rfl⟩ fun y47 _ VF kq=>?_
     exact fin _ _ (VF.two 0 7 rfl rfl (by decide))
   ·refine dm HD 0 rfl fun b48 _ VG kq=>?_
    refine ⟨kq _ _,kq _ _,?_⟩
    refine dm VG 0 rfl fun b49 _ VH kq=>?_
    refine ⟨kq _ _,kq _ _,?_⟩
    refine dA VH 0 rfl 1 rfl (ns:=[t.clock]) 4 rfl rfl ⟨a0,Nat.le_of_ble_eq_true rfl⟩ fun y50 _ VI kq=>?_
    refine ⟨kq _ _,kq _ _,?_⟩
    refine hJ VI 0 rfl 5 rfl mZ 2 rfl ⟨a1,by omega⟩ fun y51 _ VJ kq=>?_
    refine ⟨kq _ _,?_⟩
    refine dA VJ 0 rfl 6 rfl (ns:=[((s.ten.n:Nat):Int)]) 3 rfl rfl ⟨a2,Nat.le_of_ble_eq_true rfl⟩ fun y52 _ VK kq=>?_
    exact fin _ _ (VK.two 0 7 rfl rfl (by decide))
  ·refine dm H 0 rfl fun b53 _ HH kq=>?_
   refine ⟨kq _ _,kq _ _,?_⟩
   refine And.intro ?_ ?_
   ·refine dm HH 0 rfl fun b54 _ HI kq=>?_
    refine ⟨kq _ _,kq _ _,?_⟩
    refine And.intro ?_ ?_
    ·refine dA HI 0 rfl 1 rfl (ns:=[t.clock]) 3 rfl rfl ⟨a0,Nat.le_of_ble_eq_true rfl⟩ fun y55 _ VL kq=>?_
     refine ⟨kq _ _,kq _ _,?_⟩
     refine dm VL 0 rfl fun b56 _ VM kq=>?_
     refine ⟨kq _ _,kq _ _,?_⟩
     refine hJ VM 0 rfl 4 rfl mZ 5 rfl ⟨a1,by omega⟩ fun y57 _ VN kq=>?_
     refine ⟨kq _ _,?_⟩
     refine dA VN 0 rfl 6 rfl (ns:=[((s.ten.n:Nat):Int)]) 2 rfl rfl ⟨a2,Nat.le_of_ble_eq_true rfl⟩ fun y58 _ VP kq=>?_
     exact fin _ _ (VP.two 0 7 rfl rfl (by decide))
    ·refine dm HI 0 rfl fun b59 _ VQ kq=>?_
     refine ⟨kq _ _,kq _ _,?_⟩
     refine dA VQ 0 rfl 1 rfl (ns:=[t.clock]) 3 rfl rfl ⟨a0,Nat.le_of_ble_eq_true rfl⟩ fun y60 _ VR kq=>?_
     refine ⟨kq _ _,kq _ _,?_⟩
     refine hJ VR 0 rfl 5 rfl mZ 4 rfl ⟨a1,by omega⟩ fun y61 _ VS kq=>?_
     refine ⟨kq _ _,?_⟩
     refine dA VS 0 rfl 6 rfl (ns:=[((s.ten.n:Nat):Int)]) 2 rfl rfl ⟨a2,Nat.le_of_ble_eq_true rfl⟩ fun y62 _ VT kq=>?_
     exact fin _ _ (VT.two 0 7 rfl rfl (by decide))
   ·refine dm HH 0 rfl fun b63 _ VU kq=>?_
    refine ⟨kq _ _,kq _ _,?_⟩
    refine dm VU 0 rfl fun b64 _ VV kq=>?_
    refine ⟨kq _ _,kq _ _,?_⟩
    refine dA VV 0 rfl 1 rfl (ns:=[t.clock]) 4 rfl rfl ⟨a0,Nat.le_of_ble_eq_true rfl⟩ fun y65 _ VW kq=>?_
    refine ⟨kq _ _,kq _ _,?_⟩
    refine hJ VW 0 rfl 5 rfl mZ 3 rfl ⟨a1,by omega⟩ fun y66 _ VX kq=>?_
    refine ⟨kq _ _,?_⟩
    refine dA VX 0 rfl 6 rfl (ns:=[((s.ten.n:Nat):Int)]) 2 rfl rfl ⟨a2,Nat.le_of_ble_eq_true rfl⟩ fun y67 _ VY kq=>?_
    exact fin _ _ (VY.two 0 7 rfl rfl (by decide))
end Go.Proofs.YtpchgbolambkcaaGreatDoor
end
section
set_option linter.unusedVariables false
set_option linter.unusedSimpArgs false
namespace Go.Proofs.YtpchgbolambkcaaGreatDoor
open Go Go.Ev
set_option maxRecDepth 20000
set_option linter.unusedVariables false
abbrev Rs:=Option (List B8)
def aY (s:Rs):Int×Rs:=cw (-9223372036854775808) 9223372036854775807 s
def fG {A:Type} (f:Rs→A×Rs):Nat→Rs→List A×Rs
 | 0,s=>([],s)
 | n+1,s=>((fG f n s).1 ++ [(f (fG f n s).2).1],(f (fG f n s).2).2)
def j0 (s:Rs):cJ×Rs:=
 let a:=aY s
 let b:=aY a.2
 let c:=aY b.2
 let d:=cF 64 c.2
 (⟨a.1,b.1,c.1,d.1⟩,d.2)
def lC (s:Rs):ct×Rs:=
 let a:=aY s
 let b:=aY a.2
 let c:=aY b.2
 let n:=cw 0 5 c.2
 let d:=fG j0 n.1.toNat n.2
 (⟨a.1,b.1,c.1,d.1⟩,d.2)
theorem Ax {A:Type} (f:Rs→A×Rs):∀ (n:Nat) (s:Rs),(fG f n s).1.length=n
 | 0,_=>rfl
 | n+1,s=>by show ((fG f n s).1 ++ [_]).length=n+1; rw [List.length_append,Ax f n s]; rfl
theorem yD {lo hi:Int} (h0:lo≤0) (h1:0≤hi) (s:Rs):lo≤(cw lo hi s).1∧(cw lo hi s).1≤hi:=by
 cases s with
 | none=>exact ⟨h0,h1⟩
 | some l=>
  rw [Aw]
  split
  ·exact ⟨h0,h1⟩
  ·split
   ·exact ⟨h0,h1⟩
   ·constructor <;> omega
def oY {A:Type} (g:A→List B8) (B:ah) (full:List B8) (xs:List ah) (ls:List A):Prop:=xs.length=ls.length∧∀ (i:Nat) (x:ah) (l:A),xs[i]? = some x→ls[i]? = some l→jh B full x (g l)
theorem oY.nil {A:Type} (g:A→List B8) (B:ah) (full:List B8):oY g B full [] []:=⟨rfl,fun i x l h=>by simp at h⟩
theorem oY.snoc {A:Type} {g:A→List B8} {B:ah} {full:List B8} {xs:List ah} {ls:List A} (h:oY g B full xs ls) {x:ah} {l:A} (hx:jh B full x (g l)):oY g B full (xs ++ [x]) (ls ++ [l]):=by
 refine ⟨by rw [List.length_append,List.length_append,h.1]; rfl,fun i y m hy hm=>?_⟩
 rcases Nat.lt_or_ge i xs.length with hi | hi
 ·rw [List.getElem?_append_left hi] at hy
  rw [List.getElem?_append_left (by rw [← h.1]; exact hi)] at hm
  exact h.2 i y m hy hm
 ·rw [List.getElem?_append_right hi] at hy
  rw [List.getElem?_append_right (by rw [← h.1]; exact hi)] at hm
  rw [← h.1] at hm
  cases e:i - xs.length with
  | zero=>
   rw [e] at hy hm
   simp only [List.getElem?_cons_zero,Option.some.injEq] at hy hm
   subst hy hm; exact hx
  | succ j=>rw [e] at hy; simp at hy
theorem oY.elems {A:Type} {g:A→List B8} {B:ah} {full:List B8} {xs:List ah} {ls:List A} (h:oY g B full xs ls) {w:World} (hB:Bytes w B full):br (fun w x l=>Bytes w x (g l)) w xs ls:=
 ⟨h.1,fun i x l hx hl=>(h.2 i x l hx hl).jQ w hB⟩
theorem _root_.Go.Ev.aq.FB {w0 w:World} {S:List Nat} {L:List aB} (H:aq w0 S w L) (k j:Nat) {t ty e:TypeId} {sz bytes p:Nat} {s:ah} {vs cs:List Value} {K:ah→World→Prop} (dH:fQ Pr t e sz bytes) (hk:L[k]? = some (.row e sz s vs)) (hj:L[j]? = some (.av p cs e)) (hl:cs.length=sz)
  (h1:∀ u∈cs,fW u=true) (hb:(s.n+1) * bytes≤140737488355328) (hm:s.n+1≤9223372036854775807)
  (h:∀ s' w',aq w0 S w' (L.set k (.row e sz s' (vs ++ cs)))→s'.n=s.n+1→K s' w'):cS Pr [t,t] ty [.slice s.a s.n s.c,.slice (some ⟨p,0,none⟩) 1 1] w K:=by
 have hx:=(H.av j hj).sl sz 1 1 (by rw [hl]; omega) (by omega)
 rw [Nat.one_mul,List.take_of_length_le (by omega)] at hx
 exact H.app (x:=⟨some ⟨p,0,none⟩,1,1⟩) k dH hk hx h1 hb hm h
def RT (w0 w:World) (S:List Nat) (b:Nat) (B:ah) (full:List B8) (s:Rs) (L:List aB):Prop:=
 ∃ (x:ah) (bad:Bool),aq w0 S w (.av b [x.v,.bool bad] gh :: L)∧lu B full x bad s
def Kp (L:List aB) (w w':World):Prop:=∀ (k:Nat) {p:Nat} {cs:List Value} {t:TypeId},L[k]? = some (.av p cs t)→∀ i n,kept ⟨p,i,none⟩ n w w'
section
variable {w0 w w':World} {S:List Nat} {b:Nat} {B:ah} {full:List B8} {s s':Rs} {L:List aB}
theorem RT.gS (h:RT w0 w S b B full s L) {K:Prop} (hK:∀ x bad,aq w0 S w (.av b [x.v,.bool bad] gh :: L)→lu B full x bad s→K):K:=by
 obtain ⟨x,bad,H,hs⟩:=h
 exact hK x bad H hs
theorem RT.drew (h:RT w0 w S b B full s L):RT w0 w.drew S b B full s L:=by
 obtain ⟨x,bad,H,hs⟩:=h
 exact ⟨x,bad,H.drew,hs⟩
theorem RT.step (h:RT w0 w S b B full s L) (r:vN w w' b gh B full s'):RT w0 w' S b B full s' L∧Kp L w w':=by
 obtain ⟨x,bad,H,hs⟩:=h
 obtain ⟨x',iF,hb,nC,m⟩:=r
 refine ⟨⟨x',iF,H.nr (r':=.av b [x'.v,.bool iF] gh) 0 rfl m (fun c hc=>.inl hc) hb (fun c hc=>.inl hc),nC⟩,fun k p cs t hk i n=>?_⟩
 have hk:(.av b [x.v,.bool bad] gh :: L)[k+1]? = some (.av p cs t):=hk
 refine J7 m (H.av (k+1) hk).lt fun hc=>?_
 have hc:p=b:=by simpa using hc
 exact H.apart 0 (k+1) _ _ (by omega) rfl hk b (by simp [aB.av]) (by simp [aB.av,hc])
theorem ae2 (b:Nat) (B:ah) (full:List B8) (x:ah) (bad:Bool) (s:Rs) (w:World) (hb:bQ w b [x.v,.bool bad] gh) (hs:lu B full x bad s) (hB:Bytes w B full) (ho:off [b] B) :
  Ok Pr fU [.agg ⟨[.pointer (some ⟨b,0,none⟩)]⟩] w fun v w'=>v=.int .i64 (aY s).1∧vN w w' b gh B full (aY s).2:=by
 refine aew ?_
 unfold M0
 have H:=aq.tR (r:=.av b [x.v,.bool bad] gh) hb
 refine H.nw fun p w1 H _=>H.bO 1 rfl (an p 0) rfl (aC (MA b B full x bad s _ _ w1 (H.av 0 rfl) hs (hB.mod H.mod ho) ho) ?_)
 rintro _ w2 ⟨rfl,x',iF,j4,nC,m⟩
 exact cr ⟨rfl,x',iF,j4,nC,Mod.trans H.mod m⟩
theorem RT.num (hB:∀ {w'},Mod S w0 w'→Bytes w' B full) (ho:off [b] B) (h:RT w0 w S b B full s L) {lo hi n:Int} (e:cw lo hi s=(n,s')) {K:Int→World→Prop} (hK:∀ w',RT w0 w' S b B full s' L→Kp L w w'→K n w') :
  ax Pr pZ [.pointer (some ⟨b,0,none⟩),.int .i64 lo,.int .i64 hi] w fun v w'=>aF .i64 v fun t=>K t w':=by
 obtain ⟨x,bad,H,hs⟩:=id h
 refine aC (MA b B full x bad s lo hi w (H.av 0 rfl) hs (hB H.mod) ho) ?_
 rintro _ w' ⟨rfl,hr⟩
 rw [e] at hr ⊢
 have h':=h.step hr
 exact cr (hK w' h'.1 h'.2)
theorem RT.any (hB:∀ {w'},Mod S w0 w'→Bytes w' B full) (ho:off [b] B) (h:RT w0 w S b B full s L) {n:Int} (e:aY s=(n,s')) {K:Int→World→Prop} (hK:∀ w',RT w0 w' S b B full s' L→Kp L w w'→K n w') :
  ax Pr fU [.agg ⟨[.pointer (some ⟨b,0,none⟩)]⟩] w fun v w'=>aF .i64 v fun t=>K t w':=by
 obtain ⟨x,bad,H,hs⟩:=id h
 refine aC (ae2 b B full x bad s w (H.av 0 rfl) hs (hB H.mod) ho) ?_
 rintro _ w' ⟨rfl,hr⟩
 rw [e] at hr ⊢
 have h':=h.step hr
 exact cr (hK w' h'.1 h'.2)
theorem RT.bytes (hB:∀ {w'},Mod S w0 w'→Bytes w' B full) (ho:off [b] B) (h:RT w0 w S b B full s L) {most:Int} {o:List B8} (e:cF most s=(o,s')) {K:ah→World→Prop} (hK:∀ y w',RT w0 w' S b B full s' L→jh B full y o→Kp L w w'→K y w') :
  ax Pr p7 [.pointer (some ⟨b,0,none⟩),.int .i64 most] w fun v w'=>aK v fun t=>K t w':=by
 obtain ⟨x,bad,H,hs⟩:=id h
 refine aC (WA b B full x bad s most w (H.av 0 rfl) hs (hB H.mod) ho) ?_
 rintro _ w' ⟨y,rfl,hy,hr⟩
 rw [e] at hr hy
 have h':=h.step hr
 exact dP (hK y w' h'.1 hy h'.2)
theorem RT.text (hB:∀ {w'},Mod S w0 w'→Bytes w' B full) (ho:off [b] B) (h:RT w0 w S b B full s L) {most:Int} {o:List B8} (e:cF most s=(o,s')) {K:ByteArray→World→Prop} (hK:∀ w',RT w0 w' S b B full s' L→Kp L w w'→K (strOf o) w') :
  ax Pr BT [.pointer (some ⟨b,0,none⟩),.int .i64 most] w fun v w'=>tU v fun t=>K t w':=by
 obtain ⟨x,bad,H,hs⟩:=id h
 refine aC (aeX b B full x bad s most w (H.av 0 rfl) hs (hB H.mod) ho) ?_
 rintro _ w' ⟨rfl,hr⟩
 rw [e] at hr ⊢
 have h':=h.step hr
 exact ⟨_,rfl,hK w' h'.1 h'.2⟩
theorem RT.nw (h:RT w0 w S b B full s L) {t:TypeId} {cs:List Value} {K:Addr→World→Prop} (hK:∀ a w',RT w0 w' S b B full s (L ++ [.av a cs t])→Kp L w w'→K ⟨a,0,none⟩ w'):Ev.nw t cs w K:=by
 obtain ⟨x,bad,H,hs⟩:=h
 refine oL fun a w' ha h1 h2 _=>hK a w' ⟨x,bad,H.push h2 h1 (by simp [aB.av,ha]),hs⟩ fun k p cs t hk i n=>?_
 exact H.kept h2 (k+1) hk rfl n
end
theorem ae3 (b:Nat) (B:ah) (full:List B8) (x:ah) (bad:Bool) (s:Rs) (w:World) (hb:bQ w b [x.v,.bool bad] gh) (hs:lu B full x bad s) (hB:Bytes w B full) (ho:off [b] B) :
  Ok Pr Eo [.agg ⟨[.pointer (some ⟨b,0,none⟩)]⟩] w fun v w'=>∃ (y:ah) (xs:List ah),v=.agg ⟨(lC s).1.cs y⟩∧RT w w' [b] b B full (lC s).2 [.row eW 4 y (bP cJ.cs (lC s).1.bu xs)]∧oY cJ.bV B full xs (lC s).1.bu:=by
 refine aex ?_
 unfold M1
 rw [CQ]
 have hB:∀ {w'},Mod [b] w w'→Bytes w' B full:=fun m=>hB.mod m ho
 obtain ⟨v0,s1,e1⟩:∃ v s',aY s=(v,s'):=⟨_,_,rfl⟩
 obtain ⟨v1,s2,e2⟩:∃ v s',aY s1=(v,s'):=⟨_,_,rfl⟩
 obtain ⟨v2,s3,e3⟩:∃ v s',aY s2=(v,s'):=⟨_,_,rfl⟩
 obtain ⟨n,s4,e4⟩:∃ v s',cw 0 5 s3=(v,s'):=⟨_,_,rfl⟩
 have hn:0≤n∧n≤5:=by have:=yD (lo:=0) (hi:=5) (by omega) (by omega) s3; rw [e4] at this; exact this
 obtain ⟨N,rfl⟩:∃ N:Nat,n=(N:Int):=⟨n.toNat,by omega⟩
 have eK:lC s=(⟨v0,v1,v2,(fG j0 N s4).1⟩,(fG j0 N s4).2):=by
  unfold lC
  rw [e1]
  show (ct.mk v0 (aY s1).1 (aY (aY s1).2).1 _,_)=_
  rw [e2]
  show (ct.mk v0 v1 (aY s2).1 (fG j0 (cw 0 5 (aY s2).2).1.toNat (cw 0 5 (aY s2).2).2).1,(fG j0 (cw 0 5 (aY s2).2).1.toNat (cw 0 5 (aY s2).2).2).2)=_
  rw [e3]
  show (ct.mk v0 v1 v2 (fG j0 (cw 0 5 s3).1.toNat (cw 0 5 s3).2).1,(fG j0 (cw 0 5 s3).1.toNat (cw 0 5 s3).2).2)=_
  rw [e4]
  rfl
 rw [eK]
 have h0:RT w w [b] b B full s []:=⟨x,bad,aq.tR (r:=.av b [x.v,.bool bad] gh) hb,hs⟩
 refine h0.nw fun p w1 h1 _=>h1.nw fun p1 w2 h2 _=>gm fun go bX=>?_
 have last:∀ a w3,RT w w3 [b] b B full s3 [.av p [.pointer (some ⟨b,0,none⟩)] oH,.av p1 [.int .i64 0,.int .i64 0,.int .i64 0,.slice none 0 0] bW,.av a [.int .i64 0,.int .i64 0,.int .i64 0,.slice none 0 0] bW]→kR ⟨a,0,none⟩ v0 v1 v2 ⟨none,0,0⟩ w3 (fun w4=>go ⟨a,0,none⟩ w4):=by
  rintro a w3 ⟨x3,TZ,H,sS⟩
  refine H.kR 3 rfl rfl fun w4 H=>bX _ w4 (H.bO 1 rfl (an p 0) rfl ?_)
  have h4:RT w w4 [b] b B full s3 [.av p [.pointer (some ⟨b,0,none⟩)] oH,.av p1 [.int .i64 0,.int .i64 0,.int .i64 0,.slice none 0 0] bW,.av a (mP v0 v1 v2 ⟨none,0,0⟩) bW]:=⟨x3,TZ,H,sS⟩
  refine h4.num hB ho e4 fun w5 h5 _=>?_
  refine ep 0 N (fun k w'=>∃ (y:ah) (xs:List ah),RT w w' [b] b B full (fG j0 k s4).2 [.av p [.pointer (some ⟨b,0,none⟩)] oH,.av p1 [.int .i64 0,.int .i64 0,.int .i64 0,.slice none 0 0] bW,.av a (mP v0 v1 v2 y) bW,.row eW 4 y (bP cJ.cs (fG j0 k s4).1 xs)]∧y.n=k∧oY cJ.bV B full xs (fG j0 k s4).1) rfl (by omega) ?_ ?_ ?_
  ·obtain ⟨x5,acg,H,xL⟩:=h5
   exact ⟨⟨none,0,0⟩,[],⟨x5,acg,H.jC eW 4,xL⟩,rfl,oY.nil _ _ _⟩
  ·rintro again k w6 _ hk ⟨y,xs,h6,UH,ht⟩ aR
   have VZ:(fG j0 (k+1) s4).1=(fG j0 k s4).1 ++ [(j0 (fG j0 k s4).2).1]:=rfl
   have Lz:(fG j0 (k+1) s4).2=(j0 (fG j0 k s4).2).2:=rfl
   generalize (fG j0 k s4).1=vs at *
   generalize (fG j0 k s4).2=t0 at *
   obtain ⟨u0,t1,d1⟩:∃ v s',aY t0=(v,s'):=⟨_,_,rfl⟩
   obtain ⟨u1,t2,d2⟩:∃ v s',aY t1=(v,s'):=⟨_,_,rfl⟩
   obtain ⟨u2,t3,d3⟩:∃ v s',aY t2=(v,s'):=⟨_,_,rfl⟩
   obtain ⟨sd,t4,d4⟩:∃ v s',cF 64 t3=(v,s'):=⟨_,_,rfl⟩
   have eV:j0 t0=(⟨u0,u1,u2,sd⟩,t4):=by
    unfold j0
    rw [d1]
    show (cJ.mk u0 (aY t1).1 (aY (aY t1).2).1 _,_)=_
    rw [d2]
    show (cJ.mk u0 u1 (aY t2).1 (cF 64 (aY t2).2).1,(cF 64 (aY t2).2).2)=_
    rw [d3]
    show (cJ.mk u0 u1 u2 (cF 64 t3).1,(cF 64 t3).2)=_
    rw [d4]
   rw [eV] at VZ Lz
   have h6:=h6.drew
   refine ite_true (decide_eq_true (by omega)) (h6.gS fun x6 sG H uR=>H.ay 3 rfl (an a 3) rfl (H.bO 1 rfl (an p 0) rfl (H.bO 1 rfl (an p 0) rfl (H.bO 1 rfl (an p 0) rfl (H.bO 1 rfl (an p 0) rfl ?_)))))
   refine h6.any hB ho d1 fun w7 h7 k7=>⟨k7 0 rfl _ _,k7 0 rfl _ _,k7 0 rfl _ _,k7 2 rfl _ _,?_⟩
   refine h7.any hB ho d2 fun w8 h8 k8=>⟨k8 0 rfl _ _,k8 0 rfl _ _,k8 2 rfl _ _,?_⟩
   refine h8.any hB ho d3 fun w9 h9 k9=>⟨k9 0 rfl _ _,k9 2 rfl _ _,?_⟩
   refine h9.bytes hB ho d4 fun z dN Bp tz LA=>⟨LA 2 rfl _ _,?_⟩
   refine Bp.nw fun q fZ Bq V0=>⟨V0 2 rfl _ _,?_⟩
   obtain ⟨Bz,anP,H,aoI⟩:=Bq
   refine H.FB 4 5 Sr rfl rfl rfl ((cJ.mk u0 u1 u2 sd).jM z) (by omega) (by omega) fun y' dO H zB=>?_
   refine H.st 3 rfl (an a 3) (show 3<4 by omega) rfl fun gH H=>⟨⟨by omega,by omega⟩,aR gH ⟨y',xs ++ [z],?_,by omega,?_⟩⟩
   ·rw [VZ,Lz,Cz _ _ ht.1,E6]
    have H2:=H.take 5
    exact ⟨Bz,anP,H2,aoI⟩
   ·rw [VZ]; exact ht.snoc tz
  ·rintro again w6 ⟨y,xs,h6,UH,ht⟩
   refine ite_false (decide_eq_false (by omega)) ?_
   obtain ⟨x6,sG,H,uR⟩:=h6
   refine H.iI 3 rfl (H.kR 2 rfl rfl fun w7 H=>H.iI 2 rfl ⟨y,xs,rfl,⟨x6,sG,?_,uR⟩,ht⟩)
   exact H.two 0 4 rfl rfl (by decide)
 have h2:=h2.drew
 refine h2.gS fun x2 ab6 H rK=>H.bO 1 rfl (an p 0) rfl (H.bO 1 rfl (an p 0) rfl (H.bO 1 rfl (an p 0) rfl ?_))
 refine And.intro ?_ ?_
 ·refine h2.any hB ho e1 fun w3 h3 k3=>⟨k3 0 rfl _ _,k3 0 rfl _ _,?_⟩
  refine And.intro ?_ ?_
  ·refine h3.any hB ho e2 fun w4 h4 k4=>⟨k4 0 rfl _ _,?_⟩
   refine And.intro ?_ ?_
   ·exact h4.any hB ho e3 fun w5 h5 k5=>h5.nw fun a w6 h6 k6=>⟨k6 0 rfl _ _,k6 0 rfl _ _,k6 0 rfl _ _,last a w6 h6⟩
   ·exact h4.nw fun a w5 h5 k5=>⟨k5 0 rfl _ _,k5 0 rfl _ _,k5 0 rfl _ _,h5.any hB ho e3 fun w6 h6 k6=>last a w6 h6⟩
  ·exact h3.nw fun a w4 h4 k4=>⟨k4 0 rfl _ _,k4 0 rfl _ _,k4 0 rfl _ _,h4.any hB ho e2 fun w5 h5 k5=>⟨k5 0 rfl _ _,h5.any hB ho e3 fun w6 h6 k6=>last a w6 h6⟩⟩
 ·exact h2.nw fun a w3 h3 k3=>⟨k3 0 rfl _ _,k3 0 rfl _ _,k3 0 rfl _ _,h3.any hB ho e1 fun w4 h4 k4=>⟨k4 0 rfl _ _,k4 0 rfl _ _,h4.any hB ho e2 fun w5 h5 k5=>⟨k5 0 rfl _ _,h5.any hB ho e3 fun w6 h6 k6=>last a w6 h6⟩⟩⟩
end Go.Proofs.YtpchgbolambkcaaGreatDoor
end
section
set_option linter.unusedVariables false
set_option linter.unusedSimpArgs false
namespace Go.Proofs.YtpchgbolambkcaaGreatDoor
open Go Go.Ev
set_option maxRecDepth 20000
set_option linter.unusedVariables false
set_option maxHeartbeats 1000000
def pJ (s:Rs):bZ×Rs:=
 let a:=aY s
 let b:=aY a.2
 let c:=cF 300 b.2
 (⟨a.1,b.1,strOf c.1⟩,c.2)
def pK (s:Rs):cv×Rs:=
 let a:=aY s
 let b:=aY a.2
 let k:=cF 1312 b.2
 let h:=aY k.2
 let u:=aY h.2
 (⟨a.1,b.1,k.1,h.1,BitVec.ofInt 64 u.1⟩,u.2)
def qB (s:Rs):dY×Rs:=
 let a:=aY s
 let b:=aY a.2
 let c:=aY b.2
 let d:=aY c.2
 let e:=aY d.2
 let f:=cw 0 1 e.2
 (⟨a.1,b.1,c.1,d.1,e.1,decide (f.1=1)⟩,f.2)
def lB {A:Type} (f:Rs→A×Rs) (most:Int) (s:Rs):List A×Rs:=fG f (cw 0 most s).1.toNat (cw 0 most s).2
def rB (l:List B8):aJ×Rs:=
 let c:=aY (some l)
 let s:=cF 32 c.2
 let a:=lB pJ 8 s.2
 let b:=lB pK 6 a.2
 let k:=lB lC 6 b.2
 let g:=lB qB 8 k.2
 (⟨c.1,s.1,a.1,b.1,k.1,g.1⟩,g.2)
def mw (l:List B8):Int:=if (fP (rB l).2 && dh (rB l).1)=true then 0 else 4
def oZ (l:List B8):aJ:=if mw l=0 then (rB l).1 else bK
def Bh (B:ah) (full:List B8) (w:World) (x:ah) (k:ct):Prop:=∃ xs,Own w 0 eW 4 x (bP cJ.cs k.bu xs)∧oY cJ.bV B full xs k.bu
theorem Bh.lS {B:ah} {full:List B8} {w:World} {x:ah} {k:ct} (h:Bh B full w x k) (hB:Bytes w B full):xK w x k:=by
 obtain ⟨xs,h1,h2⟩:=h
 exact ⟨xs,h1.sl,h2.elems hB⟩
def DY (p p1 a b:Nat) (T:cL) (t:aJ) (xp xk:List ah) (fq:List Nat) (B:ah) (full:List B8):List aB:=
 [.av p (bK.cs sZ) aA,.av p1 [.pointer (some ⟨b,0,none⟩)] oH,.av a (t.cs T) aA,.row cZ 3 T.ten (gM t.bq),.row ey 5 T.aE (bP cv.cs t.aE xp),.row bW 4 T.key (bP ct.cs t.keys xk),.box fq fun w=>br (Bh B full) w xk t.keys,.row dJ 6 T.gr (gX t.cM)]
structure V1 (B:ah) (full:List B8) (T:cL) (t:aJ) (xp xk:List ah):Prop where
 sec:jh B full T.sec t.fy
 ten:T.ten.n=t.bq.length
 aE:T.aE.n=t.aE.length
 key:T.key.n=t.keys.length
 gr:T.gr.n=t.cM.length
 pk:oY cv.key B full xp t.aE
 kk:xk.length=t.keys.length
def kM (w0 w:World) (S:List Nat) (b:Nat) (B:ah) (full:List B8) (s:Rs) (p p1 a:Nat) (t:aJ):Prop:=
 ∃ T xp xk fq,RT w0 w S b B full s (DY p p1 a b T t xp xk fq B full)∧V1 B full T t xp xk
theorem RT.key {w0 w:World} {S:List Nat} {b:Nat} {B:ah} {full:List B8} {s s':Rs} {L:List aB} (hB:∀ {w'},Mod S w0 w'→Bytes w' B full) (ho:off [b] B) (h:RT w0 w S b B full s L) {k:ct} (e:lC s=(k,s')) {K:Int→Int→Int→ah→World→Prop}
  (hK:∀ (y:ah) (xs:List ah) w',RT w0 w' S b B full s' (L ++ [.row eW 4 y (bP cJ.cs k.bu xs)])→oY cJ.bV B full xs k.bu→Kp L w w'→K k.id k.ten k.set y w') :
  ax Pr Eo [.agg ⟨[.pointer (some ⟨b,0,none⟩)]⟩] w fun v w'=>Cx v fun a1 a2 a3 y=>K a1 a2 a3 y w':=by
 obtain ⟨x,bad,H,hs⟩:=id h
 refine aC (ae3 b B full x bad s w (H.av 0 rfl) hs (hB H.mod) ho) ?_
 rintro _ w' ⟨y,xs,rfl,⟨x',iF,D,nC⟩,ht⟩
 rw [e] at nC D ht ⊢
 have m:=D.mod
 have gO:=(h.step ⟨x',iF,D.av 0 rfl,nC,m⟩).2
 refine Xx (hK y xs w' ⟨x',iF,?_,nC⟩ ht gO)
 exact H.aa2 (r':=.av b [x'.v,.bool iF] gh) (s:=.row eW 4 y (bP cJ.cs k.bu xs)) 0 rfl m (fun c hc=>hc) (D.av 0 rfl) (fun c hc=>hc) (D.kK 1 rfl) (fun c hc=>by
  rcases D.own 1 _ rfl c hc with h1 | h1
  ·exact absurd hc (fun hc=>D.apart 0 1 _ _ (by omega) rfl rfl c h1 hc)
  ·exact h1)
section
variable {w0 w:World} {S:List Nat} {b:Nat} {B:ah} {full:List B8} {s:Rs} {p p1 a:Nat} {c:Int} {sec:List B8} {ts:List bZ} {ps:List cv} {ks:List ct} {gs:List dY}
theorem kM.ten (hB:∀ {w'},Mod S w0 w'→Bytes w' B full) (ho:off [b] B) (h:kM w0 w S b B full s p p1 a ⟨c,sec,ts,ps,ks,gs⟩) (hl:ts.length≤100) {K:World→Prop} (hK:∀ w',kM w0 w' S b B full (pJ s).2 p p1 a ⟨c,sec,ts ++ [(pJ s).1],ps,ks,gs⟩→K w') :
  ay (Addr.add ⟨a,0,none⟩ 2) w fun t29=>bO (Addr.add ⟨p1,0,none⟩ 0) w fun t30=>bO (Addr.add ⟨p1,0,none⟩ 0) w fun t32=>bO (Addr.add ⟨p1,0,none⟩ 0) w fun t35=>
   ax Pr fU [.agg ⟨[.pointer t30]⟩] w fun v w9=>aF .i64 v fun t31=>
   (kept (Addr.add ⟨p1,0,none⟩ 0) 1 w w9∧(kept ⟨p1,0,none⟩ 1 w w9∧(kept (Addr.add ⟨a,0,none⟩ 2) 1 w w9∧
   ax Pr fU [.agg ⟨[.pointer t32]⟩] w9 fun v dN=>aF .i64 v fun t33=>
   (kept (Addr.add ⟨p1,0,none⟩ 0) 1 w9 dN∧(kept (Addr.add ⟨a,0,none⟩ 2) 1 w9 dN∧
   ax Pr BT [.pointer t35,.int .i64 300] dN fun v fZ=>tU v fun t36=>
   (kept (Addr.add ⟨a,0,none⟩ 2) 1 dN fZ∧
   nw cZ [.int .i64 t31,.int .i64 t33,.string t36] fZ fun p2 dO=>
   (kept (Addr.add ⟨a,0,none⟩ 2) 1 fZ dO∧
   cS Pr [jU,jU] jU [.slice t29.a t29.n t29.c,.slice (some p2) 1 1] dO fun t39 gH=>
   st (Addr.add ⟨a,0,none⟩ 2) (.slice t39.a t39.n t39.c) gH K))))))):=by
 obtain ⟨T,xp,xk,fq,h,g⟩:=h
 obtain ⟨u0,t1,d1⟩:∃ v s',aY s=(v,s'):=⟨_,_,rfl⟩
 obtain ⟨u1,t2,d2⟩:∃ v s',aY t1=(v,s'):=⟨_,_,rfl⟩
 obtain ⟨u2,t3,d3⟩:∃ v s',cF 300 t2=(v,s'):=⟨_,_,rfl⟩
 have eV:pJ s=(⟨u0,u1,strOf u2⟩,t3):=by
  unfold pJ
  rw [d1]
  show (bZ.mk u0 (aY t1).1 (strOf (cF 300 (aY t1).2).1),_)=_
  rw [d2]
  show (bZ.mk u0 u1 (strOf (cF 300 t2).1),(cF 300 t2).2)=_
  rw [d3]
 rw [eV] at hK
 have hn:T.ten.n=ts.length:=g.ten
 refine h.gS fun x6 sG H uR=>H.ay 3 rfl (an a 2) rfl (H.bO 2 rfl (an p1 0) rfl (H.bO 2 rfl (an p1 0) rfl (H.bO 2 rfl (an p1 0) rfl ?_)))
 refine h.any hB ho d1 fun w9 h9 k9=>⟨k9 1 rfl _ _,k9 1 rfl _ _,k9 2 rfl _ _,?_⟩
 refine h9.any hB ho d2 fun dN Bp LA=>⟨LA 1 rfl _ _,LA 2 rfl _ _,?_⟩
 refine Bp.text hB ho d3 fun fZ Bq V0=>⟨V0 2 rfl _ _,?_⟩
 refine Bq.nw fun q dO Gt k12=>⟨k12 2 rfl _ _,?_⟩
 obtain ⟨mL,AU,H,Bm⟩:=Gt
 refine H.FB 4 9 AD rfl rfl rfl (by intro u hu; simp only [List.mem_cons,List.not_mem_nil,or_false] at hu; rcases hu with rfl | rfl | rfl <;> rfl) (by omega) (by omega) fun y gH H hy=>?_
 refine H.st 3 rfl (an a 2) (show 2<6 by omega) rfl fun kN H=>hK kN ⟨{T with ten:=y},xp,xk,fq,⟨mL,AU,?_,Bm⟩,⟨g.sec,by rw [List.length_append]; show y.n=ts.length+1; omega,g.aE,g.key,g.gr,g.pk,g.kk⟩⟩
 have H2:=H.take 9
 unfold DY
 rw [RV]
 exact H2
theorem kM.per (hB:∀ {w'},Mod S w0 w'→Bytes w' B full) (ho:off [b] B) (h:kM w0 w S b B full s p p1 a ⟨c,sec,ts,ps,ks,gs⟩) (hl:ps.length≤100) {K:World→Prop} (hK:∀ w',kM w0 w' S b B full (pK s).2 p p1 a ⟨c,sec,ts,ps ++ [(pK s).1],ks,gs⟩→K w') :
  ay (Addr.add ⟨a,0,none⟩ 3) w fun t48=>bO (Addr.add ⟨p1,0,none⟩ 0) w fun t49=>bO (Addr.add ⟨p1,0,none⟩ 0) w fun t51=>bO (Addr.add ⟨p1,0,none⟩ 0) w fun t54=>bO (Addr.add ⟨p1,0,none⟩ 0) w fun t57=>bO (Addr.add ⟨p1,0,none⟩ 0) w fun t59=>
   ax Pr fU [.agg ⟨[.pointer t49]⟩] w fun v w1=>aF .i64 v fun t50=>
   (kept ⟨p1,0,none⟩ 1 w w1∧(kept ⟨p1,0,none⟩ 1 w w1∧(kept (Addr.add ⟨p1,0,none⟩ 0) 1 w w1∧(kept ⟨p1,0,none⟩ 1 w w1∧(kept (Addr.add ⟨a,0,none⟩ 3) 1 w w1∧
   ax Pr fU [.agg ⟨[.pointer t51]⟩] w1 fun v w2=>aF .i64 v fun t52=>
   (kept ⟨p1,0,none⟩ 1 w1 w2∧(kept ⟨p1,0,none⟩ 1 w1 w2∧(kept (Addr.add ⟨p1,0,none⟩ 0) 1 w1 w2∧(kept (Addr.add ⟨a,0,none⟩ 3) 1 w1 w2∧
   ax Pr p7 [.pointer t54,.int .i64 1312] w2 fun v w3=>aK v fun t56=>
   (kept ⟨p1,0,none⟩ 1 w2 w3∧(kept ⟨p1,0,none⟩ 1 w2 w3∧(kept (Addr.add ⟨a,0,none⟩ 3) 1 w2 w3∧
   ax Pr fU [.agg ⟨[.pointer t57]⟩] w3 fun v w4=>aF .i64 v fun t58=>
   (kept ⟨p1,0,none⟩ 1 w3 w4∧(kept (Addr.add ⟨a,0,none⟩ 3) 1 w3 w4∧
   ax Pr fU [.agg ⟨[.pointer t59]⟩] w4 fun v w5=>aF .i64 v fun t60=>
   (kept (Addr.add ⟨a,0,none⟩ 3) 1 w4 w5∧
   nw ey [.int .i64 t50,.int .i64 t52,.slice t56.a t56.n t56.c,.int .i64 t58,.int .u64 (IntKind.wrap .u64 t60)] w5 fun p3 w6=>
   (kept (Addr.add ⟨a,0,none⟩ 3) 1 w5 w6∧
   cS Pr [nE,nE] nE [.slice t48.a t48.n t48.c,.slice (some p3) 1 1] w6 fun t64 w7=>
   st (Addr.add ⟨a,0,none⟩ 3) (.slice t64.a t64.n t64.c) w7 K)))))))))))))))):=by
 obtain ⟨T,xp,xk,fq,h,g⟩:=h
 obtain ⟨u0,t1,d1⟩:∃ v s',aY s=(v,s'):=⟨_,_,rfl⟩
 obtain ⟨u1,t2,d2⟩:∃ v s',aY t1=(v,s'):=⟨_,_,rfl⟩
 obtain ⟨u2,t3,d3⟩:∃ v s',cF 1312 t2=(v,s'):=⟨_,_,rfl⟩
 obtain ⟨u3,t4,d4⟩:∃ v s',aY t3=(v,s'):=⟨_,_,rfl⟩
 obtain ⟨u4,t5,d5⟩:∃ v s',aY t4=(v,s'):=⟨_,_,rfl⟩
 have eV:pK s=(⟨u0,u1,u2,u3,BitVec.ofInt 64 u4⟩,t5):=by
  unfold pK
  rw [d1]
  show (cv.mk u0 (aY t1).1 (cF 1312 (aY t1).2).1 _ _,_)=_
  rw [d2]
  show (cv.mk u0 u1 (cF 1312 t2).1 (aY (cF 1312 t2).2).1 _,_)=_
  rw [d3]
  show (cv.mk u0 u1 u2 (aY t3).1 (BitVec.ofInt 64 (aY (aY t3).2).1),(aY (aY t3).2).2)=_
  rw [d4]
  show (cv.mk u0 u1 u2 u3 (BitVec.ofInt 64 (aY t4).1),(aY t4).2)=_
  rw [d5]
 rw [eV] at hK
 have hn:T.aE.n=ps.length:=g.aE
 refine h.gS fun x6 sG H uR=>H.ay 3 rfl (an a 3) rfl (H.bO 2 rfl (an p1 0) rfl (H.bO 2 rfl (an p1 0) rfl (H.bO 2 rfl (an p1 0) rfl (H.bO 2 rfl (an p1 0) rfl (H.bO 2 rfl (an p1 0) rfl ?_)))))
 refine h.any hB ho d1 fun w1 h1 k=>⟨k 1 rfl _ _,k 1 rfl _ _,k 1 rfl _ _,k 1 rfl _ _,k 2 rfl _ _,?_⟩
 refine h1.any hB ho d2 fun w2 h2 k=>⟨k 1 rfl _ _,k 1 rfl _ _,k 1 rfl _ _,k 2 rfl _ _,?_⟩
 refine h2.bytes hB ho d3 fun z w3 h3 tz k=>⟨k 1 rfl _ _,k 1 rfl _ _,k 2 rfl _ _,?_⟩
 refine h3.any hB ho d4 fun w4 h4 k=>⟨k 1 rfl _ _,k 2 rfl _ _,?_⟩
 refine h4.any hB ho d5 fun w5 h5 k=>⟨k 2 rfl _ _,?_⟩
 refine h5.nw fun q w6 h6 k=>⟨k 2 rfl _ _,?_⟩
 obtain ⟨mL,AU,H,Bm⟩:=h6
 rw [XK] at H
 refine H.FB 5 9 Sv rfl rfl rfl ((cv.mk u0 u1 u2 u3 (BitVec.ofInt 64 u4)).jM z) (by omega) (by omega) fun y gH H hy=>?_
 refine H.st 3 rfl (an a 3) (show 3<6 by omega) rfl fun kN H=>hK kN ⟨{T with aE:=y},xp ++ [z],xk,fq,⟨mL,AU,?_,Bm⟩,⟨g.sec,g.ten,by rw [List.length_append]; show y.n=ps.length+1; omega,g.key,g.gr,oY.snoc (l:=(⟨u0,u1,u2,u3,BitVec.ofInt 64 u4⟩:cv)) g.pk tz,g.kk⟩⟩
 have H2:=H.take 9
 unfold DY
 rw [Cz _ _ g.pk.1,E6]
 exact H2
theorem kM.key (hB:∀ {w'},Mod S w0 w'→Bytes w' B full) (ho:off [b] B) (h:kM w0 w S b B full s p p1 a ⟨c,sec,ts,ps,ks,gs⟩) (hl:ks.length≤100) {K:World→Prop} (hK:∀ w',kM w0 w' S b B full (lC s).2 p p1 a ⟨c,sec,ts,ps,ks ++ [(lC s).1],gs⟩→K w') :
  ay (Addr.add ⟨a,0,none⟩ 4) w fun t73=>bO (Addr.add ⟨p1,0,none⟩ 0) w fun t74=>
   ax Pr Eo [.agg ⟨[.pointer t74]⟩] w fun v w1=>Cx v fun a1 a2 a3 a4=>
   (kept (Addr.add ⟨a,0,none⟩ 4) 1 w w1∧
   nw bW [.int .i64 a1,.int .i64 a2,.int .i64 a3,.slice a4.a a4.n a4.c] w1 fun p4 w2=>
   (kept (Addr.add ⟨a,0,none⟩ 4) 1 w1 w2∧
   cS Pr [nH,nH] nH [.slice t73.a t73.n t73.c,.slice (some p4) 1 1] w2 fun t77 w3=>
   st (Addr.add ⟨a,0,none⟩ 4) (.slice t77.a t77.n t77.c) w3 K)):=by
 obtain ⟨T,xp,xk,fq,h,g⟩:=h
 obtain ⟨k,t1,d1⟩:∃ v s',lC s=(v,s'):=⟨_,_,rfl⟩
 rw [d1] at hK
 have hn:T.key.n=ks.length:=g.key
 have Lw:xk.length=ks.length:=g.kk
 refine h.gS fun x6 sG H uR=>H.ay 3 rfl (an a 4) rfl (H.bO 2 rfl (an p1 0) rfl ?_)
 refine h.key hB ho d1 fun z xs w1 h1 tz kp=>⟨kp 2 rfl _ _,?_⟩
 refine h1.nw fun q w6 h6 kp=>⟨kp 2 rfl _ _,?_⟩
 obtain ⟨mL,AU,H,Bm⟩:=h6
 refine H.FB 6 10 Sw rfl rfl rfl (k.jM z) (by omega) (by omega) fun y gH H hy=>?_
 refine H.st 3 rfl (an a 4) (show 4<6 by omega) rfl fun kN H=>?_
 have H:=H.amW 7 9 (Q':=fun w=>br (Bh B full) w (xk ++ [z]) (ks ++ [k])) rfl rfl (by omega) fun w2 h1 h2=>h1.append (ys:=[z]) (ms:=[k]) ⟨rfl,fun i x l hx hl=>by
  cases i with
  | zero=>
   simp only [List.getElem?_cons_zero,Option.some.injEq] at hx hl
   subst hx hl; exact ⟨xs,h2,tz⟩
  | succ j=>simp at hx⟩
 refine hK kN ⟨{T with key:=y},xp,xk ++ [z],fq ++ z.row,⟨mL,AU,?_,Bm⟩,⟨g.sec,g.ten,g.aE,by rw [List.length_append]; show y.n=ks.length+1; omega,g.gr,g.pk,by rw [List.length_append,List.length_append,Lw]; rfl⟩⟩
 have H2:=H.take 9
 unfold DY
 rw [Cz _ _ Lw,E6]
 exact H2
theorem kM.grn (hB:∀ {w'},Mod S w0 w'→Bytes w' B full) (ho:off [b] B) (h:kM w0 w S b B full s p p1 a ⟨c,sec,ts,ps,ks,gs⟩) (hl:gs.length≤100) {K:World→Prop} (hK:∀ w',kM w0 w' S b B full (qB s).2 p p1 a ⟨c,sec,ts,ps,ks,gs ++ [(qB s).1]⟩→K w') :
  ay (Addr.add ⟨a,0,none⟩ 5) w fun t86=>bO (Addr.add ⟨p1,0,none⟩ 0) w fun t87=>bO (Addr.add ⟨p1,0,none⟩ 0) w fun t89=>bO (Addr.add ⟨p1,0,none⟩ 0) w fun t91=>bO (Addr.add ⟨p1,0,none⟩ 0) w fun t93=>bO (Addr.add ⟨p1,0,none⟩ 0) w fun t95=>bO (Addr.add ⟨p1,0,none⟩ 0) w fun t98=>
   ax Pr fU [.agg ⟨[.pointer t87]⟩] w fun v w1=>aF .i64 v fun t88=>
   (kept (Addr.add ⟨p1,0,none⟩ 0) 1 w w1∧(kept ⟨p1,0,none⟩ 1 w w1∧(kept ⟨p1,0,none⟩ 1 w w1∧(kept ⟨p1,0,none⟩ 1 w w1∧(kept ⟨p1,0,none⟩ 1 w w1∧(kept (Addr.add ⟨a,0,none⟩ 5) 1 w w1∧
   ax Pr fU [.agg ⟨[.pointer t89]⟩] w1 fun v w2=>aF .i64 v fun t90=>
   (kept (Addr.add ⟨p1,0,none⟩ 0) 1 w1 w2∧(kept ⟨p1,0,none⟩ 1 w1 w2∧(kept ⟨p1,0,none⟩ 1 w1 w2∧(kept ⟨p1,0,none⟩ 1 w1 w2∧(kept (Addr.add ⟨a,0,none⟩ 5) 1 w1 w2∧
   ax Pr fU [.agg ⟨[.pointer t91]⟩] w2 fun v w3=>aF .i64 v fun t92=>
   (kept (Addr.add ⟨p1,0,none⟩ 0) 1 w2 w3∧(kept ⟨p1,0,none⟩ 1 w2 w3∧(kept ⟨p1,0,none⟩ 1 w2 w3∧(kept (Addr.add ⟨a,0,none⟩ 5) 1 w2 w3∧
   ax Pr fU [.agg ⟨[.pointer t93]⟩] w3 fun v w4=>aF .i64 v fun t94=>
   (kept (Addr.add ⟨p1,0,none⟩ 0) 1 w3 w4∧(kept ⟨p1,0,none⟩ 1 w3 w4∧(kept (Addr.add ⟨a,0,none⟩ 5) 1 w3 w4∧
   ax Pr fU [.agg ⟨[.pointer t95]⟩] w4 fun v w5=>aF .i64 v fun t96=>
   (kept (Addr.add ⟨p1,0,none⟩ 0) 1 w4 w5∧(kept (Addr.add ⟨a,0,none⟩ 5) 1 w4 w5∧
   ax Pr pZ [.pointer t98,.int .i64 0,.int .i64 1] w5 fun v w6=>aF .i64 v fun t99=>
   (kept (Addr.add ⟨a,0,none⟩ 5) 1 w5 w6∧
   nw dJ [.int .i64 t88,.int .i64 t90,.int .i64 t92,.int .i64 t94,.int .i64 t96,.bool (decide (t99=1))] w6 fun p5 w7=>
   (kept (Addr.add ⟨a,0,none⟩ 5) 1 w6 w7∧
   cS Pr [nF,nF] nF [.slice t86.a t86.n t86.c,.slice (some p5) 1 1] w7 fun t103 w8=>
   st (Addr.add ⟨a,0,none⟩ 5) (.slice t103.a t103.n t103.c) w8 K)))))))))))))))))))))):=by
 obtain ⟨T,xp,xk,fq,h,g⟩:=h
 obtain ⟨u0,t1,d1⟩:∃ v s',aY s=(v,s'):=⟨_,_,rfl⟩
 obtain ⟨u1,t2,d2⟩:∃ v s',aY t1=(v,s'):=⟨_,_,rfl⟩
 obtain ⟨u2,t3,d3⟩:∃ v s',aY t2=(v,s'):=⟨_,_,rfl⟩
 obtain ⟨u3,t4,d4⟩:∃ v s',aY t3=(v,s'):=⟨_,_,rfl⟩
 obtain ⟨u4,t5,d5⟩:∃ v s',aY t4=(v,s'):=⟨_,_,rfl⟩
 obtain ⟨u5,t6,d6⟩:∃ v s',cw 0 1 t5=(v,s'):=⟨_,_,rfl⟩
 have eV:qB s=(⟨u0,u1,u2,u3,u4,decide (u5=1)⟩,t6):=by
  unfold qB
  rw [d1]
  show (dY.mk u0 (aY t1).1 (aY (aY t1).2).1 _ _ _,_)=_
  rw [d2]
  show (dY.mk u0 u1 (aY t2).1 (aY (aY t2).2).1 _ _,_)=_
  rw [d3]
  show (dY.mk u0 u1 u2 (aY t3).1 (aY (aY t3).2).1 _,_)=_
  rw [d4]
  show (dY.mk u0 u1 u2 u3 (aY t4).1 (decide ((cw 0 1 (aY t4).2).1=1)),(cw 0 1 (aY t4).2).2)=_
  rw [d5]
  show (dY.mk u0 u1 u2 u3 u4 (decide ((cw 0 1 t5).1=1)),(cw 0 1 t5).2)=_
  rw [d6]
 rw [eV] at hK
 have hn:T.gr.n=gs.length:=g.gr
 refine h.gS fun x6 sG H uR=>H.ay 3 rfl (an a 5) rfl (H.bO 2 rfl (an p1 0) rfl (H.bO 2 rfl (an p1 0) rfl (H.bO 2 rfl (an p1 0) rfl (H.bO 2 rfl (an p1 0) rfl (H.bO 2 rfl (an p1 0) rfl (H.bO 2 rfl (an p1 0) rfl ?_))))))
 refine h.any hB ho d1 fun w1 h1 k=>⟨k 1 rfl _ _,k 1 rfl _ _,k 1 rfl _ _,k 1 rfl _ _,k 1 rfl _ _,k 2 rfl _ _,?_⟩
 refine h1.any hB ho d2 fun w2 h2 k=>⟨k 1 rfl _ _,k 1 rfl _ _,k 1 rfl _ _,k 1 rfl _ _,k 2 rfl _ _,?_⟩
 refine h2.any hB ho d3 fun w3 h3 k=>⟨k 1 rfl _ _,k 1 rfl _ _,k 1 rfl _ _,k 2 rfl _ _,?_⟩
 refine h3.any hB ho d4 fun w4 h4 k=>⟨k 1 rfl _ _,k 1 rfl _ _,k 2 rfl _ _,?_⟩
 refine h4.any hB ho d5 fun w5 h5 k=>⟨k 1 rfl _ _,k 2 rfl _ _,?_⟩
 refine h5.num hB ho d6 fun w6 h6 k=>⟨k 2 rfl _ _,?_⟩
 refine h6.nw fun q w7 h7 k=>⟨k 2 rfl _ _,?_⟩
 obtain ⟨mL,AU,H,Bm⟩:=h7
 refine H.FB 8 9 KB rfl rfl rfl (by intro u hu; simp only [List.mem_cons,List.not_mem_nil,or_false] at hu; rcases hu with rfl | rfl | rfl | rfl | rfl | rfl <;> rfl) (by omega) (by omega) fun y gH H hy=>?_
 refine H.st 3 rfl (an a 5) (show 5<6 by omega) rfl fun kN H=>hK kN ⟨{T with gr:=y},xp,xk,fq,⟨mL,AU,?_,Bm⟩,⟨g.sec,g.ten,g.aE,g.key,by rw [List.length_append]; show y.n=gs.length+1; omega,g.pk,g.kk⟩⟩
 have H2:=H.take 9
 unfold DY
 rw [ajb,show gX [(⟨u0,u1,u2,u3,u4,decide (u5=1)⟩:dY)]=qR u0 u1 u2 u3 u4 (decide (u5=1)) from List.append_nil _]
 exact H2
end
end Go.Proofs.YtpchgbolambkcaaGreatDoor
end
section
set_option linter.unusedVariables false
set_option linter.unusedSimpArgs false
namespace Go.Proofs.YtpchgbolambkcaaGreatDoor
open Go Go.Ev
set_option maxRecDepth 20000
set_option linter.unusedVariables false
set_option maxHeartbeats 1000000
theorem aao {hi:Int} (h:0≤hi) (s:Rs):(cw 0 hi s).1.toNat≤hi.toNat:=by
 have:=yD (lo:=0) (hi:=hi) (by omega) h s
 omega
theorem RH {most:Int} (h:0≤most) (s:Rs):(cF most s).1.length≤most.toNat:=by
 unfold cF
 have h1:=yD (lo:=0) (hi:=most) (by omega) h s
 generalize (cw 0 most s).1=n at *
 generalize (cw 0 most s).2=t
 cases t with
 | none=>show ([]:List B8).length≤_; simp
 | some l=>
  rw [yz]
  split
  ·show ([]:List B8).length≤_; simp
  ·show (l.take n.toNat).length≤_
   rw [List.length_take]; omega
theorem RI {A:Type} (f:Rs→A×Rs):∀ (n:Nat) (s:Rs),∀ x∈(fG f n s).1,∃ s',x=(f s').1
 | 0,s,x,h=>by cases h
 | n+1,s,x,h=>by
  rcases List.mem_append.1 h with h | h
  ·exact RI f n s x h
  ·exact ⟨_,List.mem_singleton.1 h⟩
theorem JI {A:Type} (f:Rs→A×Rs) {most:Int} (h:0≤most) (s:Rs):(lB f most s).1.length≤most.toNat:=by
 unfold lB
 rw [Ax]
 exact aao h s
theorem JJ {A:Type} (f:Rs→A×Rs) (most:Int) (s:Rs):∀ x∈(lB f most s).1,∃ s',x=(f s').1:=RI f _ _
theorem YF (l:List B8):(rB l).1.small where
 sec:=by have:=RH (most:=32) (by omega) (aY (some l)).2; show (cF 32 (aY (some l)).2).1.length≤_; omega
 ten:=by have:=JI pJ (most:=8) (by omega) (cF 32 (aY (some l)).2).2; show (lB pJ 8 (cF 32 (aY (some l)).2).2).1.length≤_; omega
 aE:=by refine Nat.le_trans (JI pK (most:=6) (by omega) _) (by decide)
 key:=by refine Nat.le_trans (JI lC (most:=6) (by omega) _) (by decide)
 gr:=by refine Nat.le_trans (JI qB (most:=8) (by omega) _) (by decide)
 pk:=fun p hp=>by
  obtain ⟨s,rfl⟩:=JJ pK 6 _ p hp
  exact Nat.le_trans (RH (most:=1312) (by omega) _) (by decide)
 lS:=fun k hk=>by
  obtain ⟨s,rfl⟩:=JJ lC 6 _ k hk
  show (fG j0 _ _).1.length≤_
  rw [Ax]
  exact Nat.le_trans (aao (hi:=5) (by omega) _) (by decide)
 bV:=fun k hk v hv=>by
  obtain ⟨s,rfl⟩:=JJ lC 6 _ k hk
  obtain ⟨s',rfl⟩:=RI j0 _ _ v hv
  exact Nat.le_trans (RH (most:=64) (by omega) _) (by decide)
 gf:=fun g hg=>by
  obtain ⟨s,rfl⟩:=JJ qB 8 _ g hg
  exact (yD (by omega) (by omega) _).1
theorem aap {w:World} {B:ah} {full:List B8} {T:cL} {t:aJ} {xp xk:List ah} (hB:Bytes w B full) (g:V1 B full T t xp xk) (h1:Own w 0 cZ 3 T.ten (gM t.bq)) (h2:Own w 0 ey 5 T.aE (bP cv.cs t.aE xp)) (h3:Own w 0 bW 4 T.key (bP ct.cs t.keys xk)) (h4:br (Bh B full) w xk t.keys) (h5:Own w 0 dJ 6 T.gr (gX t.cM)):bN w T t:=
 ⟨g.sec.jQ w hB,fE.of h1.sl,⟨xp,h2.sl,g.pk.elems hB⟩,⟨xk,h3.sl,h4.1,fun i x l hx hl=>(h4.2 i x l hx hl).lS hB⟩,h5.sl⟩
theorem aa4 (w:World):bN w sZ bK:=⟨Bytes.nil w,fE.of (Sl.nil w 3),Dv.nil w,Dv.nil w,Sl.nil w 6⟩
section
variable {w0 w:World} {S:List Nat} {b:Nat} {B:ah} {full:List B8} {s:Rs} {p p1 a:Nat} {t:aJ}
theorem kM.drew (h:kM w0 w S b B full s p p1 a t):kM w0 w.drew S b B full s p p1 a t:=by
 obtain ⟨T,xp,xk,fq,h,g⟩:=h
 exact ⟨T,xp,xk,fq,h.drew,g⟩
theorem kM.lD (hB:∀ {w'},Mod S w0 w'→Bytes w' B full) (ho:off [b] B) (h:kM w0 w S b B full s p p1 a t) {lo hi:Int} {K:Int→World→Prop} (hK:∀ w',kM w0 w' S b B full (cw lo hi s).2 p p1 a t→K (cw lo hi s).1 w') :
  bO (Addr.add ⟨p1,0,none⟩ 0) w fun t24=>ax Pr pZ [.pointer t24,.int .i64 lo,.int .i64 hi] w fun v w'=>aF .i64 v fun t=>K t w':=by
 obtain ⟨T,xp,xk,fq,h,g⟩:=h
 exact h.gS fun x6 sG H uR=>H.bO 2 rfl (an p1 0) rfl (h.num hB ho rfl fun w' h' _=>hK w' ⟨T,xp,xk,fq,h',g⟩)
end
theorem anQ:zc Pr oH=[.pointer none]:=by kernel_rfl
theorem _root_.Go.Ev.U8.tail {F:List Nat} {w:World} {B x:ah} {vs:List Value} {full l:List B8} (hB:Own w 0 aM 1 B vs) (h:jh B full x l) (hn:B.n≤100000000) (hF:∀ b∈B.row,b∈F):U8 aM F w x:=by
 have hc:=h.cap
 have hs:=h.shape
 have hi:=h.within
 obtain ⟨hl,h1 | ⟨g,cap,cur,h1,h2,h3,h4,h5,h6,h7⟩⟩:=hB
 ·obtain ⟨a,n,c⟩:=B
  obtain ⟨h1,h2⟩:=h1
  simp only [ah.v,Value.slice.injEq] at h1
  obtain ⟨rfl,rfl,rfl⟩:=h1
  have h3:=hc (Nat.le_refl _)
  have h4:x.c≤0:=h3.2
  have ha:x.a=none:=by
   cases e:x.a with
   | none=>rfl
   | some b=>
    obtain ⟨b',h5,_⟩:=hi.2 b e
    cases h5
  exact .inl ⟨ha,by omega,by omega⟩
 ·simp only [ah.v,Value.slice.injEq] at h1
  have hy:B.a=some ⟨g,0,none⟩:=h1.1
  have vU:B.c=cap:=h1.2.2
  obtain ⟨k1,⟨k2,k3⟩ | ⟨off,k2,k3⟩⟩:=hs g hy (by omega)
  ·exact .inl ⟨k2,k3,by omega⟩
  ·have hxB:=hi.1
   exact .inr ⟨g,off,cur.toList,hF g (by simp [ah.row,hy]),k2,h3,by omega,k1,by rw [Array.length_toList]; omega⟩
theorem VO.tls {F:List Nat} {w:World} {B z:ah} {us:List Value} {full:List B8} {vs:List cJ} {xs:List ah} (hB:Own w 0 aM 1 B us) (ho:Own w 0 eW 4 z (bP cJ.cs vs xs)) (ht:oY cJ.bV B full xs vs) (hn:B.n≤100000000) (hF:∀ b∈B.row,b∈F) (hz:∀ b∈z.row,b∈F) (hl:vs.length≤1000):VO F w z:=by
 have hso:=ho.sl
 have UE:vs.length=z.n:=by
  have h:=hso.len
  rw [kI cJ.eo _ _ ht.1] at h
  omega
 obtain ⟨hl',h1 | ⟨g,cap,cur,h1,h2,h3,h4,h5,h6,h7⟩⟩:=ho
 ·exact .inl h1.2
 simp only [ah.v,Value.slice.injEq] at h1
 have V2:z.a=some ⟨g,0,none⟩:=h1.1
 refine .inr ⟨g,cur.toList,hz g (by simp [ah.row,V2]),V2,h3,by omega,by rw [Array.length_toList,h6]; have:=Nat.mul_le_mul_right 4 h4; omega,fun k hk=>?_⟩
 have Hj:k<vs.length:=by omega
 have HK:k<xs.length:=by rw [ht.1]; exact Hj
 refine ⟨xs[k],?_,U8.tail hB (ht.2 k _ _ (List.getElem?_eq_getElem HK) (List.getElem?_eq_getElem Hj)) hn hF⟩
 have c2:=Sl.Dp cJ.eo hso (List.getElem?_eq_getElem Hj) (List.getElem?_eq_getElem HK) (j:=3) (v:=(xs[k]).v) rfl
 rw [V2] at c2
 have b2:bQ w g cur.toList eW:=h3
 have c2:w.cell? (Addr.add (Addr.add ⟨g,0,none⟩ (k * 4)) 3)=_:=c2
 rw [add_add,an,b2.cell] at c2
 exact c2
def OvT (w:World) (S:List Nat) (T:cL) (t:aJ):Prop:=∃ (xp xk:List ah) (F:List Nat),xp.length=t.aE.length∧xk.length=t.keys.length∧aq w S w (UW T t xp xk F)
theorem al7 {w:World} {S:List Nat} {B:ah} {full:List B8} {T:cL} {t:aJ} {xp xk:List ah} {fq:List Nat} (g:V1 B full T t xp xk) (hs:t.small) (hn:full.length≤100000000)
  (H:aq w S w [.row cZ 3 T.ten (gM t.bq),.row ey 5 T.aE (bP cv.cs t.aE xp),.row bW 4 T.key (bP ct.cs t.keys xk),.box fq fun w=>br (Bh B full) w xk t.keys,.row dJ 6 T.gr (gX t.cM),.row aM 1 B (aL full)]):OvT w S T t:=by
 have hBn:=Bytes.len (Own.bytes (H.kK 5 rfl))
 have H:=H.merge 3 5 (t:=.box (fq ++ B.row) (oB (fq ++ B.row) T.sec xp xk)) rfl rfl (by decide) (fun a b=>⟨fun c hc=>(List.mem_append.1 hc).elim (a.1 c) (fun hc=>(Own.tP b c hc).2),fun w' h=>?_⟩) (fun b hb=>List.mem_append.1 hb)
 ·exact ⟨xp,xk,fq ++ B.row,g.pk.1,g.kk,H.eu (L':=UW T t xp xk (fq ++ B.row)) [0,4,1,2,3] (by decide) rfl⟩
 have b':Own w' 0 aM 1 B (aL full):=(aB.row aM 1 B (aL full)).iu _ _ (fun c hc=>h c (List.mem_append_right _ hc)) b
 have a':=fun w2 (h2:∀ c∈fq,w2.heap[c]? = w'.heap[c]?)=>a.2 w2 fun c hc=>(h2 c hc).trans (h c (List.mem_append_left _ hc))
 refine ⟨U8.tail b' g.sec (by omega) (fun c hc=>List.mem_append_right _ hc),fun y hy=>?_,fun z hz=>?_⟩
 ·obtain ⟨j,hj,rfl⟩:=List.getElem_of_mem hy
  have uy:j<t.aE.length:=by rw [← g.pk.1]; exact hj
  exact U8.tail b' (g.pk.2 j _ _ (List.getElem?_eq_getElem hj) (List.getElem?_eq_getElem uy)) (by omega) (fun c hc=>List.mem_append_right _ hc)
 ·obtain ⟨j,hj,rfl⟩:=List.getElem_of_mem hz
  have uy:j<t.keys.length:=by rw [← g.kk]; exact hj
  have hv:=fun w2 h2=>(a' w2 h2).2 j _ _ (List.getElem?_eq_getElem hj) (List.getElem?_eq_getElem uy)
  obtain ⟨xs,ho,ht⟩:=hv w' fun _ _=>rfl
  refine VO.tls b' ho ht (by omega) (fun c hc=>List.mem_append_right _ hc) (fun c hc=>List.mem_append_left _ (al4 (w:=w') (e:=eW) (sz:=4) (fun w2 h2=>?_) c hc)) (hs.lS _ (List.getElem_mem uy))
  obtain ⟨xs2,h3,_⟩:=hv w2 h2
  exact ⟨_,h3⟩
structure sH (fp:List Nat) (w:World) (T:cL) (t:aJ):Prop where
 r:bN w T t
 o:OvT w fp T t
theorem SY (w:World):sH [] w sZ bK:=by
 refine ⟨aa4 w,[],[],[],rfl,rfl,?_⟩
 have H:=((((aq.start w).jC cZ 3).jC dJ 6).jC ey 5).jC bW 4
 exact H.push (r:=.box [] (oB [] ⟨none,0,0⟩ [] [])) (Mod.refl [] w) ⟨fun c hc=>(by cases hc),fun w' _=>⟨.inl ⟨rfl,rfl,rfl⟩,fun x hx=>(by cases hx),fun x hx=>(by cases hx)⟩⟩ (fun c hc=>(by cases hc))
theorem _root_.Go.Ev.aq.am0 {w0 w:World} {S:List Nat} {L:List aB} {Q:List Nat→World→Prop} (H:aq w0 S w L) (hQ:∀ w',aq w' (L.flatMap (·.fp)) w' L→Q (L.flatMap (·.fp)) w'):∃ fp,aq w0 S w [.box fp (Q fp)]:=by
 have from_:∀ b∈L.flatMap (·.fp),∃ (j:Nat) (s:aB),L[j]? = some s∧b∈s.fp:=fun b hb=>by
  obtain ⟨s,hs,kY⟩:=List.mem_flatMap.1 hb
  obtain ⟨j,hj⟩:=List.getElem?_of_mem hs
  exact ⟨j,s,hj,kY⟩
 have one:∀ {k:Nat} {r:aB},[aB.box (L.flatMap (·.fp)) (Q (L.flatMap (·.fp)))][k]? = some r→k=0∧r=aB.box (L.flatMap (·.fp)) (Q (L.flatMap (·.fp))):=fun {k r} h=>by
  cases k with
  | zero=>exact ⟨rfl,(Option.some.inj h).symm⟩
  | succ k=>simp at h
 refine ⟨L.flatMap (·.fp),H.mod,fun k r h=>?_,fun k r h b hb=>?_,fun j k r s j6 h1 h2=>?_⟩
 ·obtain ⟨_,rfl⟩:=one h
  refine ⟨fun b hb=>?_,fun w' h=>hQ w' ⟨Mod.refl _ _,fun k r hk=>?_,fun k r hk b hb=>.inl (List.mem_flatMap.2 ⟨r,List.mem_of_getElem? hk,hb⟩),H.apart⟩⟩
  ·obtain ⟨j,s,hj,kY⟩:=from_ b hb
   exact s.lt w (H.ok j s hj) b kY
  ·exact r.iu w w' (fun b hb=>h b (List.mem_flatMap.2 ⟨r,List.mem_of_getElem? hk,hb⟩)) (H.ok k r hk)
 ·obtain ⟨_,rfl⟩:=one h
  obtain ⟨j,s,hj,kY⟩:=from_ b hb
  exact H.own j s hj b kY
 ·exact absurd ((one h1).1.trans (one h2).1.symm) j6
def am1 (w w':World) (v:Value) (t:aJ) (c:Int):Prop:=∃ (T:cL) (er:Value) (fp:List Nat),v=.tuple ⟨[.agg ⟨t.cs T⟩,er]⟩∧aq w [] w' [.box fp fun w=>sH fp w T t,aB.err er c]
theorem ahY (x:ah) (l:List B8) (hl:l.length≤100000) (w:World) (hx:Bytes w x l):Ok Pr Pk [.slice x.a x.n x.c] w fun v w'=>am1 w w' v (oZ l) (mw l):=by
 refine agS ?_
 unfold P0
 rw [lV,anQ]
 refine (aq.start w).nw fun p w1 H _=>aC (X8 x l (by omega) _ (hx.aI H.mod)) ?_
 rintro _ w2 ⟨b,B,rfl,hB,hR,kW,hd,m⟩
 have H:=H.abz m (r:=.row aM 1 B (aL l)) (s:=.av b [B.v,.bool false] gh) (hB.Dq (Nat.zero_le _)) hR (fun c hc=>(hB.tP c hc).1) (fun c hc=>by rw [List.mem_singleton.1 hc]; exact kW) (fun c hc uz=>hd (by rw [← List.mem_singleton.1 uz]; exact hc))
 refine yR (H.nw fun p1 w3 H _=>H.st 3 rfl (an p1 0) (show 0<1 by omega) rfl fun w4 H=>?_)
 have G:aq w [] w4 ([.av b [B.v,.bool false] gh,.av p (bK.cs sZ) aA,.av p1 [.pointer (some ⟨b,0,none⟩)] oH] ++ [.row aM 1 B (aL l)]):=
  H.eu (L':=[.av b [B.v,.bool false] gh,.av p (bK.cs sZ) aA,.av p1 [.pointer (some ⟨b,0,none⟩)] oH,.row aM 1 B (aL l)]) [2,0,3,1] (by decide) rfl
 clear H
 have D:=G.sub
 have back:∀ {w':World} {L':List aB},aq w4 (([.av b [B.v,.bool false] gh,.av p (bK.cs sZ) aA,.av p1 [.pointer (some ⟨b,0,none⟩)] oH]:List aB).flatMap (·.fp)) w' L'→aq w [] w' (L' ++ [.row aM 1 B (aL l)]):=fun K=>G.back K
 have hS:off (([.av b [B.v,.bool false] gh,.av p (bK.cs sZ) aA,.av p1 [.pointer (some ⟨b,0,none⟩)] oH]:List aB).flatMap (·.fp)) B:=by
  intro h0 c hc dM
  obtain ⟨r,hr,hb⟩:=List.mem_flatMap.1 dM
  obtain ⟨k,hk⟩:=List.getElem?_of_mem hr
  have UU:k<3:=(List.getElem?_eq_some_iff.1 hk).1
  have jL:c.block∈B.row:=by unfold ah.row; rw [hc]; show c.block∈[c.block]; simp
  exact G.apart k 3 r _ (by omega) (by rw [List.getElem?_append_left UU]; exact hk) rfl c.block hb jL
 have ho:off [b] B:=hS.mono (fun c hc=>by rw [List.mem_singleton.1 hc]; exact List.mem_flatMap.2 ⟨_,List.mem_cons_self,by simp [aB.av]⟩)
 have V3:Bytes w4 B l:=G.bytes 3 rfl
 generalize hSS:(([.av b [B.v,.bool false] gh,.av p (bK.cs sZ) aA,.av p1 [.pointer (some ⟨b,0,none⟩)] oH]:List aB).flatMap (·.fp))=S at *
 have hB:∀ {w'},Mod S w4 w'→Bytes w' B l:=fun m=>V3.mod m hS
 refine aC (Xy 1 w4) ?_
 rintro _ w5 ⟨rfl,m5⟩
 have D:=D.frame m5
 have h5:RT w4 w5.drew S b B l (some l) [.av p (bK.cs sZ) aA,.av p1 [.pointer (some ⟨b,0,none⟩)] oH]:=⟨B,false,D.drew,rfl,jh.self B l⟩
 refine ⟨_,rfl,_,rfl,_,rfl,_,rfl,rfl,gm fun go bX=>?_⟩
 have body:∀ a w6,kM w4 w6 S b B l (cF 32 (aY (some l)).2).2 p p1 a ⟨(aY (some l)).1,(cF 32 (aY (some l)).2).1,[],[],[],[]⟩→go ⟨a,0,none⟩ w6:=by
  intro a w6 h
  refine bX _ w6 (h.lD hB ho fun w7 h=>?_)
  have n1:=yD (lo:=0) (hi:=8) (by omega) (by omega) (cF 32 (aY (some l)).2).2
  obtain ⟨N,hN⟩:∃ N:Nat,(cw 0 8 (cF 32 (aY (some l)).2).2).1=(N:Int):=⟨_,(Int.toNat_of_nonneg n1.1).symm⟩
  have eL:lB pJ 8 (cF 32 (aY (some l)).2).2=fG pJ N (cw 0 8 (cF 32 (aY (some l)).2).2).2:=by unfold lB; rw [hN]; rfl
  rw [hN] at n1 ⊢
  refine ep 0 N (fun i w'=>kM w4 w' S b B l (fG pJ i (cw 0 8 (cF 32 (aY (some l)).2).2).2).2 p p1 a ⟨(aY (some l)).1,(cF 32 (aY (some l)).2).1,(fG pJ i (cw 0 8 (cF 32 (aY (some l)).2).2).2).1,[],[],[]⟩) rfl (by omega) h ?_ ?_
  ·intro again i w8 _ hi h aR
   refine ite_true (decide_eq_true (by omega)) (h.drew.ten hB ho (by rw [Ax]; omega) fun w' h'=>?_)
   rw [wrap_i64 (by omega) (by omega)]
   exact aR w' h'
  intro again w8 h
  rw [← eL] at h
  refine ite_false (decide_eq_false (by omega)) (h.lD hB ho fun w9 h=>?_)
  generalize V4:(lB pJ 8 (cF 32 (aY (some l)).2).2)=ts at h ⊢
  have n1:=yD (lo:=0) (hi:=6) (by omega) (by omega) ts.2
  obtain ⟨N,hN⟩:∃ N:Nat,(cw 0 6 ts.2).1=(N:Int):=⟨_,(Int.toNat_of_nonneg n1.1).symm⟩
  have eL:lB pK 6 ts.2=fG pK N (cw 0 6 ts.2).2:=by unfold lB; rw [hN]; rfl
  rw [hN] at n1 ⊢
  refine ep 0 N (fun i w'=>kM w4 w' S b B l (fG pK i (cw 0 6 ts.2).2).2 p p1 a ⟨(aY (some l)).1,(cF 32 (aY (some l)).2).1,ts.1,(fG pK i (cw 0 6 ts.2).2).1,[],[]⟩) rfl (by omega) h ?_ ?_
  ·intro again i w8 _ hi h aR
   refine ite_true (decide_eq_true (by omega)) (h.drew.per hB ho (by rw [Ax]; omega) fun w' h'=>?_)
   rw [wrap_i64 (by omega) (by omega)]
   exact aR w' h'
  intro again w8 h
  rw [← eL] at h
  refine ite_false (decide_eq_false (by omega)) (h.lD hB ho fun w9 h=>?_)
  generalize rI:lB pK 6 ts.2=ps at h ⊢
  have n1:=yD (lo:=0) (hi:=6) (by omega) (by omega) ps.2
  obtain ⟨N,hN⟩:∃ N:Nat,(cw 0 6 ps.2).1=(N:Int):=⟨_,(Int.toNat_of_nonneg n1.1).symm⟩
  have eL:lB lC 6 ps.2=fG lC N (cw 0 6 ps.2).2:=by unfold lB; rw [hN]; rfl
  rw [hN] at n1 ⊢
  refine ep 0 N (fun i w'=>kM w4 w' S b B l (fG lC i (cw 0 6 ps.2).2).2 p p1 a ⟨(aY (some l)).1,(cF 32 (aY (some l)).2).1,ts.1,ps.1,(fG lC i (cw 0 6 ps.2).2).1,[]⟩) rfl (by omega) h ?_ ?_
  ·intro again i w8 _ hi h aR
   refine ite_true (decide_eq_true (by omega)) (h.drew.key hB ho (by rw [Ax]; omega) fun w' h'=>?_)
   rw [wrap_i64 (by omega) (by omega)]
   exact aR w' h'
  intro again w8 h
  rw [← eL] at h
  refine ite_false (decide_eq_false (by omega)) (h.lD hB ho fun w9 h=>?_)
  generalize hks:lB lC 6 ps.2=ks at h ⊢
  have n1:=yD (lo:=0) (hi:=8) (by omega) (by omega) ks.2
  obtain ⟨N,hN⟩:∃ N:Nat,(cw 0 8 ks.2).1=(N:Int):=⟨_,(Int.toNat_of_nonneg n1.1).symm⟩
  have eL:lB qB 8 ks.2=fG qB N (cw 0 8 ks.2).2:=by unfold lB; rw [hN]; rfl
  rw [hN] at n1 ⊢
  refine ep 0 N (fun i w'=>kM w4 w' S b B l (fG qB i (cw 0 8 ks.2).2).2 p p1 a ⟨(aY (some l)).1,(cF 32 (aY (some l)).2).1,ts.1,ps.1,ks.1,(fG qB i (cw 0 8 ks.2).2).1⟩) rfl (by omega) h ?_ ?_
  ·intro again i w8 _ hi h aR
   refine ite_true (decide_eq_true (by omega)) (h.drew.grn hB ho (by rw [Ax]; omega) fun w' h'=>?_)
   rw [wrap_i64 (by omega) (by omega)]
   exact aR w' h'
  intro again w8 h
  rw [← eL] at h
  refine ite_false (decide_eq_false (by omega)) ?_
  subst hks rI V4
  have h:kM w4 w8 S b B l (rB l).2 p p1 a (rB l).1:=h
  have nu:=YF l
  have hC:mw l=if (fP (rB l).2 && dh (rB l).1)=true then 0 else 4:=rfl
  have hT:oZ l=if mw l=0 then (rB l).1 else bK:=rfl
  obtain ⟨T,xp,xk,fq,⟨x8,KW,H,hs8⟩,g⟩:=h
  generalize (rB l).1=t at *
  generalize (rB l).2=s at *
  generalize mw l=C at *
  generalize oZ l=V at *
  refine gm fun go2 ku=>H.bO 2 rfl (an p1 0) rfl (aC (WI b B l x8 KW s w8 (H.av 0 rfl) hs8 (hB H.mod)) ?_)
  rintro er w9 ⟨he,m9⟩
  have H:=H.frame m9
  have bad:∀ {dN:World} {L:List aB},aq w4 S dN (.av b [x8.v,.bool KW] gh :: DY p p1 a b T t xp xk fq B l)→(fP s && dh t)=false→go2 true dN:=by
   intro dN L H aoJ
   rw [aoJ] at hC
   have hC:C=4:=hC
   rw [hC,if_neg (by decide)] at hT
   subst hT hC
   refine ku true dN (ite_true rfl (aC (W5 4 (by omega) dN) ?_))
   rintro e2 fZ ⟨l9,HL⟩
   have K:=H.jY HL l9
   refine K.aV 1 rfl rfl fun dO K=>K.aG 1 rfl ?_
   have K:=back (K.only 9 rfl)
   have K:=K.only 0 rfl
   have K:=K.push (r:=.box [] fun w=>sH [] w sZ bK) (Mod.refl [] dO) ⟨fun c hc=>(by cases hc),fun w' _=>SY w'⟩ (fun c hc=>(by cases hc))
   exact ⟨sZ,e2,[],rfl,K.two 1 0 rfl rfl (by decide)⟩
  refine he.1.isNil (H.aG 3 rfl ?_)
  cases qC:fP s with
  | false=>
   refine ite_true rfl (bad (L:=[]) H (by rw [qC]; rfl))
  | true=>
   have hR:bN w9 T t:=aap (hB H.mod) g (H.kK 4 rfl) (H.kK 5 rfl) (H.kK 6 rfl) (H.box 7 rfl) (H.kK 8 rfl)
   refine ite_false rfl (aC (PR T t nu w9 hR) ?_)
   rintro _ dN ⟨rfl,xP⟩
   have H:=H.frame xP
   refine bh ?_
   cases uo:dh t with
   | false=>exact bad (L:=[]) H (by rw [qC,uo]; rfl)
   | true=>
    rw [qC,uo] at hC
    have hC:C=0:=hC
    rw [hC,if_pos rfl] at hT
    subst hT hC
    refine ku false dN (ite_false rfl (H.aG 3 rfl (H.aV 1 rfl rfl fun dO H=>H.aG 1 rfl ?_)))
    have K:=back H
    obtain ⟨fp,Z⟩:=K.am0 (Q:=fun fp w=>sH fp w T V) fun w' k=>⟨aap (Own.bytes (k.kK 9 rfl)) g (k.kK 4 rfl) (k.kK 5 rfl) (k.kK 6 rfl) (k.box 7 rfl) (k.kK 8 rfl),al7 g nu (by omega) (k.drop 4)⟩
    exact ⟨T,.nilIface,fp,rfl,Z.jY (Mod.refl _ _) (q8 _ _)⟩
 have last:∀ a w6 y,RT w4 w6 S b B l (cF 32 (aY (some l)).2).2 [.av p (bK.cs sZ) aA,.av p1 [.pointer (some ⟨b,0,none⟩)] oH,.av a (bK.cs sZ) aA]→jh B l y (cF 32 (aY (some l)).2).1→aV ⟨a,0,none⟩ (aY (some l)).1 y ⟨none,0,0⟩ ⟨none,0,0⟩ ⟨none,0,0⟩ ⟨none,0,0⟩ w6 (fun w7=>go ⟨a,0,none⟩ w7):=by
  rintro a w6 y ⟨x6,sG,H,uR⟩ ty
  refine H.aV 3 rfl rfl fun w7 H=>body a w7 ⟨⟨y,⟨none,0,0⟩,⟨none,0,0⟩,⟨none,0,0⟩,⟨none,0,0⟩⟩,[],[],[],⟨x6,sG,?_,uR⟩,⟨ty,rfl,rfl,rfl,rfl,oY.nil _ _ _,rfl⟩⟩
  have K:=((H.jC cZ 3).jC ey 5).jC bW 4
  have K:=K.push (r:=.box [] fun w=>br (Bh B l) w [] []) (Mod.refl [] w7) ⟨fun c hc=>(by cases hc),fun w' _=>⟨rfl,fun i x k h=>(by simp at h)⟩⟩ (fun c hc=>(by cases hc))
  exact K.jC dJ 6
 refine h5.gS fun x5 acg H xL=>H.bO 2 rfl (an p1 0) rfl (H.bO 2 rfl (an p1 0) rfl ?_)
 refine And.intro ?_ ?_
 ·refine h5.any hB ho rfl fun w6 h6 k=>⟨k 1 rfl _ _,?_⟩
  refine And.intro ?_ ?_
  ·exact h6.bytes hB ho rfl fun y w7 h7 ty k=>h7.nw fun a w8 h8 k=>⟨k 1 rfl _ _,k 1 rfl _ _,last a w8 y h8 ty⟩
  ·exact h6.nw fun a w7 h7 k=>⟨k 1 rfl _ _,k 1 rfl _ _,h7.bytes hB ho rfl fun y w8 h8 ty k=>last a w8 y h8 ty⟩
 ·exact h5.nw fun a w6 h6 k=>⟨k 1 rfl _ _,k 1 rfl _ _,h6.any hB ho rfl fun w7 h7 k=>⟨k 1 rfl _ _,h7.bytes hB ho rfl fun y w8 h8 ty k=>last a w8 y h8 ty⟩⟩
end Go.Proofs.YtpchgbolambkcaaGreatDoor
end
section
set_option linter.unusedVariables false
set_option linter.unusedSimpArgs false
namespace Go.Proofs.YtpchgbolambkcaaGreatDoor
open Go Go.Ev
set_option maxRecDepth 20000
set_option linter.unusedVariables false
theorem am2:∀ n∈[1,2,4,8,16,32,64,128],∀ b:Fin 128,b.val<128 / n→(zt (128 / n+b.val) * zt (256 / n - 1 - b.val)) % 8380417=(-1) % 8380417:=by decide +kernel
theorem zz {n b:Nat} (hn:n∈[1,2,4,8,16,32,64,128]) (hb:b<128 / n):Cg (zt (128 / n+b) * zt (256 / n - 1 - b)) (-1):=by
 have asW:128 / n≤128:=Nat.div_le_self _ _
 exact am2 n hn ⟨b,by omega⟩ hb
end Go.Proofs.YtpchgbolambkcaaGreatDoor
end
section
set_option linter.unusedVariables false
set_option linter.unusedSimpArgs false
namespace Go.Proofs.YtpchgbolambkcaaGreatDoor
open Go Go.Ev
set_option maxRecDepth 20000
set_option linter.unusedVariables false
def ev (f:Nat→Int) (o:Nat) (x:Int):Nat→Int
 | 0=>0
 | n+1=>ev f o x n+f (o+n) * x ^ n
def zn (m:Nat):Nat:=1753 ^ brv m % 8380417
def rn (n c:Nat):Nat:=if c % 2=0 then zn (128 / n+c / 2) else 8380417 - zn (128 / n+c / 2)
@[irreducible] def root (i:Nat):Int:=(rn 1 i:Int)
def jM (b:Nat→Int):Nat→Nat
 | 0=>0
 | m+1=>jM b m+(if b (255 - m)=0 then 0 else 1)
end Go.Proofs.YtpchgbolambkcaaGreatDoor
end
section
set_option linter.unusedVariables false
set_option linter.unusedSimpArgs false
namespace Go.Proofs.YtpchgbolambkcaaGreatDoor
open Go Go.Ev
set_option maxRecDepth 20000
set_option linter.unusedVariables false
theorem abJ (x:bw):∀ k,k≤8→wd ((List.range k).map fun k=>(x >>> (56 - 8 * k)).setWidth 8)=x >>> (64 - 8 * k)
 | 0,_=>by
  show (0:bw)=_
  apply BitVec.eq_of_toNat_eq
  have:=x.isLt
  simp [BitVec.toNat_ushiftRight,Nat.shiftRight_eq_div_pow]
  omega
 | k+1,h=>by
  rw [List.range_succ,List.map_append,List.map_cons,List.map_nil,RF,abJ x k (by omega)]
  apply BitVec.eq_of_getLsbD_eq
  intro i hi
  simp only [BitVec.getLsbD_or,BitVec.getLsbD_shiftLeft,BitVec.getLsbD_setWidth,BitVec.getLsbD_ushiftRight,hi,decide_true,Bool.true_and]
  by_cases h8:i<8
  ·simp [h8,show 64 - 8 * (k+1)=56 - 8 * k by omega]
  ·simp [h8,show 64 - 8 * k+(i - 8)=64 - 8 * (k+1)+i by omega]
theorem JU {n:Int} (h:-9223372036854775808≤n∧n≤9223372036854775807):numOf (be n)=n:=by
 unfold numOf
 have:wd (be n)=BitVec.ofInt 64 n:=by
  have:=abJ (BitVec.ofInt 64 n) 8 (Nat.le_refl _)
  simpa [be] using this
 rw [this,BitVec.toNat_ofInt,show ((2 ^ 64:Nat):Int)=18446744073709551616 from rfl]
 have h0:=Int.emod_nonneg n (show (18446744073709551616:Int)≠0 by decide)
 rw [Int.toNat_of_nonneg h0]
 have e:IntKind.wrap .i64 (n % 18446744073709551616)=if n % 18446744073709551616 % 18446744073709551616 ≥ 9223372036854775808 then n % 18446744073709551616 % 18446744073709551616 - 18446744073709551616 else n % 18446744073709551616 % 18446744073709551616:=by
  simp [IntKind.wrap,IntKind.signed,IntKind.bits]
 rw [e]
 split <;> omega
theorem Kf {lo hi n:Int} (h:lo≤n∧n≤hi) (hn:-9223372036854775808≤n∧n≤9223372036854775807) (r:List B8):cw lo hi (some (be n ++ r))=(n,some r):=by
 have e:(be n ++ r).take 8=be n:=List.take_left' (pE n)
 have e2:(be n ++ r).drop 8=r:=List.drop_left' (pE n)
 rw [Aw,if_neg (by rw [List.length_append,pE]; omega),e,e2,JU hn,if_neg (by omega)]
theorem tA {m:Int} {p:List B8} (h:(p.length:Int)≤m) (hp:p.length≤1000000) (r:List B8):cF m (some (laid p ++ r))=(p,some r):=by
 unfold cF laid
 rw [List.append_assoc,Kf (by omega) (by omega),yz,if_neg (by rw [List.length_append]; omega)]
 simp
end Go.Proofs.YtpchgbolambkcaaGreatDoor
end
