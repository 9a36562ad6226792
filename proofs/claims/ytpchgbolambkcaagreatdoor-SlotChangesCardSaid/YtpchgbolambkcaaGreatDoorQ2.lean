/- Texts of this claim, packed and shortened. -/
import Derived.Test.YtpchgbolambkcaaGreatDoorRows
import Derived.Test.YtpchgbolambkcaaGreatDoorCards
import Derived.Test.YtpchgbolambkcaaGreatDoorTie
import Derived.LaidLaws
import Derived.LaidHandle
import Derived.JoinedCond
import Derived.ChangeSlices
import Derived.Deep.Matrix
import Derived.Deep.AppendSrc
import Derived.Lib.AppendZerosOnto
import Derived.Laws.IdiomStrings
import Derived.Laws.BytesString
import Derived.KernelRfl
import Derived.RangeFuncIn
import Derived.Orders
import Derived.ControlIn
import Derived.RangeFuncLeaves
import Derived.RangeFuncSeq
import Derived.TacticsIn
import Derived.Test.YtpchgbolambkcaaGreatDoorQ1
import Derived.Test.YtpchgbolambkcaaGreatDoorAErrCode
import Derived.Test.YtpchgbolambkcaaGreatDoorAErrIs
section
set_option linter.unusedVariables false
set_option linter.unusedSimpArgs false
namespace Go.Ev
open Go Go.RowKit
variable {P:Program}
structure aB where
 fp:List Nat
 ok:World→Prop
 iu:∀ w w':World,(∀ b∈fp,w'.heap[b]? = w.heap[b]?)→ok w→ok w'
 lt:∀ w,ok w→∀ b∈fp,b<w.heap.size
def aB.av (b:Nat) (cs:List Value) (t:TypeId):aB where
 fp:=[b]
 ok w:=bQ w b cs t
 iu w w' h k:=(h b (by simp)).trans k
 lt w h c hc:=by simp only [List.mem_singleton] at hc; subst hc; exact bQ.lt h
def aB.row (e:TypeId) (sz:Nat) (s:ah) (vs:List Value):aB where
 fp:=s.row
 ok w:=Own w 0 e sz s vs
 iu w w' h k:=by
  obtain ⟨a,n,c⟩:=s
  obtain ⟨hl,h1 | ⟨g,cap,cur,h1,h2,h3,h4⟩⟩:=k
  ·exact ⟨hl,.inl h1⟩
  ·refine ⟨hl,.inr ⟨g,cap,cur,h1,h2,?_,h4⟩⟩
   simp only [ah.v,Value.slice.injEq] at h1
   rw [h g (by simp [ah.row,h1.1])]
   exact h3
 lt w h b hb:=(Own.tP h b hb).2
structure aq (w0:World) (S:List Nat) (w:World) (L:List aB):Prop where
 mod:Mod S w0 w
 ok:∀ (k:Nat) (r:aB),L[k]? = some r→r.ok w
 own:∀ (k:Nat) (r:aB),L[k]? = some r→∀ b∈r.fp,b∈S∨w0.heap.size≤b
 apart:∀ (j k:Nat) (r s:aB),j≠k→L[j]? = some r→L[k]? = some s→∀ b∈r.fp,b∉s.fp
section
variable {w0 w w':World} {S:List Nat} {L:List aB} {r r':aB} {k:Nat}
theorem aq.start (w:World):aq w [] w []:=⟨Mod.refl _ _,fun k r h=>by simp at h,fun k r h=>by simp at h,fun j k r s _ h=>by simp at h⟩
theorem aq.tR {r:aB} {w:World} (h:r.ok w):aq w r.fp w [r]:=by
 have e:∀ {k:Nat} {s:aB},[r][k]? = some s→k=0∧s=r:=fun {k s} h=>by
  cases k with
  | zero=>simp at h; exact ⟨rfl,h.symm⟩
  | succ k=>simp at h
 refine ⟨Mod.refl _ _,fun k s hs=>?_,fun k s hs b hb=>?_,fun j k s t j6 hs ht=>?_⟩
 ·rw [(e hs).2]; exact h
 ·rw [(e hs).2] at hb; exact .inl hb
 ·exact absurd ((e hs).1.trans (e ht).1.symm) j6
theorem aq.get (H:aq w0 S w L) (k:Nat) {r:aB} (hk:L[k]? = some r):r.ok w:=H.ok k r hk
theorem aq.frame (H:aq w0 S w L) (m:Mod [] w w'):aq w0 S w' L:=
 ⟨H.mod.then m,fun k r hk=>r.iu w w' (fun b hb=>m.block b (r.lt w (H.ok k r hk) b hb) (by simp)) (H.ok k r hk),H.own,H.apart⟩
theorem aq.push (H:aq w0 S w L) (m:Mod [] w w') (hr:r.ok w') (hf:∀ b∈r.fp,w.heap.size≤b):aq w0 S w' (L ++ [r]):=by
 have H':=H.frame m
 have e:∀ {k:Nat} {s:aB},(L ++ [r])[k]? = some s→(L[k]? = some s∧k<L.length)∨(s=r∧k=L.length):=fun {k s} h=>by
  rcases Nat.lt_or_ge k L.length with hk | hk
  ·rw [List.getElem?_append_left hk] at h; exact .inl ⟨h,hk⟩
  ·rw [List.getElem?_append_right hk] at h
   rcases Nat.eq_zero_or_pos (k - L.length) with e | e
   ·rw [e] at h; simp at h; exact .inr ⟨h.symm,by omega⟩
   ·rw [List.getElem?_eq_none (by simp; omega)] at h; cases h
 refine ⟨H'.mod,fun k s hs=>?_,fun k s hs b hb=>?_,fun j k s t j6 hs ht b hb j4=>?_⟩
 ·rcases e hs with ⟨h,_⟩ | ⟨rfl,_⟩
  ·exact H'.ok k s h
  ·exact hr
 ·rcases e hs with ⟨h,_⟩ | ⟨rfl,_⟩
  ·exact H.own k s h b hb
  ·exact .inr (Nat.le_trans H.mod.size (hf b hb))
 ·rcases e hs with ⟨h,hj⟩ | ⟨rfl,hj⟩
  ·rcases e ht with ⟨h',_⟩ | ⟨rfl,_⟩
   ·exact H.apart j k s t j6 h h' b hb j4
   ·have:=s.lt w (H.ok j s h) b hb
    have:=hf b j4
    omega
  ·rcases e ht with ⟨h',_⟩ | ⟨rfl,hk⟩
   ·have:=t.lt w (H.ok k t h') b j4
    have:=hf b hb
    omega
   ·omega
theorem aq.nr {T:List Nat} (H:aq w0 S w L) (k:Nat) {r r':aB} (hk:L[k]? = some r) (m:Mod T w w') (hT:∀ b∈T,b∈r.fp∨w.heap.size≤b) (hr:r'.ok w') (hf:∀ b∈r'.fp,b∈r.fp∨w.heap.size≤b) :
  aq w0 S w' (L.set k r'):=by
 have bR:k<L.length:=(List.getElem?_eq_some_iff.1 hk).1
 have e:∀ {j:Nat} {s:aB},(L.set k r')[j]? = some s→(L[j]? = some s∧j≠k)∨(s=r'∧j=k):=fun {j s} h=>by
  rw [List.getElem?_set] at h
  split at h
  ·rename_i e
   subst e
   exact .inr ⟨(Option.some.inj h).symm,rfl⟩
  ·rename_i hn; exact .inl ⟨h,fun e=>hn e.symm⟩
 refine ⟨H.mod.trans' m fun b hb=>?_,fun j s hs=>?_,fun j s hs b hb=>?_,fun i j s t GJ hs ht b hb j4=>?_⟩
 ·rcases hT b hb with h | h
  ·exact H.own k r hk b h
  ·exact .inr (Nat.le_trans H.mod.size h)
 ·rcases e hs with ⟨h,hj⟩ | ⟨rfl,_⟩
  ·refine s.iu w w' (fun b hb=>m.block b (s.lt w (H.ok j s h) b hb) fun hbT=>?_) (H.ok j s h)
   rcases hT b hbT with h1 | h1
   ·exact H.apart j k s r hj h hk b hb h1
   ·have:=s.lt w (H.ok j s h) b hb; omega
  ·exact hr
 ·rcases e hs with ⟨h,_⟩ | ⟨rfl,_⟩
  ·exact H.own j s h b hb
  ·rcases hf b hb with h1 | h1
   ·exact H.own k r hk b h1
   ·exact .inr (Nat.le_trans H.mod.size h1)
 ·have old:∀ {j:Nat} {s:aB} {b:Nat},L[j]? = some s→j≠k→b∈s.fp→b∉r'.fp:=fun {j s b} h hj hb j4=>by
   rcases hf b j4 with h1 | h1
   ·exact H.apart j k s r hj h hk b hb h1
   ·have:=s.lt w (H.ok j s h) b hb; omega
  rcases e hs with ⟨h,hi⟩ | ⟨rfl,hi⟩
  ·rcases e ht with ⟨h',_⟩ | ⟨rfl,_⟩
   ·exact H.apart i j s t GJ h h' b hb j4
   ·exact old h hi hb j4
  ·rcases e ht with ⟨h',hj⟩ | ⟨rfl,hj⟩
   ·exact old h' hj j4 hb
   ·omega
theorem aq.take (H:aq w0 S w L) (n:Nat):aq w0 S w (L.take n):=by
 have e:∀ {k:Nat} {s:aB},(L.take n)[k]? = some s→L[k]? = some s:=fun {k s} h=>by
  rw [List.getElem?_take] at h
  split at h
  ·exact h
  ·cases h
 exact ⟨H.mod,fun k s hs=>H.ok k s (e hs),fun k s hs=>H.own k s (e hs),fun j k s t j6 hs ht=>H.apart j k s t j6 (e hs) (e ht)⟩
theorem aq.drew (H:aq w0 S w L):aq w0 S w.drew L:=H.frame (Mod.drew _ _)
end
section
variable {w0 w:World} {S:List Nat} {L:List aB}
theorem aq.nw (H:aq w0 S w L) {t:TypeId} {cs:List Value} {K:Addr→World→Prop} (h:∀ b w',aq w0 S w' (L ++ [.av b cs t])→w0.heap.size≤b→K ⟨b,0,none⟩ w'):nw t cs w K:=
 oL fun b w' hb h1 h2 _=>h b w' (H.push h2 h1 (by simp [aB.av,hb])) (hb ▸ H.mod.size)
theorem aq.av (H:aq w0 S w L) (k:Nat) {b:Nat} {cs:List Value} {t:TypeId} (hk:L[k]? = some (.av b cs t)):bQ w b cs t:=H.ok k _ hk
theorem aq.st (H:aq w0 S w L) (k:Nat) {b i:Nat} {a:Addr} {v:Value} {cs:List Value} {t:TypeId} {K:World→Prop} (hk:L[k]? = some (.av b cs t)) (ha:a=⟨b,i,none⟩) (hi:i<cs.length) (h1:fW v=true)
  (h:∀ w',aq w0 S w' (L.set k (.av b (cs.set i v) t))→K w'):st a v w K:=by
 subst ha
 exact SM (H.av k hk) hi h1 fun w' h2 h3 _=>h w' (H.nr k hk h3 (fun c hc=>.inl hc) h2 (fun c hc=>.inl hc))
theorem aq.cell (H:aq w0 S w L) (k:Nat) {b i:Nat} {a:Addr} {v:Value} {cs:List Value} {t:TypeId} (hk:L[k]? = some (.av b cs t)) (ha:a=⟨b,i,none⟩) (hv:cs[i]? = some v):w.cell? a=some v:=by
 subst ha; exact ((H.av k hk).cell i).trans hv
theorem aq.au (H:aq w0 S w L) (k:Nat) {b i:Nat} {a:Addr} {q:IntKind} {n:Int} {cs:List Value} {t:TypeId} {K:Int→Prop} (hk:L[k]? = some (.av b cs t)) (ha:a=⟨b,i,none⟩) (hv:cs[i]? = some (.int q n)) (h:K n):au q a w K:=
 ⟨n,H.cell k hk ha hv,h⟩
theorem aq.nq (H:aq w0 S w L) (k:Nat) {b i:Nat} {a:Addr} {n:Bool} {cs:List Value} {t:TypeId} {K:Bool→Prop} (hk:L[k]? = some (.av b cs t)) (ha:a=⟨b,i,none⟩) (hv:cs[i]? = some (.bool n)) (h:K n):nq a w K:=
 ⟨n,H.cell k hk ha hv,h⟩
theorem aq.bO (H:aq w0 S w L) (k:Nat) {b i:Nat} {a:Addr} {n:Option Addr} {cs:List Value} {t:TypeId} {K:Option Addr→Prop} (hk:L[k]? = some (.av b cs t)) (ha:a=⟨b,i,none⟩) (hv:cs[i]? = some (.pointer n)) (h:K n):bO a w K:=
 ⟨n,H.cell k hk ha hv,h⟩
theorem aq.ay (H:aq w0 S w L) (k:Nat) {b i:Nat} {a:Addr} {n:ah} {cs:List Value} {t:TypeId} {K:ah→Prop} (hk:L[k]? = some (.av b cs t)) (ha:a=⟨b,i,none⟩) (hv:cs[i]? = some (.slice n.a n.n n.c)) (h:K n):ay a w K:=
 ⟨n,H.cell k hk ha hv,h⟩
theorem aq.kept (H:aq w0 S w L) {w':World} (m:Mod [] w w') (k:Nat) {b i:Nat} {a:Addr} {cs:List Value} {t:TypeId} (hk:L[k]? = some (.av b cs t)) (ha:a=⟨b,i,none⟩) (n:Nat):kept a n w w':=by
 subst ha
 exact J7 m (H.av k hk).lt (by simp)
end
theorem an (b i:Nat):Addr.add ⟨b,0,none⟩ i=⟨b,i,none⟩:=by rw [tN,Nat.zero_add]
section
variable {w0 w:World} {S:List Nat} {L:List aB}
theorem Own.lo {w:World} {lo:Nat} {e:TypeId} {sz:Nat} {s:ah} {vs:List Value} (h:Own w lo e sz s vs):Own w 0 e sz s vs:=by
 obtain ⟨hl,h1 | ⟨g,cap,cur,h1,h2,h3⟩⟩:=h
 ·exact ⟨hl,.inl h1⟩
 ·exact ⟨hl,.inr ⟨g,cap,cur,h1,Nat.zero_le _,h3⟩⟩
theorem aq.kK (H:aq w0 S w L) (k:Nat) {e:TypeId} {sz:Nat} {s:ah} {vs:List Value} (hk:L[k]? = some (.row e sz s vs)):Own w 0 e sz s vs:=H.ok k _ hk
theorem aq.jC (H:aq w0 S w L) (e:TypeId) (sz:Nat):aq w0 S w (L ++ [.row e sz ⟨none,0,0⟩ []]):=
 H.push (Mod.refl _ _) (Own.nil w 0 e sz) (by simp [aB.row,ah.row])
theorem aq.app (H:aq w0 S w L) (k:Nat) {t ty e:TypeId} {sz bytes:Nat} {s x:ah} {vs us:List Value} {K:ah→World→Prop} (dH:fQ P t e sz bytes) (hk:L[k]? = some (.row e sz s vs)) (hx:Sl w x sz us)
  (h1:∀ u∈us,fW u=true) (hb:(s.n+x.n) * bytes≤140737488355328) (hm:s.n+x.n≤9223372036854775807)
  (h:∀ s' w',aq w0 S w' (L.set k (.row e sz s' (vs ++ us)))→s'.n=s.n+x.n→K s' w'):cS P [t,t] ty [.slice s.a s.n s.c,.slice x.a x.n x.c] w K:=
 alu dH (H.kK k hk) hx h1 hb hm (Nat.zero_le _) fun s' w' h2 h3 h4 h5=>h s' w' (H.nr k hk h3 (fun b hb=>.inl hb) h2 h5) h4
end
theorem CI {A1:Type} {mk:A1→Fr} {body:(A1→World→Prop)→A1→World→Prop} {y1:A1} {v:World} (I:A1→World→Prop) (μ:A1→World→Nat) (hi:I y1 v)
  (hb:∀ (again:A1→World→Prop) x1 w,I x1 w→(∀ kX w',I kX w'→μ kX w'<μ x1 w→again kX w')→body again x1 w):dX mk body y1 v:=by
 intro X hX
 suffices ∀ n x1 w,μ x1 w<n→I x1 w→X (mk x1) w from this _ y1 v (Nat.lt_succ_self _) hi
 intro n
 induction n with
 | zero=>intro x1 w h; omega
 | succ n ih=>intro x1 w hn hI; exact hX x1 w (hb _ x1 w hI fun kX w' h1 h2=>ih kX w' (by omega) h1)
theorem tG {A1 A2:Type} {mk:A1→A2→Fr} {body:(A1→A2→World→Prop)→A1→A2→World→Prop} {y1:A1} {y2:A2} {v:World} (I:A1→A2→World→Prop) (μ:A1→A2→World→Nat) (hi:I y1 y2 v)
  (hb:∀ (again:A1→A2→World→Prop) x1 x2 w,I x1 x2 w→(∀ kX nX w',I kX nX w'→μ kX nX w'<μ x1 x2 w→again kX nX w')→body again x1 x2 w):ko mk body y1 y2 v:=by
 intro X hX
 suffices ∀ n x1 x2 w,μ x1 x2 w<n→I x1 x2 w→X (mk x1 x2) w from this _ y1 y2 v (Nat.lt_succ_self _) hi
 intro n
 induction n with
 | zero=>intro x1 x2 w h; omega
 | succ n ih=>intro x1 x2 w hn hI; exact hX x1 x2 w (hb _ x1 x2 w hI fun kX nX w' h1 h2=>ih kX nX w' (by omega) h1)
theorem akl {A1 A2 A3:Type} {mk:A1→A2→A3→Fr} {body:(A1→A2→A3→World→Prop)→A1→A2→A3→World→Prop} {y1:A1} {y2:A2} {y3:A3} {v:World} (I:A1→A2→A3→World→Prop) (μ:A1→A2→A3→World→Nat)
  (hi:I y1 y2 y3 v)
  (hb:∀ (again:A1→A2→A3→World→Prop) x1 x2 x3 w,I x1 x2 x3 w→(∀ kX nX uB w',I kX nX uB w'→μ kX nX uB w'<μ x1 x2 x3 w→again kX nX uB w')→body again x1 x2 x3 w):abq mk body y1 y2 y3 v:=by
 intro X hX
 suffices ∀ n x1 x2 x3 w,μ x1 x2 x3 w<n→I x1 x2 x3 w→X (mk x1 x2 x3) w from this _ y1 y2 y3 v (Nat.lt_succ_self _) hi
 intro n
 induction n with
 | zero=>intro x1 x2 x3 w h; omega
 | succ n ih=>intro x1 x2 x3 w hn hI; exact hX x1 x2 x3 w (hb _ x1 x2 x3 w hI fun kX nX uB w' h1 h2=>ih kX nX uB w' (by omega) h1)
theorem ep {mk:Int→Fr} {body:(Int→World→Prop)→Int→World→Prop} {v:World} {y:Int} (lo hi:Nat) (I:Nat→World→Prop) (hy:y=(lo:Int)) (hle:lo≤hi) (h0:I lo v)
  (step:∀ (again:Int→World→Prop) (i:Nat) w,lo≤i→i<hi→I i w→(∀ w',I (i+1) w'→again ((i:Int)+1) w')→body again (i:Int) w)
  (done:∀ (again:Int→World→Prop) w,I hi w→body again (hi:Int) w):dX mk body y v:=by
 subst hy
 refine CI (fun x w=>∃ i:Nat,x=(i:Int)∧lo≤i∧i≤hi∧I i w) (fun x _=>hi - x.toNat) ⟨lo,rfl,Nat.le_refl _,hle,h0⟩ ?_
 rintro again x w ⟨i,rfl,h1,h2,h3⟩ aR
 rcases Nat.lt_or_ge i hi with h | h
 ·exact step again i w h1 h h3 fun w' h4=>aR _ w' ⟨i+1,by simp,by omega,by omega,h4⟩ (by omega)
 ·have:i=hi:=by omega
  subst this
  exact done again w h3
theorem qq {A:Type} {mk:A→Int→Fr} {body:(A→Int→World→Prop)→A→Int→World→Prop} {v:World} {x:A} {y:Int} (lo hi:Nat) (I:Nat→A→World→Prop) (hy:y=(lo:Int)) (hle:lo≤hi) (h0:I lo x v)
  (step:∀ (again:A→Int→World→Prop) (i:Nat) a w,lo≤i→i<hi→I i a w→(∀ a' w',I (i+1) a' w'→again a' ((i:Int)+1) w')→body again a (i:Int) w)
  (done:∀ (again:A→Int→World→Prop) a w,I hi a w→body again a (hi:Int) w):ko mk body x y v:=by
 subst hy
 refine tG (fun a x w=>∃ i:Nat,x=(i:Int)∧lo≤i∧i≤hi∧I i a w) (fun _ x _=>hi - x.toNat) ⟨lo,rfl,Nat.le_refl _,hle,h0⟩ ?_
 rintro again a x w ⟨i,rfl,h1,h2,h3⟩ aR
 rcases Nat.lt_or_ge i hi with h | h
 ·exact step again i a w h1 h h3 fun a' w' h4=>aR a' _ w' ⟨i+1,by simp,by omega,by omega,h4⟩ (by omega)
 ·have:i=hi:=by omega
  subst this
  exact done again a w h3
theorem iB {mk:Fr} {rest:World→Prop} {first:(World→Prop)→Prop} (h:∀ go:World→Prop,(∀ w,rest w→go w)→first go):iJ mk rest first:=
 fun K hK=>h _ fun w hw=>hK w hw
theorem gm {A1:Type} {mk:A1→Fr} {rest:A1→World→Prop} {first:(A1→World→Prop)→Prop} (h:∀ go:A1→World→Prop,(∀ x w,rest x w→go x w)→first go):fD mk rest first:=
 fun K hK=>h _ fun x w hw=>hK x w hw
theorem EZ {A1 A2:Type} {mk:A1→A2→Fr} {rest:A1→A2→World→Prop} {first:(A1→A2→World→Prop)→Prop} (h:∀ go:A1→A2→World→Prop,(∀ x y w,rest x y w→go x y w)→first go):AQ mk rest first:=
 fun K hK=>h _ fun x y w hw=>hK x y w hw
def up {A:Type} (f:A→Nat→A) (s:A) (n:Nat):A:=(List.range n).foldl f s
theorem cr {k:IntKind} {n:Int} {K:Int→Prop} (h:K n):aF k (.int k n) K:=⟨n,rfl,h⟩
theorem bh {b:Bool} {K:Bool→Prop} (h:K b):aQ (.bool b) K:=⟨b,rfl,h⟩
theorem yR {p:Option Addr} {K:Option Addr→Prop} (h:K p):sI (.pointer p) K:=⟨p,rfl,h⟩
theorem dP {s:ah} {K:ah→Prop} (h:K s):aK (.slice s.a s.n s.c) K:=⟨s,rfl,h⟩
end Go.Ev
end
section
set_option linter.unusedVariables false
set_option linter.unusedSimpArgs false
namespace Go.Ev
open Go Go.RowKit
abbrev B8:=BitVec 8
abbrev bw:=BitVec 64
def u8 (b:B8):Value:=.int .u8 (b.toNat:Int)
def u64 (x:bw):Value:=.int .u64 (x.toNat:Int)
def aL (l:List B8):List Value:=l.map u8
def abS (l:List bw):List Value:=l.map u64
theorem Zy (l:List B8):∀ v∈aL l,fW v=true:=by
 intro v hv
 obtain ⟨b,-,rfl⟩:=List.mem_map.1 hv
 rfl
@[simp] theorem Ra (l:List B8):(aL l).length=l.length:=by simp [aL]
@[simp] theorem asA (l:List bw):(abS l).length=l.length:=by simp [abS]
theorem alz (l:List B8) (i:Nat) (h:i<l.length):(aL l)[i]? = some (.int .u8 ((l.getD i 0).toNat:Int)):=by
 simp [aL,u8,h]
theorem ER (a b:List B8):aL (a ++ b)=aL a ++ aL b:=by simp [aL]
theorem wrap_u64 (n:Int):IntKind.wrap .u64 n=n % 18446744073709551616:=by simp [IntKind.wrap,IntKind.signed,IntKind.bits]
theorem wrap_u8 (n:Int):IntKind.wrap .u8 n=n % 256:=by simp [IntKind.wrap,IntKind.signed,IntKind.bits]
theorem X4 (x:bw):IntKind.wrap .u64 (x.toNat:Int)=x.toNat:=by
 rw [wrap_u64]; have:=x.isLt; omega
theorem EN {n:Nat} (x:BitVec n):BitVec.ofInt n (x.toNat:Int)=x:=by simp
theorem ann (x y:bw):vI .u64 (x.toNat:Int) (y.toNat:Int)=((x &&& y).toNat:Int):=by
 unfold vI
 rw [show IntKind.bits .u64=64 from rfl,EN,EN,X4]
theorem FT (x y:bw):rC .u64 (x.toNat:Int) (y.toNat:Int)=((x ||| y).toNat:Int):=by
 unfold rC
 rw [show IntKind.bits .u64=64 from rfl,EN,EN,X4]
theorem FJ (x:bw) (k:Nat):shl .u64 (x.toNat:Int) (k:Int)=((x <<< k).toNat:Int):=by
 unfold shl
 rw [wrap_u64,show IntKind.bits .u64=64 from rfl,Int.toNat_natCast,BitVec.toNat_shiftLeft,Nat.shiftLeft_eq]
 have e:(((x.toNat * 2 ^ k % 2 ^ 64:Nat)):Int)=((x.toNat * 2 ^ (min k 64) % 2 ^ 64:Nat):Int):=by
  rcases Nat.le_total k 64 with h | h
  ·rw [Nat.min_eq_left h]
  ·rw [Nat.min_eq_right h]
   obtain ⟨j,rfl⟩:=Nat.exists_eq_add_of_le h
   rw [Nat.pow_add,Nat.mul_left_comm,Nat.mul_mod_right,Nat.mul_mod_left]
 rw [e,Int.natCast_emod,Int.natCast_mul,Int.natCast_pow]
 have j7:((2 ^ 64:Nat):Int)=18446744073709551616:=by decide
 rw [j7]
 rfl
theorem Dn (x:bw) (k:Nat):shr .u64 (x.toNat:Int) (k:Int)=((x >>> k).toNat:Int):=by
 unfold shr
 rw [show IntKind.bits .u64=64 from rfl,Int.toNat_natCast,BitVec.toNat_ushiftRight,Nat.shiftRight_eq_div_pow,Int.fdiv_eq_ediv_of_nonneg _ (by exact Int.le_of_lt (Int.pow_pos (by decide)))]
 have e:x.toNat / 2 ^ k=x.toNat / 2 ^ (min k 64):=by
  rcases Nat.le_total k 64 with h | h
  ·rw [Nat.min_eq_left h]
  ·rw [Nat.min_eq_right h,Nat.div_eq_of_lt x.isLt,Nat.div_eq_of_lt (Nat.lt_of_lt_of_le x.isLt (Nat.pow_le_pow_right (by decide) h))]
 rw [e,Int.natCast_ediv,Int.natCast_pow]
 rfl
theorem an8 (x:bw):IntKind.wrap .u8 (x.toNat:Int)=((x.setWidth 8).toNat:Int):=by
 rw [wrap_u8]; simp
theorem toNat_eq {n:Nat} {x y:BitVec n}:((x.toNat:Int)=(y.toNat:Int))↔x=y:=by
 constructor
 ·intro h; exact BitVec.eq_of_toNat_eq (by omega)
 ·intro h; rw [h]
def rotl (x:bw) (k:Nat):bw:=(x <<< (k % 64)) ||| (x >>> (64 - k % 64))
def Bytes (w:World) (s:ah) (l:List B8):Prop:=Sl w s 1 (aL l)
theorem Bytes.len {w:World} {s:ah} {l:List B8} (h:Bytes w s l):l.length=s.n:=by simpa using Sl.len h
theorem Bytes.ld {w:World} {s:ah} {l:List B8} (h:Bytes w s l) {i:Nat} (hi:i<l.length) {K:Int→Prop} (hk:K ((l.getD i 0).toNat:Int)) :
  aZ s.a (i:Int) s.n (au .u8 (Addr.add (base s.a) (Int.toNat (i:Int) * 1)) w K):=by
 have hl:=h.len
 refine ⟨⟨h.pre (by omega),by omega,by omega⟩,_,?_,hk⟩
 rw [Int.toNat_natCast,Nat.mul_one]
 exact h.cell i _ (alz l i hi)
section
variable {w0 w:World} {S:List Nat} {L:List aB}
end
end Go.Ev
end
section
set_option linter.unusedVariables false
set_option linter.unusedSimpArgs false
namespace Go.Proofs.YtpchgbolambkcaaGreatDoor
open Go Go.Ev
abbrev g (a:List bw) (i:Nat):bw:=a.getD i 0
def z25:List bw:=List.replicate 25 0
def z5:List bw:=List.replicate 5 0
def alA (a c:List bw) (i:Nat):List bw:=c.set (i % 5) (g c (i % 5) ^^^ g a i)
def an9 (a:List bw) (n:Nat):List bw:=up (alA a) z5 n
def ajG (c b:List bw) (i:Nat):List bw:=b.set i (g b i ^^^ (g c ((i % 5+4) % 5) ^^^ rotl (g c ((i % 5+1) % 5)) 1))
def ano (a:List bw) (n:Nat):List bw:=up (ajG (an9 a 25)) a n
def pl (x y:Nat):Nat:=x % 5+5 * (y % 5)
def alB (s:List bw×Nat×Nat) (t:Nat):List bw×Nat×Nat:=(s.1.set (pl s.2.1 s.2.2) (rotl (g s.1 (pl s.2.1 s.2.2)) ((t+1) * (t+2) / 2 % 64)),s.2.2,(2 * s.2.1+3 * s.2.2) % 5)
def aoa (a:List bw) (n:Nat):List bw×Nat×Nat:=up alB (a,1,0) n
def rho (a:List bw):List bw:=(aoa a 24).1
def amv (a b:List bw) (x y:Nat):List bw:=b.set (pl x y) (g a (pl (x+3 * y) x))
def anp (a:List bw) (y:Nat) (b:List bw) (n:Nat):List bw:=up (fun b x=>amv a b x y) b n
def pi (a:List bw) (n:Nat):List bw:=up (fun b y=>anp a y b 5) z25 n
def alC (a b:List bw) (x y:Nat):List bw:=b.set (pl x y) (g b (pl x y) ^^^ (~~~ g a (pl (x+1) y) &&& g a (pl (x+2) y)))
def amw (a:List bw) (y:Nat) (b:List bw) (n:Nat):List bw:=up (fun b x=>alC a b x y) b n
def chi (a:List bw) (n:Nat):List bw:=up (fun b y=>amw a y b 5) a n
end Go.Proofs.YtpchgbolambkcaaGreatDoor
end
section
set_option linter.unusedVariables false
set_option linter.unusedSimpArgs false
namespace Go.Proofs.YtpchgbolambkcaaGreatDoor
open Go Go.Ev
def words:List bw:=[0x0000000000000001,0x0000000000008082,0x800000000000808A,0x8000000080008000,0x000000000000808B,0x0000000080000001,
 0x8000000080008081,0x8000000000008009,0x000000000000008A,0x0000000000000088,0x0000000080008009,0x000000008000000A,
 0x000000008000808B,0x800000000000008B,0x8000000000008089,0x8000000000008003,0x8000000000008002,0x8000000000000080,
 0x000000000000800A,0x800000008000000A,0x8000000080008081,0x8000000000008080,0x0000000080000001,0x8000000080008008]
def iota (a:List bw) (r:Nat):List bw:=a.set 0 (g a 0 ^^^ g words r)
def round (a:List bw) (r:Nat):List bw:=iota (chi (pi (rho (ano a 25)) 5) 5) r
def perms (a:List bw) (n:Nat):List bw:=up round a n
@[irreducible] def perm (a:List bw):List bw:=perms a 24
end Go.Proofs.YtpchgbolambkcaaGreatDoor
end
section
set_option linter.unusedVariables false
set_option linter.unusedSimpArgs false
namespace Go.Proofs.YtpchgbolambkcaaGreatDoor
open Go Go.Ev
set_option maxRecDepth 100000
def amx (r:bw) (_i:Nat):bw:=if (r <<< 1) &&& 256=0 then r <<< 1 else (r <<< 1) ^^^ 256 ^^^ 1 ^^^ 16 ^^^ 32 ^^^ 64
def rcs (n:Nat):bw:=up amx 1 n
def rc (t:Nat):bw:=rcs (t % 255) &&& 1
end Go.Proofs.YtpchgbolambkcaaGreatDoor
end
section
set_option linter.unusedVariables false
set_option linter.unusedSimpArgs false
namespace Go.Ev
open Go Go.RowKit
variable {P:Program}
theorem nc {a:Addr} {K:Addr→Prop} (h:K a):cK (some a) K:=h
theorem YX {t:TypeId} {v:Value} {K:Bool→Prop} (h:K false):dF (.iface t v) K:=h
theorem su {y:Int} {A:Prop} (h:0≤y) (hA:A):lD y A:=by
 unfold lD; split
 ·exact hA
 ·exact ⟨h,hA⟩
theorem aaM {y:Int} {A:Prop} (h:0<y) (hA:A):pos y A:=by
 unfold pos; split
 ·exact hA
 ·exact ⟨h,hA⟩
def aB.no:aB where
 fp:=[]
 ok _:=True
 iu _ _ _ _:=trivial
 lt _ _ b hb:=by cases hb
section
variable {w0 w:World} {S:List Nat} {L:List aB}
theorem aq.aaN (H:aq w0 S w L) (k:Nat) {r:aB} (hk:L[k]? = some r):aq w0 S w (L.set k .no):=
 H.nr (T:=[]) k hk (Mod.refl _ _) (fun b hb=>by cases hb) trivial fun b hb=>by cases hb
theorem aq.fresh (H:aq w0 S w L) (k:Nat) {e:TypeId} {sz:Nat} {s:ah} {vs:List Value} (hk:L[k]? = some (.row e sz s vs)) (hS:∀ b∈s.row,b∉S):Own w w0.heap.size e sz s vs:=by
 obtain ⟨hl,h1 | ⟨g,cap,cur,h1,h2,h3⟩⟩:=H.kK k hk
 ·exact ⟨hl,.inl h1⟩
 ·refine ⟨hl,.inr ⟨g,cap,cur,h1,?_,h3⟩⟩
  have hg:g∈s.row:=by
   obtain ⟨a,n,c⟩:=s
   simp only [ah.v,Value.slice.injEq] at h1
   obtain ⟨rfl,-⟩:=h1
   simp [ah.row]
  exact (H.own k _ hk g hg).resolve_left (hS g hg)
theorem aq.mC (H:aq w0 [] w L) (k:Nat) {e:TypeId} {sz:Nat} {s:ah} {vs:List Value} (hk:L[k]? = some (.row e sz s vs)):Own w w0.heap.size e sz s vs:=H.fresh k hk (fun b _=>by simp)
theorem aq.gG {w':World} (H:aq w0 S w L) (m:Mod [] w w') {e:TypeId} {sz:Nat} {s:ah} {vs:List Value} (h:Own w' w.heap.size e sz s vs):aq w0 S w' (L ++ [.row e sz s vs]):=
 H.push m h.lo fun b hb=>(Own.tP h b hb).1
theorem aq.gQ (H:aq w0 S w L) (k:Nat) {e:TypeId} {sz:Nat} {s:ah} {vs:List Value} (hk:L[k]? = some (.row e sz s vs)):Sl w s sz vs:=(H.kK k hk).sl
theorem bQ.sl {b:Nat} {cs:List Value} {t:TypeId} (h:bQ w b cs t) (sz n c:Nat) (hn:n * sz≤cs.length) (hc:n≤c):Sl w ⟨some ⟨b,0,none⟩,n,c⟩ sz (cs.take (n * sz)):=by
 refine ⟨by simp only [List.length_take]; omega,hc,fun _=>rfl,fun i v hv=>?_⟩
 show w.cell? (Addr.add ⟨b,0,none⟩ i)=some v
 rw [an,h.cell]
 rw [List.getElem?_take] at hv
 split at hv
 ·exact hv
 ·cases hv
theorem bQ.own {b:Nat} {cs:List Value} {t:TypeId} (h:bQ w b cs t) (sz n c:Nat) (hl:cs.length=c * sz) (hc:n≤c) (hm:c≤maxLen):Own w 0 t sz ⟨some ⟨b,0,none⟩,n,c⟩ (cs.take (n * sz)):=by
 have:=Nat.mul_le_mul_right sz hc
 exact ⟨by simp only [List.length_take]; omega,.inr ⟨b,c,⟨cs⟩,rfl,Nat.zero_le _,h,hc,hm,hl,rfl⟩⟩
theorem aq.tW (H:aq w0 S w L) (k:Nat) {b:Nat} {cs:List Value} {t:TypeId} (sz n c:Nat) (hk:L[k]? = some (.av b cs t)) (hl:cs.length=c * sz) (hc:n≤c) (hm:c≤maxLen) :
  aq w0 S w (L.set k (.row t sz ⟨some ⟨b,0,none⟩,n,c⟩ (cs.take (n * sz)))):=
 H.nr (T:=[]) k hk (Mod.refl _ _) (fun b hb=>by cases hb) ((H.av k hk).own sz n c hl hc hm) fun b hb=>.inl hb
theorem aq.vJ (H:aq w0 S w L) (k:Nat) {t ty e t1:TypeId} {sz bytes:Nat} {s:ah} {vs us:List Value} {K:ah→World→Prop} (dH:fQ P t e sz bytes) (hk:L[k]? = some (.row e sz s vs)) (hl:us.length=sz)
  (h1:∀ u∈us,fW u=true) (hb:(s.n+1) * bytes≤140737488355328) (hm:s.n+1≤9223372036854775807)
  (h:∀ s' w',aq w0 S w' (L.set k (.row e sz s' (vs ++ us)))→s'.n=s.n+1→K s' w'):Ev.nw t1 us w fun p w5=>cS P [t,t] ty [.slice s.a s.n s.c,.slice (some p) 1 1] w5 K:=by
 refine H.nw fun b w5 H5 _=>?_
 have bR:k<L.length:=(List.getElem?_eq_some_iff.1 hk).1
 have hk5:(L ++ [aB.av b us t1])[k]? = some (.row e sz s vs):=by rw [List.getElem?_append_left bR]; exact hk
 have hb5:=H5.av (cs:=us) (b:=b) (t:=t1) L.length (by simp)
 have BA:=hb5.sl sz 1 1 (by omega) (Nat.le_refl _)
 rw [Nat.one_mul,← hl,List.take_length] at BA
 subst hl
 refine H5.app (x:=⟨some ⟨b,0,none⟩,1,1⟩) k dH hk5 BA h1 hb hm fun s' w' H' hn=>h s' w' ?_ hn
 have:=H'.take L.length
 rw [List.set_append_left _ _ bR,List.take_append_of_le_length (by simp),List.take_of_length_le (by simp)] at this
 exact this
theorem aq.jD (H:aq w0 S w L) (k:Nat) {e:TypeId} {sz:Nat} {s:ah} {vs:List Value} {i:Nat} {a:Addr} {v:Value} {K:World→Prop} (hk:L[k]? = some (.row e sz s vs)) (ha:a=Addr.add (base s.a) i) (hi:i<vs.length) (h1:fW v=true)
  (h:∀ w',aq w0 S w' (L.set k (.row e sz s (vs.set i v)))→K w'):Ev.st a v w K:=by
 subst ha
 have ho:=H.kK k hk
 obtain ⟨sa,sn,sc⟩:=s
 obtain ⟨hl,hv | ⟨g,cap,cur,hv,h2,hg,Bx,vV,gN,wT⟩⟩:=ho
 ·rw [hv.2] at hl; omega
 ·simp only [ah.v,Value.slice.injEq] at hv
  obtain ⟨rfl,-,rfl⟩:=hv
  have aob:bQ w g cur.toList e:=hg
  have hic:i<cur.toList.length:=by
   have:vs.length≤cur.toList.length:=by rw [← wT,List.length_take]; exact Nat.min_le_right _ _
   omega
  show Ev.st (Addr.add ⟨g,0,none⟩ i) v w K
  rw [an]
  refine SM aob hic h1 fun w' h3 h4 _=>h w' (H.nr k hk h4 (fun b hb=>.inl (by simpa [aB.row,ah.row] using hb)) ?_ fun b hb=>.inl hb)
  refine ⟨by simpa using hl,.inr ⟨g,sc,⟨cur.toList.set i v⟩,rfl,h2,h3,Bx,vV,by simpa using gN,?_⟩⟩
  show (cur.toList.set i v).take (sn * sz)=vs.set i v
  rw [← wT,List.take_set]
theorem aq.mkS (H:aq w0 S w L) {t e:TypeId} {sz bytes:Nat} {l c:Nat} {x y:Int} {K:ah→World→Prop} (dH:fQ P t e sz bytes) (hx:x=(l:Int)) (hy:y=(c:Int)) (BB:l≤c) (hc:c≤9223372036854775807) (hb:bytes * c≤281474976710656)
  (h:∀ b w',aq w0 S w' (L ++ [.row e sz ⟨some ⟨b,0,none⟩,l,c⟩ ((oK c (zc P e)).take (l * sz))])→w0.heap.size≤b→K ⟨some ⟨b,0,none⟩,l,c⟩ w'):oP P e x y w K:=by
 subst hx hy
 obtain ⟨i,z,hi,hz,gV,qE,qF⟩:=dH.info
 have amy:bytesOf P e=bytes:=by unfold bytesOf; rw [hi]; exact qE
 have zC:zc P e=z.cells.toList:=by unfold zc; rw [hi]; simp only [hz]
 have vW:(zc P e).length=sz:=by rw [zC]; simpa using qF
 have jL:(oK c (zc P e)).length=c * sz:=by
  unfold oK
  rw [List.length_flatten,List.map_replicate,List.sum_replicate_nat,vW]
 refine ⟨⟨by omega,by omega,by omega,?_⟩,?_⟩
 ·rw [amy]
  have h1:((bytes:Int) * (c:Int))=((bytes * c:Nat):Int):=by rw [Int.natCast_mul]
  have h2:(2 ^ 48:Int)=281474976710656:=by decide
  rw [h1,h2]
  omega
 ·simp only [Int.toNat_natCast]
  have hm:Mod [] w (w.alloc (.cells ⟨oK c (zc P e)⟩ e)):=Mod.alloc _ _ _
  refine h w.heap.size _ (H.push hm ?_ (by simp [aB.row,ah.row])) H.mod.size
  exact (bQ.new w (oK c (zc P e)) e).own sz l c jL BB (by simp only [maxLen]; omega)
end
theorem Bytes.mod {w w':World} {s:ah} {l:List B8} (h:Bytes w s l) {S:List Nat} (m:Mod S w w') (ho:off S s):Bytes w' s l:=Sl.mod h m ho
theorem Bytes.aI {w w':World} {s:ah} {l:List B8} (h:Bytes w s l) (m:Mod [] w w'):Bytes w' s l:=Sl.aI h m
structure lz (w:World) (S:List Nat) (s:ah) (ls:List (List B8)):Prop where
 ex:∃ ss:List ah,Sl w s 1 (ss.map ah.v)∧off S s∧ss.length=ls.length∧∀ (i:Nat) (x:ah) (l:List B8),ss[i]? = some x→ls[i]? = some l→Bytes w x l∧off S x
theorem lz.len {w:World} {S:List Nat} {s:ah} {ls:List (List B8)} (h:lz w S s ls):s.n=ls.length:=by
 obtain ⟨ss,h1,h2,h3,h4⟩:=h.ex
 have:=h1.len
 simp only [List.length_map] at this
 omega
theorem lz.Uw {w:World} {S:List Nat} {b:Nat} {x:ah} {l:List B8} {t:TypeId} (h:bQ w b [x.v] t) (hb:b∉S) (hx:Bytes w x l) (ho:off S x):lz w S ⟨some ⟨b,0,none⟩,1,1⟩ [l]:=
 ⟨[x],by simpa using h.sl 1 1 1 (by simp) (by omega),fun _ a ha=>by simp only [Option.some.injEq] at ha; subst ha; exact hb,rfl,fun i y m hy hm=>by
  cases i with
  | zero=>
   simp only [List.getElem?_cons_zero,Option.some.injEq] at hy hm
   subst hy hm; exact ⟨hx,ho⟩
  | succ i=>simp at hy⟩
theorem Bytes.nil (w:World):Bytes w ⟨none,0,0⟩ []:=Sl.nil w 1
theorem Own.bytes {w:World} {lo:Nat} {e:TypeId} {s:ah} {l:List B8} (h:Own w lo e 1 s (aL l)):Bytes w s l:=h.sl
def qw (x s:ah):Prop:=x.n≤s.n∧∀ a,x.a=some a→∃ a0,s.a=some a0∧a.block=a0.block
theorem Sl.part {w:World} {s:ah} {sz:Nat} {vs:List Value} (h:Sl w s sz vs) (gV:0<sz) (l k:Nat) (hlk:l≤k) (hk:k≤s.n):Sl w ⟨sub s.a l s.c sz,k - l,s.c - l⟩ sz ((vs.drop (l * sz)).take ((k - l) * sz)):=by
 have hl:=h.len
 have hc:=h.cap
 have e1:k * sz≤s.n * sz:=Nat.mul_le_mul_right _ hk
 have e2:(k - l) * sz=k * sz - l * sz:=Nat.sub_mul _ _ _
 have e3:l * sz≤k * sz:=Nat.mul_le_mul_right _ hlk
 refine ⟨by simp only [List.length_take,List.length_drop]; omega,by show k - l≤s.c - l; omega,fun h0=>?_,fun i v hv=>?_⟩
 ·have h0:0<k - l:=h0
  have:=h.pre (by omega)
  unfold sub; split
  ·exact this
  ·simpa using this
 ·rw [List.getElem?_take] at hv
  split at hv
  ·rename_i hi
   rw [List.getElem?_drop] at hv
   have h1:=h.cell _ v hv
   have bR:l<k:=by
    rcases Nat.lt_or_ge l k with h | h
    ·exact h
    ·rw [show k - l=0 by omega,Nat.zero_mul] at hi; omega
   obtain ⟨a,ha⟩:=Option.isSome_iff_exists.1 (h.pre (by omega))
   have gp:¬ s.c=l:=by omega
   have hb:base s.a=a:=by rw [ha]; rfl
   unfold sub
   rw [if_neg gp,ha]
   show w.cell? ((a.add (l * sz)).add i)=some v
   rw [add_add,← hb]
   exact h1
  ·cases hv
theorem qw.part (s:ah) (l m sz n c:Nat) (hn:n≤s.n):qw ⟨sub s.a l m sz,n,c⟩ s:=by
 refine ⟨hn,fun a ha=>?_⟩
 unfold sub at ha
 simp only at ha
 split at ha
 ·exact ⟨a,ha,rfl⟩
 ·cases hs:s.a with
  | none=>rw [hs] at ha; cases ha
  | some a0=>
   rw [hs] at ha
   simp only [Option.map_some,Option.some.injEq] at ha
   subst ha
   exact ⟨a0,rfl,rZ _ _⟩
theorem Sl.l {w:World} {s:ah} {sz:Nat} {vs:List Value} {K:ah→Prop} (h:Sl w s sz vs) (gV:0<sz) (l:Nat) {x:Int} (hx:x=(l:Int)) (hl:l≤s.n)
  (hK:∀ z:ah,z.n=s.n - l→Sl w z sz (vs.drop (l * sz))→qw z s→K z):zw sz s x K:=by
 subst hx
 refine ⟨⟨by omega,by omega⟩,?_⟩
 simp only [Int.toNat_natCast]
 have:=h.part gV l s.n hl (Nat.le_refl _)
 rw [List.take_of_length_le (by rw [List.length_drop,h.len,Nat.sub_mul]; exact Nat.le_refl _)] at this
 exact hK _ rfl this (qw.part _ _ _ _ _ _ (by omega))
theorem Sl.h {w:World} {s:ah} {sz:Nat} {vs:List Value} {K:ah→Prop} (h:Sl w s sz vs) (k:Nat) {y:Int} (hy:y=(k:Int)) (hk:k≤s.n)
  (hK:∀ z:ah,z.n=k→Sl w z sz (vs.take (k * sz))→qw z s→K z):Bt s y K:=by
 subst hy
 have hc:=h.cap
 refine ⟨⟨by omega,by omega⟩,?_⟩
 simp only [Int.toNat_natCast]
 have e1:k * sz≤s.n * sz:=Nat.mul_le_mul_right _ hk
 refine hK ⟨s.a,k,s.c⟩ rfl ⟨by rw [List.length_take,h.len]; show min (k * sz) (s.n * sz)=k * sz; omega,by show k≤s.c; omega,fun h0=>h.pre (Nat.lt_of_lt_of_le h0 hk),fun i v hv=>?_⟩ ⟨hk,fun a ha=>⟨a,ha,rfl⟩⟩
 rw [List.getElem?_take] at hv
 split at hv
 ·exact h.cell i v hv
 ·cases hv
theorem JO (l:List B8) (n:Nat):(aL l).take n=aL (l.take n):=by simp [aL,List.map_take]
theorem Zz (l:List B8) (n:Nat):(aL l).drop n=aL (l.drop n):=by simp [aL,List.map_drop]
theorem alD (l:List B8) (i:Nat) (b:B8):(aL l).set i (.int .u8 (b.toNat:Int))=aL (l.set i b):=by simp [aL,u8,List.map_set]
theorem Bytes.h {w:World} {s:ah} {bs:List B8} {K:ah→Prop} (h:Bytes w s bs) (k:Nat) {y:Int} (hy:y=(k:Int)) (hk:k≤s.n)
  (hK:∀ z:ah,z.n=k→Bytes w z (bs.take k)→qw z s→K z):Bt s y K:=
 Sl.h h k hy hk fun z h1 h2 h3=>hK z h1 (by simp only [Nat.mul_one,JO] at h2; exact h2) h3
theorem aq.st8 {w0 w:World} {S:List Nat} {L:List aB} (H:aq w0 S w L) (k:Nat) {e:TypeId} {s:ah} {bs:List B8} {i:Nat} {a:Addr} {n:Int} {K:World→Prop} (x:B8) (hk:L[k]? = some (.row e 1 s (aL bs))) (ha:a=Addr.add (base s.a) i) (hi:i<bs.length) (hn:n=(x.toNat:Int))
  (h:∀ w',aq w0 S w' (L.set k (.row e 1 s (aL (bs.set i x))))→K w'):Ev.st a (.int .u8 n) w K:=by
 subst hn
 refine H.jD k hk ha (by simpa using hi) rfl fun w' H'=>h w' ?_
 rw [← alD]; exact H'
theorem aq.bytes {w0 w:World} {S:List Nat} {L:List aB} (H:aq w0 S w L) (k:Nat) {e:TypeId} {s:ah} {bs:List B8} (hk:L[k]? = some (.row e 1 s (aL bs))):Bytes w s bs:=H.gQ k hk
theorem Bytes.some {w:World} {s:ah} {bs:List B8} (h:Bytes w s bs) (h0:0<s.n):s.a.isSome=true:=h.pre h0
theorem aq.Dy {P:Program} {w0 w:World} {S:List Nat} {L:List aB} (H:aq w0 S w L) (k:Nat) {t ty e:TypeId} {s x:ah} {vs us:List B8} {K:ah→World→Prop} (dH:fQ P t e 1 1) (hk:L[k]? = some (.row e 1 s (aL vs))) (hx:Bytes w x us)
  (hm:s.n+x.n≤100000000000000) (h:∀ s' w',aq w0 S w' (L.set k (.row e 1 s' (aL (vs ++ us))))→s'.n=s.n+x.n→K s' w'):cS P [t,t] ty [.slice s.a s.n s.c,.slice x.a x.n x.c] w K:=
 H.app k dH hk hx (Zy us) (by omega) (by omega) fun s' w' H' hn=>h s' w' (by rw [ER]; exact H') hn
theorem aq.E5 {P:Program} {w0 w:World} {S:List Nat} {L:List aB} (H:aq w0 S w L) (k:Nat) {t ty e t1:TypeId} {s:ah} {vs:List B8} {n:Int} {K:ah→World→Prop} (x:B8) (dH:fQ P t e 1 1) (hk:L[k]? = some (.row e 1 s (aL vs))) (hn:n=(x.toNat:Int))
  (hm:s.n≤100000000000000) (h:∀ s' w',aq w0 S w' (L.set k (.row e 1 s' (aL (vs ++ [x]))))→s'.n=s.n+1→K s' w'):Ev.nw t1 [.int .u8 n] w fun p w5=>cS P [t,t] ty [.slice s.a s.n s.c,.slice (some p) 1 1] w5 K:=by
 subst hn
 exact H.vJ k dH hk rfl (by simp [fW]) (by omega) (by omega) fun s' w' H' hn=>h s' w' (by rw [ER]; exact H') hn
end Go.Ev
end
section
set_option linter.unusedVariables false
set_option linter.unusedSimpArgs false
namespace Go.Proofs.YtpchgbolambkcaaGreatDoor
open Go Go.Ev
theorem hO:fQ Pr bp aM 1 1:=fQ.of (by kernel_rfl)
def flip (ws:List bw) (i:Nat) (b:B8):List bw:=ws.set (i / 8) (g ws (i / 8) ^^^ (b.setWidth 64 <<< (8 * (i % 8))))
theorem KT (b:Nat):Addr.add ⟨b,0,none⟩ 0=⟨b,0,none⟩:=tN _ _ _
section
variable {ws:List bw} {iQ at_:Nat} {uC:B8} {abw:Bool}
end
def FU (iQ:Nat) (s:List bw×Nat):List bw×Nat:=if s.2=iQ then (perm s.1,0) else s
end Go.Proofs.YtpchgbolambkcaaGreatDoor
end
section
set_option linter.unusedVariables false
set_option linter.unusedSimpArgs false
namespace Go.Proofs.YtpchgbolambkcaaGreatDoor
open Go Go.Ev
theorem qN {A:Type} (l:List A) (i:Nat) (h:i<l.length) (d:A):l.take (i+1)=l.take i ++ [l.getD i d]:=by
 rw [List.take_succ_eq_append_getElem h]
 simp [h]
def close (iQ:Nat) (uC:B8) (s:List bw×Nat):List bw×Nat:=(flip (flip s.1 s.2 uC) (iQ - 1) 128,iQ)
def ready (iQ:Nat) (uC:B8) (abw:Bool) (s:List bw×Nat):List bw×Nat:=if abw then s else close iQ uC s
end Go.Proofs.YtpchgbolambkcaaGreatDoor
end
section
set_option linter.unusedVariables false
set_option linter.unusedSimpArgs false
namespace Go.Proofs.YtpchgbolambkcaaGreatDoor
open Go Go.Ev
def aoc (l:List B8) (a:List bw) (n:Nat):List bw:=up (fun a i=>flip a i (l.getD i 0)) a n
def mix (a:List bw) (l:List B8):List bw:=aoc l a l.length
def aod (iQ:Nat) (l:List B8):List B8:=l ++ List.replicate ((iQ - l.length % iQ) % iQ) 0
def aaO (iQ:Nat) (uC:B8) (l:List B8):List B8:=
 let p:=aod iQ (l ++ [uC])
 p.set (p.length - 1) (p.getD (p.length - 1) 0 ^^^ 128)
def blocks (iQ:Nat) (p:List B8) (a:List bw) (m:Nat):List bw:=up (fun a j=>perm (mix a ((p.drop (iQ * j)).take iQ))) a m
def alE (iQ:Nat) (x:List B8×List bw) (i:Nat):List B8×List bw:=
 let a:=if 0<i∧i % iQ=0 then perm x.2 else x.2
 (x.1 ++ [(g a (i % iQ / 8) >>> (8 * (i % 8))).setWidth 8],a)
def outs (iQ:Nat) (a:List bw) (n:Nat):List B8×List bw:=up (alE iQ) ([],a) n
def amz (iQ:Nat) (uC:B8) (l:List B8) (n:Nat):List B8:=(outs iQ (blocks iQ (aaO iQ uC l) z25 ((aaO iQ uC l).length / iQ)) n).1
end Go.Proofs.YtpchgbolambkcaaGreatDoor
end
section
set_option linter.unusedVariables false
set_option linter.unusedSimpArgs false
namespace Go.Proofs.YtpchgbolambkcaaGreatDoor
open Go Go.Ev
def abx (iQ:Nat) (uC:B8) (l:List B8) (n:Int):List B8:=if 1≤n∧n≤1048576 then amz iQ uC l n.toNat else []
def qA (w w':World) (v:Value) (l:List B8):Prop:=∃ y:ah,v=.slice y.a y.n y.c∧Own w' w.heap.size aM 1 y (aL l)∧Mod [] w w'
def many (n:Int):Nat:=if 1≤n∧n≤1048576 then n.toNat else 0
theorem akm {l m:List B8} (h:l.length=m.length) (he:∀ i,i<l.length→l.getD i 0=m.getD i 0):l=m:=by
 refine List.ext_getElem h fun i h1 h2=>?_
 have:=he i h1
 simpa [h1,h2] using this
theorem BV (x y:ah) (l m:List B8) (w:World) (hx:Bytes w x l) (hy:Bytes w y m) (hl:l.length<1000000000000):Ok Pr th [.slice x.a x.n x.c,.slice y.a y.n y.c] w fun v w'=>v=.bool (decide (l=m))∧Mod [] w w':=by
 refine aeM ?_
 unfold Nt
 have cH:=hx.len
 have gW:=hy.len
 refine cN (fun h=>?_) (fun h=>?_)
 ·have:l≠m:=fun e=>by
   have:l.length=m.length:=by rw [e]
   simp only [Bool.not_eq_true',decide_eq_false_iff_not] at h
   omega
  exact ⟨by rw [decide_eq_false this],Mod.refl _ _⟩
 ·have hlen:l.length=m.length:=by
   simp only [Bool.not_eq_false',decide_eq_true_eq] at h
   omega
  refine ep 0 l.length (fun i w'=>Mod [] w w'∧∀ j,j<i→l.getD j 0=m.getD j 0) rfl (by omega) ⟨Mod.refl _ _,fun j h=>by omega⟩ ?_ ?_
  ·rintro again i w1 _ hi ⟨hm,he⟩ aR
   have GF:=hm.trans (Mod.drew [] w1)
   refine ite_true (by rw [← cH]; simpa using hi) ((hx.aI GF).ld hi ((hy.aI GF).ld (by omega) (cN (fun h=>?_) (fun h=>?_))))
   ·have:l≠m:=fun e=>by
     subst e
     simp at h
    exact ⟨by rw [decide_eq_false this],GF⟩
   ·refine ⟨⟨by omega,by omega⟩,aR _ ⟨GF,fun j hj=>?_⟩⟩
    rcases Nat.lt_or_ge j i with h1 | h1
    ·exact he j h1
    ·have:j=i:=by omega
     subst this
     simp only [Bool.not_eq_false',decide_eq_true_eq] at h
     exact toNat_eq.1 h
  ·rintro again w1 ⟨hm,he⟩
   refine ite_false (by rw [← cH]; simp) ⟨by rw [decide_eq_true (akm hlen he)],hm⟩
theorem MD (x y:ah) (l:List B8) (w:World) (hx:Bytes w x l) (hy:Bytes w y l) (hl:l.length<1000000000000):Ok Pr th [.slice x.a x.n x.c,.slice y.a y.n y.c] w fun v w'=>v=.bool true∧Mod [] w w':=by
 refine (BV x y l l w hx hy hl).mono ?_
 rintro _ w' ⟨rfl,m⟩
 exact ⟨by rw [decide_eq_true rfl],m⟩
def low (x n:Int):Nat:=(x % 18446744073709551616 % n).toNat
theorem AI {x n:Int} (h:0<n):(low x n:Int)<n:=by
 unfold low
 have:=Int.emod_nonneg (x % 18446744073709551616) (show n≠0 by omega)
 have:=Int.emod_lt_of_pos (x % 18446744073709551616) h
 omega
theorem yw (x n:Int) (hn:0<n) (zy:n≤9223372036854775807) (w:World):Ok Pr uZ [.int .i64 x,.int .i64 n] w fun v w'=>v=.int .i64 (low x n:Int)∧w'=w:=by
 refine ahz ?_
 unfold Q8
 have e:IntKind.wrap .u64 n=n:=by rw [wrap_u64]; omega
 rw [e,wrap_u64]
 have h1:=Int.emod_nonneg (x % 18446744073709551616) (show n≠0 by omega)
 have h2:=Int.emod_lt_of_pos (x % 18446744073709551616) hn
 refine aaM hn ⟨Int.emod_nonneg _ (by decide),⟨by omega,by omega⟩,?_,rfl⟩
 unfold low
 congr 1
 omega
theorem afq (x:ah) (l:List B8) (w:World) (hx:Own w 0 aM 1 x (aL l)) (hl:l.length≤100000000):Ok Pr zV [.slice x.a x.n x.c] w fun v w'=>v=.tuple ⟨[]⟩∧Mod x.row w w':=by
 refine WD ?_
 unfold IB
 have H:=aq.tR (r:=.row aM 1 x (aL l)) hx
 have cH:=hx.bytes.len
 refine ep 0 l.length (fun i w'=>∃ m:List B8,m.length=l.length∧aq w x.row w' [.row aM 1 x (aL m)]) rfl (by omega) ⟨l,rfl,H⟩ ?_ ?_
 ·rintro again i w1 _ hi ⟨m,hm,H⟩ aR
  refine ite_true (by rw [← cH]; simpa using hi) ⟨⟨(H.bytes 0 rfl).some (by omega),by omega,by omega⟩,?_⟩
  refine H.st8 0 (i:=i) 0xEE rfl (by rw [Int.toNat_natCast,Nat.mul_one]) (by omega) rfl fun w2 H=>⟨⟨by omega,by omega⟩,aR w2 ⟨m.set i 0xEE,by simp [hm],H⟩⟩
 ·rintro again w1 ⟨m,hm,H⟩
  refine ite_false (by rw [← cH]; simp) ?_
  refine H.E5 0 0xEE hO rfl rfl (by omega) fun s' w2 H _=>?_
  exact ⟨rfl,H.mod⟩
end Go.Proofs.YtpchgbolambkcaaGreatDoor
end
section
set_option linter.unusedVariables false
set_option linter.unusedSimpArgs false
namespace Go.Proofs.YtpchgbolambkcaaGreatDoor
open Go Go.Ev
def Laid (w:World):Prop:=w.cell? ⟨0,0,none⟩=some (.iface aeL (.agg #[.pointer (some ⟨1,alv,none⟩)]))
theorem Laid.mod {w w':World} (h:Laid w) {S:List Nat} (m:Mod S w w') (h0:0∉S):Laid w':=m.cell h h0
theorem Laid.gS {w0 w:World} {S:List Nat} {L:List aB} (h:Laid w0) (H:aq w0 S w L) (h0:0∉S):Laid w:=h.mod H.mod h0
theorem ZA (w:World) (o1 o2 o3 o4:Obj) (p:Nat) (v:Value):Mod [p] w (((((w.alloc o1).alloc o2).alloc o3).alloc o4).setCell ⟨p,0,none⟩ v):=
 ((((Mod.alloc _ w o1).trans (Mod.alloc _ _ o2)).trans (Mod.alloc _ _ o3)).trans (Mod.alloc _ _ o4)).trans (Mod.setCell _ ⟨p,0,none⟩ v)
theorem ZB {w:World} {p:Nat} {u:Value} {t:TypeId} (h:bQ w p [u] t) (o1 o2 o3 o4:Obj) (v:Value):bQ (((((w.alloc o1).alloc o2).alloc o3).alloc o4).setCell ⟨p,0,none⟩ v) p [v] t:=
 ((((h.aI (Mod.alloc _ _ o1)).aI (Mod.alloc _ _ o2)).aI (Mod.alloc _ _ o3)).aI (Mod.alloc _ _ o4)).set 0 v
theorem agl (e:Addr) (p:Nat) (u:Value) (w:World) (hg:Laid w) (hp:bQ w p [u] kH) :
  Ok Pr I8 [.iface kH (.pointer (some e)),.iface WX (.pointer (some ⟨p,0,none⟩))] w fun v w'=>v=.bool true∧Mod [p] w w'∧bQ w' p [.pointer (some e)] kH:=by
 refine Calls.mono (aml e ⟨p,0,none⟩ u w hg ((hp.cell 0).trans rfl) (hp.frozen 0)) ?_
 rintro _ _ ⟨rfl,rfl⟩
 exact ⟨_,rfl,rfl,ZA _ _ _ _ _ _ _,ZB hp _ _ _ _ _⟩
theorem agX (b:Nat) (c:Int) (p:Nat) (u:Value) (w:World) (hg:Laid w) (hc:w.cell? ⟨b,0,none⟩=some (.int .i64 c)) (hp:bQ w p [u] yu) :
  Ok Pr I8 [.iface kH (.pointer (some ⟨b,0,none⟩)),.iface Xu (.pointer (some ⟨p,0,none⟩))] w fun v w'=>v=.bool true∧Mod [p] w w'∧bQ w' p [.int .i64 c] yu:=by
 refine Calls.mono (alm b c ⟨p,0,none⟩ u w hg hc ((hp.cell 0).trans rfl) (hp.frozen 0)) ?_
 rintro _ _ ⟨rfl,rfl⟩
 exact ⟨_,rfl,rfl,ZA _ _ _ _ _ _ _,ZB hp _ _ _ _ _⟩
theorem agY (b:Nat) (c:Int) (w:World) (hc:w.cell? ⟨b,0,none⟩=some (.int .i64 c)):Ok Pr X2 [.iface kH (.pointer (some ⟨b,0,none⟩)),.iface yu (.int .i64 c)] w fun v w'=>v=.bool true∧w'=w:=by
 refine Calls.mono (alg b c w hc) ?_
 rintro _ _ ⟨rfl,rfl⟩
 exact ⟨_,rfl,rfl,rfl⟩
theorem alF:zc Pr yu=[.int .i64 0]:=by kernel_rfl
theorem aoe:zc Pr kH=[.pointer none]:=by kernel_rfl
theorem X5 (b:Nat) (c:Int) (w:World) (hg:Laid w) (hc:w.cell? ⟨b,0,none⟩=some (.int .i64 c)):Ok Pr Cv [.iface kH (.pointer (some ⟨b,0,none⟩))] w fun v w'=>v=.int .i64 c∧Mod [] w w':=by
 refine ahA ?_
 unfold Q9
 rw [alF]
 refine (aq.start w).nw fun p w1 H hp=>?_
 refine YX (ite_false rfl (aC (agX b c p _ w1 (hg.gS H (by simp)) (H.mod.yQ hc) (H.av 0 rfl)) ?_))
 rintro _ w2 ⟨rfl,m2,h2⟩
 have H2:=H.nr (r':=.av p [.int .i64 c] yu) 0 rfl m2 (fun c hc=>.inl hc) h2 (fun c hc=>.inl hc)
 exact bh (ite_true rfl (H2.au 0 rfl rfl rfl ⟨rfl,H2.mod⟩))
theorem ah9 (w:World):Ok Pr uY [.nilIface] w fun v w'=>v=.int .i64 0∧w'=w:=by
 refine Xv ?_
 unfold Jv
 exact ⟨rfl,rfl⟩
theorem aiB (b:Nat) (c:Int) (s:ByteArray) (w:World) (hg:Laid w) (hb:bQ w b [.int .i64 c,.string s] qo) (hc:c≠0):Ok Pr uY [.iface kH (.pointer (some ⟨b,0,none⟩))] w fun v w'=>v=.int .i64 c∧Mod [] w w':=by
 refine Xv ?_
 unfold Jv
 rw [aoe]
 have GK:w.cell? ⟨b,0,none⟩=some (.int .i64 c):=(hb.cell 0).trans rfl
 refine YX (ite_false rfl ((aq.start w).nw fun p w1 H hp=>iB fun go bX=>?_))
 have H:=H.drew
 refine aC (agl ⟨b,0,none⟩ p _ _ (hg.gS H (by simp)) (H.av 0 rfl)) ?_
 rintro _ w3 ⟨rfl,m3,h3⟩
 have H:=H.nr (r':=.av p [.pointer (some ⟨b,0,none⟩)] kH) 0 rfl m3 (fun c hc=>.inl hc) h3 (fun c hc=>.inl hc)
 have DI:w3.cell? (Addr.add ⟨b,0,none⟩ 0)=some (.int .i64 c):=by rw [KT]; exact H.mod.yQ GK
 refine bh (H.bO 0 rfl rfl rfl (H.bO 0 rfl rfl rfl (ite_false rfl (nc ⟨c,DI,H.bO 0 rfl rfl rfl (ite_false (decide_eq_false hc) (nc ⟨c,DI,?_⟩))⟩))))
 refine aC (agY b c _ (by rw [← KT]; exact DI)) ?_
 rintro _ _ ⟨rfl,rfl⟩
 refine bh (H.bO 0 rfl rfl rfl (ite_false rfl (nc ⟨c,DI,?_⟩)))
 refine aC (X5 b c _ (hg.gS H (by simp)) (by rw [← KT]; exact DI)) ?_
 rintro _ w5 ⟨rfl,m5⟩
 refine cr ⟨RN m5 DI,H.kept m5 0 rfl rfl 1,ite_false (by simp) (bX w5 ?_)⟩
 have H:=H.frame m5
 refine H.bO 0 rfl rfl rfl (nc ⟨c,?_,rfl,H.mod⟩)
 rw [KT]; exact H.mod.yQ GK
end Go.Proofs.YtpchgbolambkcaaGreatDoor
end
section
set_option linter.unusedVariables false
set_option linter.unusedSimpArgs false
namespace Go.Proofs.YtpchgbolambkcaaGreatDoor
open Go Go.Ev Go.ChangeShapes Go.WideShapes Go.ChangeAt Go.RowKit
theorem own:ownKnob Tryz.prog.godebug=none:=by kernel_rfl
theorem laidOut:laidOutB Tryz.prog=true:=by kernel_rfl
theorem et:Tryz.prog.globalNamed "errors.errorType"=some 0:=by kernel_rfl
theorem rt:(Tryz.prog.cutTypes.find? (·.1 == "internal/reflectlite.rtype")).map (·.2)=some 196:=by kernel_rfl
theorem amA:((List.range 413).filter fun t=>Tryz.prog.rowNamed t [101,114,114,111,114])=[33]:=by kernel_rfl
theorem anq:Tryz.prog.types.size=413:=by kernel_rfl
theorem CP {W:World} (h:laidMetH Tryz.prog [("errors.errorType",Rows.laid_errors_errorType)] W):Laid W:=by
 have h':laidMet Tryz.prog [] W∧handlesMet Tryz.prog [("errors.errorType",Rows.laid_errors_errorType)] W:=h
 obtain ⟨name,u,ty,e1,e2,e3,e4,e5⟩:=h'.2 _ (List.mem_singleton.2 rfl)
 have en:name=[101,114,114,111,114]:=(Option.some.inj e1).symm
 subst en
 obtain rfl:=Option.some.inj (rt.symm.trans e2)
 have hm:ty∈(List.range 413).filter fun t=>Tryz.prog.rowNamed t [101,114,114,111,114]:=List.mem_filter.2 ⟨List.mem_range.2 (by rw [← anq]; exact e3),e4⟩
 rw [amA] at hm
 obtain rfl:=List.mem_singleton.1 hm
 have hh:typeHandle Tryz.prog 33=.pointer (some ⟨1,33,none⟩):=by kernel_rfl
 rw [hh] at e5
 have:=World.var?_cell et e5 0
 simpa [Laid] using this
noncomputable def qW (os:Os):World:=
 let w0:=World.holding Tryz.prog os ⟨#[],#[],[]⟩
 { w0 with heap:=w0.heap.modify 0 fun
   | .cells _ t frozen=>.cells #[.iface 196 (.agg #[.pointer (some ⟨1,33,none⟩)])] t frozen
   | o=>o }
theorem B6 (os:Os) (args:Array Value):laidMetH Tryz.prog [("errors.errorType",Rows.laid_errors_errorType)] ((qW os).forCall (fun _ _=>0) ⟨#[],args,[]⟩).memory:=
 laidMetH_of_parts (laidMet_nil _ _) (by kernel_rfl)
end Go.Proofs.YtpchgbolambkcaaGreatDoor
end
section
set_option linter.unusedVariables false
set_option linter.unusedSimpArgs false
namespace Go.Ev
open Go Go.RowKit Go.ChangeShapes Go.WideShapes Go.ChangeAt Go.Deep
variable {H:Type} {enc:TypeId×Value→H} {P:Program} {w:World} {held:Bool}
theorem Kx {k:IntKind} {n:Int} (h:(Lit.int k n).wf=true):k.min≤n∧n≤k.max:=by
 simpa [Lit.wf] using h
theorem alG {n:Int} (h:(Lit.int .i64 n).wf=true):-9223372036854775808≤n∧n≤9223372036854775807:=by
 have h1:=Kx h
 have e1:IntKind.min .i64 = -9223372036854775808:=by decide
 have e2:IntKind.max .i64=9223372036854775807:=by decide
 rw [e1,e2] at h1
 exact h1
theorem ajH {t e:TypeId} {k:IntKind} {v:Value} {d:DataW H} {ps:List MemPlace} (ht:P.underlying t=some (.slice e)) (he:P.underlying e=some (.int k)) (hc:P.cellsOf e=1) {r:Reach} {base:Nat} (hv:Value.okWide P w r base t v)
  (h:DataW.Trod enc P w 0 (fun _=>true) held t v d ps):∃ (s:ah) (xs:List Int),v=.slice s.a s.n s.c∧TD w s k xs∧s.n≤9223372036854775807:=by
 obtain ⟨va,vn,vc,rfl⟩:=Go.WideShapes.okWide_slice ht hv
 obtain ⟨fuel,h⟩:=h
 rcases open_ints ht he hc h with ⟨gN,-⟩ | ⟨a,len,cap,zs,gN,-,hl,hm,hz,-,mG,hw⟩
 ·refine ⟨⟨none,0,0⟩,[],by simpa [Value.cells] using gN,⟨Sl.nil w 1,fun x hx=>by cases hx⟩,by show 0≤_; omega⟩
 ·simp only [if_true] at hz
  refine ⟨⟨some a,len,cap⟩,zs.take len,by simpa [Value.cells] using gN,⟨⟨?_,hl,fun _=>rfl,fun i x hx=>?_⟩,fun x hx=>Kx (hw x (List.mem_of_mem_take hx))⟩,?_⟩
  ·simp only [List.length_map,List.length_take,Nat.mul_one]; omega
  ·rw [List.getElem?_map,List.getElem?_take] at hx
   split at hx
   ·rename_i hi
    have:=mG i (by omega)
    rw [List.getD_eq_getElem?_getD] at this
    cases GL:zs[i]? with
    | none=>rw [GL] at hx; cases hx
    | some z=>
     rw [GL] at hx this
     simp only [Option.map_some,Option.some.injEq] at hx
     subst hx
     exact this
   ·cases hx
  ·simp only [maxLen] at hm; show len≤_; omega
theorem Xw {s:ah} {xs:List Int} (h:TD w s .u8 xs):Bytes w s (xs.map (BitVec.ofInt 8)):=by
 have e:aL (xs.map (BitVec.ofInt 8))=xs.map (Value.int .u8):=by
  unfold aL
  rw [List.map_map]
  refine List.map_congr_left fun x hx=>?_
  have h1:=h.2 x hx
  have e1:IntKind.min .u8=0:=by decide
  have e2:IntKind.max .u8=255:=by decide
  rw [e1,e2] at h1
  show Value.int .u8 _=_
  congr 1
  rw [BitVec.toNat_ofInt]
  omega
 unfold Bytes
 rw [e]
 exact h.1
theorem ai5 {t e:TypeId} {v:Value} {d:DataW H} {ps:List MemPlace} (ht:P.underlying t=some (.slice e)) (he:P.underlying e=some (.int .u8)) (hc:P.cellsOf e=1) {r:Reach} {base:Nat} (hv:Value.okWide P w r base t v)
  (h:DataW.Trod enc P w 0 (fun _=>true) held t v d ps):∃ (s:ah) (l:List B8),v=.slice s.a s.n s.c∧Bytes w s l∧s.n≤9223372036854775807:=by
 obtain ⟨s,xs,h1,h2,h3⟩:=ajH ht he hc hv h
 exact ⟨s,_,h1,Xw h2,h3⟩
end Go.Ev
end
section
set_option linter.unusedVariables false
set_option linter.unusedSimpArgs false
namespace Go.Ev
open Go Go.RowKit
theorem akn {A1 A2 A3 A4:Type} {mk:A1→A2→A3→A4→Fr} {body:(A1→A2→A3→A4→World→Prop)→A1→A2→A3→A4→World→Prop} {y1:A1} {y2:A2} {y3:A3} {y4:A4} {v:World} (I:A1→A2→A3→A4→World→Prop) (μ:A1→A2→A3→A4→World→Nat) (hi:I y1 y2 y3 y4 v)
  (hb:∀ (again:A1→A2→A3→A4→World→Prop) x1 x2 x3 x4 w,I x1 x2 x3 x4 w→(∀ kX nX uB GM w',I kX nX uB GM w'→μ kX nX uB GM w'<μ x1 x2 x3 x4 w→again kX nX uB GM w')→body again x1 x2 x3 x4 w):abr mk body y1 y2 y3 y4 v:=by
 intro X hX
 suffices ∀ n x1 x2 x3 x4 w,μ x1 x2 x3 x4 w<n→I x1 x2 x3 x4 w→X (mk x1 x2 x3 x4) w from this _ y1 y2 y3 y4 v (Nat.lt_succ_self _) hi
 intro n
 induction n with
 | zero=>intro x1 x2 x3 x4 w h; omega
 | succ n ih=>intro x1 x2 x3 x4 w hn hI; exact hX x1 x2 x3 x4 w (hb _ x1 x2 x3 x4 w hI fun kX nX uB GM w' h1 h2=>ih kX nX uB GM w' (by omega) h1)
end Go.Ev
end
section
set_option linter.unusedVariables false
set_option linter.unusedSimpArgs false
namespace Go.Ev
open Go Go.RowKit
variable {P:Program}
def i64 (n:Int):Value:=.int .i64 n
def dw (l:List Int):List Value:=l.map i64
@[simp] theorem asC (l:List Int):(dw l).length=l.length:=by simp [dw]
theorem aiC (a b:List Int):dw (a ++ b)=dw a ++ dw b:=by simp [dw]
theorem ako (l:List Int) (i:Nat) (h:i<l.length):(dw l)[i]? = some (.int .i64 (l.getD i 0)):=by simp [dw,i64,h]
def jX (w:World) (s:ah) (l:List Int):Prop:=Sl w s 1 (dw l)
theorem jX.len {w:World} {s:ah} {l:List Int} (h:jX w s l):l.length=s.n:=by simpa using Sl.len h
theorem jX.aI {w w':World} {s:ah} {l:List Int} (h:jX w s l) (m:Mod [] w w'):jX w' s l:=Sl.aI h m
theorem jX.ld {w:World} {s:ah} {l:List Int} (h:jX w s l) {i:Nat} (hi:i<l.length) {x:Int} (hx:x=(i:Int)) {K:Int→Prop} (hk:K (l.getD i 0)) :
  aZ s.a x s.n (au .i64 (Addr.add (base s.a) (Int.toNat x * 1)) w K):=by
 subst hx
 have hl:=h.len
 refine ⟨⟨h.pre (by omega),by omega,by omega⟩,_,?_,hk⟩
 rw [Int.toNat_natCast,Nat.mul_one]
 exact h.cell i _ (ako l i hi)
theorem Own.dz {w:World} {lo:Nat} {e:TypeId} {s:ah} {l:List Int} (h:Own w lo e 1 s (dw l)):jX w s l:=h.sl
section
variable {w0 w:World} {S:List Nat} {L:List aB}
theorem aq.dz (H:aq w0 S w L) (k:Nat) {e:TypeId} {s:ah} {l:List Int} (hk:L[k]? = some (.row e 1 s (dw l))):jX w s l:=H.gQ k hk
theorem aq.aby (H:aq w0 S w L) (k:Nat) {t ty e t1:TypeId} {s:ah} {vs:List Int} {n:Int} {K:ah→World→Prop} (dH:fQ P t e 1 8) (hk:L[k]? = some (.row e 1 s (dw vs)))
  (hm:s.n≤10000000000000) (h:∀ s' w',aq w0 S w' (L.set k (.row e 1 s' (dw (vs ++ [n]))))→s'.n=s.n+1→K s' w'):Ev.nw t1 [.int .i64 n] w fun p w5=>cS P [t,t] ty [.slice s.a s.n s.c,.slice (some p) 1 1] w5 K:=
 H.vJ k dH hk rfl (by simp [fW]) (by omega) (by omega) fun s' w' H' hn=>h s' w' (by rw [aiC]; exact H') hn
theorem akp (n:Nat) (v:Value):oK n [v]=List.replicate n v:=by
 unfold oK
 induction n with
 | zero=>rfl
 | succ n ih=>rw [List.replicate_succ,List.flatten_cons,ih]; rfl
theorem ai6 (n:Nat):oK n [.int .u8 0]=aL (List.replicate n 0):=by rw [akp]; simp [aL,u8]
theorem aq.sQ (H:aq w0 S w L) {t e:TypeId} {n:Nat} {x y:Int} {K:ah→World→Prop} (dH:fQ P t e 1 1) (hz:zc P e=[.int .u8 0]) (hx:x=(n:Int)) (hy:y=(n:Int)) (hn:n≤1000000000)
  (h:∀ s w',aq w0 S w' (L ++ [.row e 1 s (aL (List.replicate n 0))])→s.n=n→K s w'):oP P e x y w K:=by
 refine H.mkS dH hx hy (Nat.le_refl n) (by omega) (by omega) fun b w' H' _=>h _ w' ?_ rfl
 rw [hz,ai6,Nat.mul_one,List.take_of_length_le (by simp)] at H'
 exact H'
end
theorem wrap_i64 {n:Int} (h1:-9223372036854775808≤n) (h2:n<9223372036854775808):IntKind.wrap .i64 n=n:=by
 have e:IntKind.wrap .i64 n=if n % 18446744073709551616 ≥ 9223372036854775808 then n % 18446744073709551616 - 18446744073709551616 else n % 18446744073709551616:=by
  simp [IntKind.wrap,IntKind.signed,IntKind.bits]
 rw [e]
 split <;> omega
def num:List B8→Nat
 | []=>0
 | b :: r=>b.toNat+256 * num r
def ptk (N d i:Nat):Nat:=N / 2 ^ (d * i) % 2 ^ d
end Go.Ev
end
section
set_option linter.unusedVariables false
set_option linter.unusedSimpArgs false
namespace Go.Ev
open Go Go.RowKit
theorem aq.add {w0 w:World} {S:List Nat} {L:List aB} {r:aB} (H:aq w0 S w L) (hr:r.ok w) (ho:∀ b∈r.fp,b∈S∨w0.heap.size≤b) (hd:∀ (k:Nat) (s:aB),L[k]? = some s→∀ b∈s.fp,b∉r.fp):aq w0 S w (L ++ [r]):=by
 have e:∀ {k:Nat} {s:aB},(L ++ [r])[k]? = some s→(L[k]? = some s∧k<L.length)∨(s=r∧k=L.length):=fun {k s} h=>by
  rcases Nat.lt_or_ge k L.length with hk | hk
  ·rw [List.getElem?_append_left hk] at h; exact .inl ⟨h,hk⟩
  ·rw [List.getElem?_append_right hk] at h
   rcases Nat.eq_zero_or_pos (k - L.length) with e | e
   ·rw [e] at h; simp at h; exact .inr ⟨h.symm,by omega⟩
   ·rw [List.getElem?_eq_none (by simp; omega)] at h; cases h
 refine ⟨H.mod,fun k s hs=>?_,fun k s hs b hb=>?_,fun j k s t j6 hs ht b hb j4=>?_⟩
 ·rcases e hs with ⟨h,_⟩ | ⟨rfl,_⟩
  ·exact H.ok k s h
  ·exact hr
 ·rcases e hs with ⟨h,_⟩ | ⟨rfl,_⟩
  ·exact H.own k s h b hb
  ·exact ho b hb
 ·rcases e hs with ⟨h,_⟩ | ⟨rfl,hj⟩
  ·rcases e ht with ⟨h',_⟩ | ⟨rfl,_⟩
   ·exact H.apart j k s t j6 h h' b hb j4
   ·exact hd j s h b hb j4
  ·rcases e ht with ⟨h',_⟩ | ⟨rfl,hk⟩
   ·exact hd k t h' b j4 hb
   ·omega
theorem aq.abz {w0 w w':World} {S:List Nat} {L:List aB} {r s:aB} (H:aq w0 S w L) (m:Mod [] w w') (hr:r.ok w') (hs:s.ok w') (hrf:∀ b∈r.fp,w.heap.size≤b) (GN:∀ b∈s.fp,w.heap.size≤b) (hd:∀ b∈r.fp,b∉s.fp):aq w0 S w' (L ++ [r,s]):=by
 have H1:=H.push m hr hrf
 have H2:=H1.add hs (fun b hb=>.inr (Nat.le_trans H.mod.size (GN b hb))) fun k t ht b hb j4=>by
  rcases Nat.lt_or_ge k L.length with hk | hk
  ·rw [List.getElem?_append_left hk] at ht
   have:=t.lt w (H.ok k t ht) b hb
   have:=GN b j4
   omega
  ·rw [List.getElem?_append_right hk] at ht
   rcases Nat.eq_zero_or_pos (k - L.length) with e | e
   ·rw [e] at ht; simp at ht; subst ht; exact hd b hb j4
   ·rw [List.getElem?_eq_none (by simp; omega)] at ht; cases ht
 rw [List.append_assoc] at H2
 exact H2
theorem aq.clone {P:Program} {w0 w:World} {S:List Nat} {L:List aB} (H:aq w0 S w L) {t ty e:TypeId} {sz bytes:Nat} {x:ah} {us:List Value} {K:ah→World→Prop} (dH:fQ P t e sz bytes) (hx:Sl w x sz us) (h1:∀ u∈us,fW u=true) (hm:x.n * bytes≤140737488355328) (Gv:x.n≤9223372036854775807)
  (h:∀ s' w',aq w0 S w' (L ++ [.row e sz s' us])→s'.n=x.n→K s' w'):cS P [t,t] ty [.slice none 0 0,.slice x.a x.n x.c] w K:=by
 have H1:=H.jC e sz
 refine H1.app (s:=⟨none,0,0⟩) (vs:=[]) L.length dH (by simp) hx h1 (by rw [Nat.zero_add]; exact hm) (by rw [Nat.zero_add]; exact Gv) fun s' w' H' hn=>h s' w' ?_ (by rw [hn]; exact Nat.zero_add _)
 rw [List.set_append_right _ _ (Nat.le_refl _),Nat.sub_self,List.nil_append] at H'
 exact H'
theorem aq.CZ {P:Program} {w0 w:World} {S:List Nat} {L:List aB} (H:aq w0 S w L) {t ty e:TypeId} {x:ah} {us:List B8} {K:ah→World→Prop} (dH:fQ P t e 1 1) (hx:Bytes w x us) (hm:x.n≤10000000000000)
  (h:∀ s' w',aq w0 S w' (L ++ [.row e 1 s' (aL us)])→s'.n=x.n→K s' w'):cS P [t,t] ty [.slice none 0 0,.slice x.a x.n x.c] w K:=
 H.clone dH hx (Zy us) (by omega) (by omega) h
end Go.Ev
namespace Go.Proofs.YtpchgbolambkcaaGreatDoor
open Go Go.Ev
def eR (w:World) (e:Value) (c:Int):Prop:=(e=.nilIface∧c=0)∨∃ b s,e=.iface kH (.pointer (some ⟨b,0,none⟩))∧bQ w b [.int .i64 c,.string s] qo∧c≠0
def FV:Value→List Nat
 | .iface _ (.pointer (some a))=>[a.block]
 | _=>[]
def aB.err (e:Value) (c:Int):aB where
 fp:=FV e
 ok w:=eR w e c
 iu w w' h k:=by
  rcases k with k | ⟨b,s,rfl,hb,hc⟩
  ·exact .inl k
  ·exact .inr ⟨b,s,rfl,(h b (by simp [FV])).trans hb,hc⟩
 lt w h b hb:=by
  rcases h with ⟨rfl,_⟩ | ⟨a,s,rfl,h,_⟩
  ·cases hb
  ·simp only [FV,List.mem_singleton] at hb; subst hb; exact h.lt
def gy (w w':World) (e:Value) (c:Int):Prop:=eR w' e c∧∀ b∈FV e,w.heap.size≤b
theorem gy.zero (w w':World):gy w w' .nilIface 0:=⟨.inl ⟨rfl,rfl⟩,fun b hb=>by cases hb⟩
theorem gy.mk {w w':World} {b:Nat} {c:Int} {s:ByteArray} (h:bQ w' b [.int .i64 c,.string s] qo) (hb:w.heap.size≤b) (hc:c≠0):gy w w' (.iface kH (.pointer (some ⟨b,0,none⟩))) c:=
 ⟨.inr ⟨b,s,rfl,h,hc⟩,fun a ha=>by simp only [FV,List.mem_singleton] at ha; subst ha; exact hb⟩
theorem gy.from {w0 w w':World} {e:Value} {c:Int} (h:gy w w' e c) (hs:w0.heap.size≤w.heap.size):gy w0 w' e c:=⟨h.1,fun b hb=>Nat.le_trans hs (h.2 b hb)⟩
theorem eR.isNil {w:World} {e:Value} {c:Int} (h:eR w e c) {K:Bool→Prop} (hk:K (decide (c=0))):dF e K:=by
 rcases h with ⟨rfl,rfl⟩ | ⟨b,s,rfl,_,hc⟩
 ·exact hk
 ·rw [decide_eq_false hc] at hk; exact hk
theorem B9 (e:Value) (c:Int) (w:World) (hg:Laid w) (h:eR w e c):Ok Pr uY [e] w fun v w'=>v=.int .i64 c∧Mod [] w w':=by
 rcases h with ⟨rfl,rfl⟩ | ⟨b,s,rfl,hb,hc⟩
 ·refine (ah9 w).mono ?_
  rintro _ _ ⟨rfl,rfl⟩
  exact ⟨rfl,Mod.refl _ _⟩
 ·exact aiB b c s w hg hb hc
theorem _root_.Go.Ev.aq.err {w0 w:World} {S:List Nat} {L:List aB} (H:aq w0 S w L) (k:Nat) {e:Value} {c:Int} (hk:L[k]? = some (aB.err e c)):eR w e c:=H.ok k _ hk
theorem _root_.Go.Ev.aq.jY {w0 w w':World} {S:List Nat} {L:List aB} (H:aq w0 S w L) {er:Value} {c:Int} (m:Mod [] w w') (he:gy w w' er c):aq w0 S w' (L ++ [aB.err er c]):=H.push m he.1 he.2
theorem ZC:fQ Pr nJ bn 1 8:=fQ.of (by kernel_rfl)
end Go.Proofs.YtpchgbolambkcaaGreatDoor
end
section
set_option linter.unusedVariables false
set_option linter.unusedSimpArgs false
namespace Go.Ev
open Go Go.RowKit
theorem lz.ofs {w:World} {S:List Nat} {b:Nat} {ss:List ah} {ls:List (List B8)} {t:TypeId} (h:bQ w b (ss.map ah.v) t) (hb:b∉S) (hl:ss.length=ls.length) (hx:∀ (i:Nat) (x:ah) (l:List B8),ss[i]? = some x→ls[i]? = some l→Bytes w x l∧off S x) :
  lz w S ⟨some ⟨b,0,none⟩,ss.length,ss.length⟩ ls:=
 ⟨ss,(by
  have:=h.sl 1 ss.length ss.length (by simp) (by omega)
  rw [Nat.mul_one,List.take_of_length_le (by simp)] at this
  exact this),fun _ a ha=>by simp only [Option.some.injEq] at ha; subst ha; exact hb,hl,hx⟩
theorem lz.aof {w:World} {S:List Nat} {b:Nat} {x y:ah} {l m:List B8} {t:TypeId} (h:bQ w b [x.v,y.v] t) (hb:b∉S) (hx:Bytes w x l) (ox:off S x) (hy:Bytes w y m) (oy:off S y):lz w S ⟨some ⟨b,0,none⟩,2,2⟩ [l,m]:=
 lz.ofs (ss:=[x,y]) h hb rfl fun i z k hz hk=>by
  match i with
  | 0=>
   simp only [List.getElem?_cons_zero,Option.some.injEq] at hz hk
   subst hz hk; exact ⟨hx,ox⟩
  | 1=>
   simp only [List.getElem?_cons_succ,List.getElem?_cons_zero,Option.some.injEq] at hz hk
   subst hz hk; exact ⟨hy,oy⟩
  | i+2=>simp at hz
def Fz (w:World) (b:Nat) (cs:List Value) (t:TypeId):Prop:=∃ fr,w.heap[b]? = some (.cells ⟨cs⟩ t fr)
def aB.fz (b:Nat) (cs:List Value) (t:TypeId):aB where
 fp:=[b]
 ok w:=Fz w b cs t
 iu w w' h k:=by obtain ⟨fr,k⟩:=k; exact ⟨fr,(h b (by simp)).trans k⟩
 lt w h c hc:=by
  simp only [List.mem_singleton] at hc; subst hc
  obtain ⟨fr,h⟩:=h
  exact (Array.getElem?_eq_some_iff.1 h).1
theorem Fz.cell {w:World} {b:Nat} {cs:List Value} {t:TypeId} (h:Fz w b cs t) (i:Nat):w.cell? ⟨b,i,none⟩=cs[i]?:=by
 obtain ⟨fr,h⟩:=h; simp [World.cell?,h]
theorem Fz.sl {w:World} {b:Nat} {cs:List Value} {t:TypeId} (h:Fz w b cs t) (sz n c:Nat) (hn:n * sz≤cs.length) (hc:n≤c):Sl w ⟨some ⟨b,0,none⟩,n,c⟩ sz (cs.take (n * sz)):=by
 refine ⟨by simp only [List.length_take]; omega,hc,fun _=>rfl,fun i v hv=>?_⟩
 show w.cell? (Addr.add ⟨b,0,none⟩ i)=some v
 rw [an,h.cell]
 rw [List.getElem?_take] at hv
 split at hv
 ·exact hv
 ·cases hv
theorem lz.ld0 {w0 w:World} {S:List Nat} {s:ah} {ls:List (List B8)} (h:lz w0 S s ls) (m:Mod S w0 w) {i:Nat} (hi:i<ls.length) {K:ah→Prop} (hk:∀ x,Bytes w0 x (ls.getD i [])→off S x→K x) :
  aZ s.a (i:Int) s.n (ay (Addr.add (base s.a) (Int.toNat (i:Int) * 1)) w K):=by
 have hn:=h.len
 obtain ⟨ss,h1,h2,h3,h4⟩:=h.ex
 have DG:=h1.mod m h2
 refine ⟨⟨h1.pre (by omega),by omega,by omega⟩,ss[i]'(by omega),?_,?_⟩
 ·rw [Int.toNat_natCast,Nat.mul_one]
  exact DG.cell i _ (by simp [show i<ss.length by omega,ah.v])
 ·have:=h4 i (ss[i]'(by omega)) (ls.getD i []) (by simp [show i<ss.length by omega]) (by simp [hi])
  exact hk _ this.1 this.2
theorem lz.at {w0:World} {s:ah} {ls:List (List B8)} (h:lz w0 [] s ls) {i:Nat} (hi:i<ls.length):∃ u:ah,Bytes w0 u (ls.getD i [])∧s.a.isSome=true∧∀ w,Mod [] w0 w→w.cell? (Addr.add (base s.a) (Int.toNat (i:Int) * 1))=some (.slice u.a u.n u.c):=by
 have hn:=h.len
 obtain ⟨ss,h1,h2,h3,h4⟩:=h.ex
 refine ⟨ss[i]'(by omega),(h4 i (ss[i]'(by omega)) (ls.getD i []) (by simp [show i<ss.length by omega]) (by simp [hi])).1,h1.pre (by omega),fun w m=>?_⟩
 rw [Int.toNat_natCast,Nat.mul_one]
 exact (h1.aI m).cell i _ (by simp [show i<ss.length by omega,ah.v])
theorem KH {w w':World} {a:Addr} {v:Value} (h:w.cell? a=some v) (h':w'.cell? a=some v):kept a 1 w w':=fun j hj=>by
 have:j=0:=by omega
 subst this
 have e:a.add 0=a:=by unfold Addr.add; split <;> simp_all
 rw [e,h,h']
theorem aq.only {w0 w:World} {S:List Nat} {L:List aB} (H:aq w0 S w L) (k:Nat) {r:aB} (hk:L[k]? = some r):aq w0 S w [r]:=
 ⟨H.mod,fun j s hs=>by
  match j with
  | 0=>simp at hs; subst hs; exact H.ok k _ hk
  | j+1=>simp at hs,fun j s hs=>by
  match j with
  | 0=>simp at hs; subst hs; exact H.own k _ hk
  | j+1=>simp at hs,fun i j s t GJ hs ht=>by
  match i,j with
  | 0,0=>exact absurd rfl GJ
  | 0,j+1=>simp at ht
  | i+1,_=>simp at hs⟩
theorem aq.two {w0 w:World} {S:List Nat} {L:List aB} (H:aq w0 S w L) (k l:Nat) {r s:aB} (hk:L[k]? = some r) (hl:L[l]? = some s) (bR:k≠l):aq w0 S w [r,s]:=
 (H.only k hk).add (H.ok l _ hl) (H.own l _ hl) fun j u hj b hb=>by
  match j with
  | 0=>
   simp at hj; subst hj
   exact H.apart k l _ _ bR hk hl b hb
  | j+1=>simp at hj
theorem afE {P:Program} (w:World) (t ti ty e:TypeId) (i:TypeInfo) (z:Value) {k:IntKind} (ht:P.underlying t=some (.slice e)) (zD:P.underlying ti=some (.int k)) (hi:P.info? e=some i) (hz:i.zero=some z)
  (g vK KU m:Nat) (cur:Array Value) (hg:w.heap[g]? = some (.cells cur e (0,0))) (hs:i.size=1) (v:Value) (zC:z.cells=#[v]) (hv:v.oneCell'=true) (hm:m * i.bytes≤281474976710656) (Gv:m<9223372036854775808)
  (qz:vK+m≤KU) (vL:vK+m≤cur.size) :
  (Builtin.append_ #[t,ti] ty #[.slice (some ⟨g,0,none⟩) vK KU,.int .i64 (m:Int)]).run P w =
   .ok (.slice (some ⟨g,0,none⟩) (vK+m) KU) (w.setRow g (cur.toList.take vK ++ List.replicate m v ++ cur.toList.drop (vK+m)).toArray):=by
 have Ux:IntKind.wrap .i64 (m:Int)=(m:Int):=wrap_i64 (by omega) (by omega)
 have hle:¬ ((m:Int) * (i.bytes:Int) > 2 ^ 48):=by
  have e1:((m:Int) * (i.bytes:Int))=((m * i.bytes:Nat):Int):=by rw [Int.natCast_mul]
  rw [e1,show (2:Int) ^ 48=281474976710656 by decide]
  omega
 have aog:¬ (281474976710656<(m:Int) * (i.bytes:Int)):=fun h=>hle (by rw [show (2:Int) ^ 48=281474976710656 by decide]; exact h)
 have qF:(Builtin.zeroCells z.cells m).toList=List.replicate m v:=by
  unfold Builtin.zeroCells
  rw [zC]
  refine List.ext_getElem (by simp) fun j h1 h2=>?_
  simp [Nat.mod_one]
 have pO:=run_storeCells_at (P:=P) g (vK * i.size) e (List.replicate m v) 0 cur w hg (by rw [hs,List.length_replicate]; omega) fun u hu=>by rw [List.eq_of_mem_replicate hu]; exact hv
 simp only [Nat.add_zero,hs,Nat.mul_one,List.length_replicate] at pO
 rcases Nat.eq_zero_or_pos m with rfl | h0
 ·have A6:(w.setRow g (cur.toList.take vK ++ List.replicate 0 v ++ cur.toList.drop (vK+0)).toArray)=w:=by
   have:=setRow_self w g cur e (0,0) hg
   simpa using this
  rw [A6]
  simp [Builtin.append_,run_underlying ht,run_underlying zD,Go.sizeOf,Go.typeInfo,hi,asInt,asIntOf,show vK≤KU by omega,storeCells,show IntKind.wrap .i64 0=0 by decide]
 ·have gp:¬ m * i.size=0:=by rw [hs]; omega
  simp [Builtin.append_,run_underlying ht,run_underlying zD,Go.sizeOf,Go.typeInfo,hi,asInt,asIntOf,Ux,show ¬ ((m:Int)<0) by omega,aog,qz,hs,zeroValue,hz,qF,Addr.add_lit,pO,show ¬ m=0 by omega]
end Go.Ev
namespace Go.Proofs.YtpchgbolambkcaaGreatDoor
open Go Go.Ev
set_option linter.unusedVariables false
end Go.Proofs.YtpchgbolambkcaaGreatDoor
end
section
set_option linter.unusedVariables false
set_option linter.unusedSimpArgs false
namespace Go.Ev
open Go
set_option maxRecDepth 20000
set_option linter.unusedVariables false
theorem aq.join {w0 w w':World} {S:List Nat} {L L2:List aB} (H:aq w0 S w L) (H2:aq w [] w' L2):aq w0 S w' (L ++ L2):=by
 have HF:=H.frame H2.mod
 have TE:∀ (k:Nat) (r:aB),L2[k]? = some r→∀ b∈r.fp,w.heap.size≤b:=fun k r hk b hb=>(H2.own k r hk b hb).resolve_left (by simp)
 have lt1:∀ (k:Nat) (r:aB),L[k]? = some r→∀ b∈r.fp,b<w.heap.size:=fun k r hk b hb=>r.lt w (H.ok k r hk) b hb
 have split:∀ (k:Nat) (r:aB),(L ++ L2)[k]? = some r→(k<L.length∧L[k]? = some r)∨(L.length≤k∧L2[k - L.length]? = some r):=fun k r hk=>by
  rcases Nat.lt_or_ge k L.length with h | h
  ·rw [List.getElem?_append_left h] at hk; exact .inl ⟨h,hk⟩
  ·rw [List.getElem?_append_right h] at hk; exact .inr ⟨h,hk⟩
 refine ⟨HF.mod,fun k r hk=>?_,fun k r hk b hb=>?_,fun j k r s j6 hj hk b hb kY=>?_⟩
 ·rcases split k r hk with ⟨_,h⟩ | ⟨_,h⟩
  ·exact HF.ok k r h
  ·exact H2.ok _ r h
 ·rcases split k r hk with ⟨_,h⟩ | ⟨_,h⟩
  ·exact HF.own k r h b hb
  ·exact .inr (Nat.le_trans H.mod.size (TE _ r h b hb))
 ·rcases split j r hj with ⟨h0,h⟩ | ⟨h0,h⟩ <;> rcases split k s hk with ⟨h1,h'⟩ | ⟨h1,h'⟩
  ·exact HF.apart j k r s j6 h h' b hb kY
  ·have:=lt1 j r h b hb
   have:=TE _ s h' b kY
   omega
  ·have:=lt1 k s h' b kY
   have:=TE _ r h b hb
   omega
  ·exact H2.apart _ _ r s (by omega) h h' b hb kY
theorem ahB {z:Value} {v:Value} (hz:z.cells=#[v]) (m:Nat):(Builtin.zeroCells z.cells m).toList=List.replicate m v:=by
 unfold Builtin.zeroCells
 rw [hz]
 refine List.ext_getElem (by simp) fun j h1 h2=>?_
 simp [Nat.mod_one]
section
variable {P:Program}
theorem akq {t ti ty e:TypeId} {q:IntKind} {bytes lo m:Nat} {s:ah} {v:Value} {vs:List Value} {w:World} (dH:fQ P t e 1 bytes) (zD:P.underlying ti=some (.int q)) (hz:zc P e=[v]) (hv:fW v=true) (hs:Own w lo e 1 s vs)
  (hb:(s.n+m) * bytes≤140737488355328) (hm:s.n+m≤1000000000) (nU:lo≤w.heap.size) :
  ∃ s':ah,∃ w',(Builtin.append_ #[t,ti] ty #[s.v,.int .i64 (m:Int)]).run P w=.ok s'.v w'∧Own w' lo e 1 s' (vs ++ List.replicate m v)∧Mod s.row w w'∧s'.n=s.n+m∧(∀ b∈s'.row,b∈s.row∨w.heap.size≤b):=by
 obtain ⟨i,z,hi,GO,gV,qE,qF⟩:=dH.info
 have zC:z.cells=#[v]:=by
  have:z.cells.toList=[v]:=by
   have h2:zc P e=z.cells.toList:=by unfold zc; rw [hi]; simp only [GO]
   rw [← h2]; exact hz
  rw [← Array.toArray_toList (xs:=z.cells),this]
 have lR:v.oneCell'=true:=by cases v <;> first | rfl | cases hv
 have hmb:m * i.bytes≤281474976710656:=by
  rw [qE]
  have:m * bytes≤(s.n+m) * bytes:=Nat.mul_le_mul_right _ (by omega)
  omega
 obtain ⟨sa,sn,sc⟩:=s
 dsimp only at hb hm
 have grow:∀ (ba:Option Addr),sc<sn+m→0<m→vs.length=sn→(Builtin.firstCells i.size sn (.slice ba sn sc)).run P w.drew=.ok vs.toArray w.drew→∃ s':ah,∃ w',(Builtin.append_ #[t,ti] ty #[.slice ba sn sc,.int .i64 (m:Int)]).run P w=.ok s'.v w'∧Own w' lo e 1 s' (vs ++ List.replicate m v)∧Mod (ah.row ⟨sa,sn,sc⟩) w w'∧s'.n=sn+m∧(∀ b∈s'.row,b∈ah.row ⟨sa,sn,sc⟩∨w.heap.size≤b):=by
  intro ba hg h0 pQ hold
  have hr:=Go.Lib.run_append_grow_zeros (P:=P) w t ti ty e i z .i64 q dH.pP zD hi GO ba sn sc vs hold m h0 (by omega) hg (by omega) hmb (growslice_fits hg (by rw [qE]; exact hb))
  have kW:=grownCap_ge w (sn+m) sc e
  have vV:grownCap w (sn+m) sc e≤maxLen:=grownCap_le_maxLen w (sn+m) sc e (by simp only [maxLen]; omega)
  refine ⟨⟨some ⟨w.heap.size,0,none⟩,sn+m,grownCap w (sn+m) sc e⟩,_,hr,⟨?_,.inr ⟨w.heap.size,_,_,rfl,nU,heap_alloc_new w.drew _,kW,vV,?_,?_⟩⟩,(Mod.drew _ w).trans (Mod.alloc _ w.drew _),rfl,?_⟩
  ·rw [List.length_append,List.length_replicate]; show vs.length+m=(sn+m) * 1; omega
  ·simp only [Array.size_append,List.size_toArray,size_zeroCells,qF,pQ]
   omega
  ·simp only [Array.toList_append,ahB zC]
   rw [List.take_left' (by rw [List.length_append,List.length_replicate]; omega)]
  ·intro b hb
   simp only [ah.row,List.mem_singleton] at hb
   exact .inr (by omega)
 have nY:vs.length=sn:=by have:=hs.1; simpa using this
 rcases hs.2 with ⟨hv,hn⟩ | ⟨g,cap,cur,hv,K9,hg,Bx,vV,gN,wT⟩
 ·simp only [ah.v,Value.slice.injEq] at hv
  obtain ⟨rfl,rfl,rfl⟩:=hv
  rcases Nat.eq_zero_or_pos m with rfl | h0
  ·refine ⟨⟨none,0,0⟩,w,?_,by simpa using hs,Mod.refl _ _,rfl,fun b hb=>.inl hb⟩
   simp [ah.v,Builtin.append_,run_underlying dH.pP,run_underlying zD,Go.sizeOf,Go.typeInfo,hi,asInt,asIntOf,show IntKind.wrap .i64 0=0 by decide]
  ·have pQ:vs=[]:=List.eq_nil_of_length_eq_zero nY
   subst pQ
   exact grow none (by omega) h0 rfl (run_firstCells_none w.drew i.size 0 0 0)
 ·simp only [ah.v,Value.slice.injEq] at hv
  obtain ⟨rfl,-,rfl⟩:=hv
  by_cases qz:sn+m≤sc
  ·have hr:=afE (P:=P) w t ti ty e i z dH.pP zD hi GO g sn sc m cur hg gV v zC lR hmb (by omega) qz (by omega)
   refine ⟨⟨some ⟨g,0,none⟩,sn+m,sc⟩,_,hr,⟨by rw [List.length_append,List.length_replicate]; show vs.length+m=(sn+m) * 1; omega,.inr ⟨g,sc,_,rfl,K9,setRow_heap w g cur _ e (0,0) hg,qz,vV,?_,?_⟩⟩,⟨rfl,rfl,rfl,by simp,fun j _ hj=>setRow_other w g j _ (fun e=>hj (by simp [ah.row,e]))⟩,rfl,fun b hb=>.inl hb⟩
   ·simp only [List.size_toArray,List.length_append,List.length_take,List.length_replicate,List.length_drop,Array.length_toList]
    omega
   ·rw [Nat.mul_one] at wT
    show ((cur.toList.take sn ++ List.replicate m v ++ cur.toList.drop (sn+m)).toArray.toList.take ((sn+m) * 1))=_
    rw [List.toList_toArray,wT,Nat.mul_one,List.take_left' (by rw [List.length_append,List.length_replicate]; omega)]
  ·have holds:∀ j u,vs[j]? = some u→w.cell? ((⟨g,0,none⟩:Addr).add j)=some u:=World.ownsRow.cells (g:=g) hs rfl
   have asN:sn≤sc:=Bx
   have hm0:0<m:=by omega
   exact grow (some ⟨g,0,none⟩) (by omega) hm0 nY (run_firstCells_some (P:=P) w.drew i.size sn ⟨g,0,none⟩ sn sc vs (by rw [gV,Nat.mul_one]; exact nY) (by simpa using holds))
theorem aq.anr {w0 w:World} {S:List Nat} {L:List aB} (H:aq w0 S w L) (k:Nat) {t ti ty e:TypeId} {q:IntKind} {bytes m:Nat} {s:ah} {x:Int} {v:Value} {vs:List Value} {K:ah→World→Prop} (dH:fQ P t e 1 bytes) (zD:P.underlying ti=some (.int q)) (hz:zc P e=[v]) (hv:fW v=true)
  (hk:L[k]? = some (.row e 1 s vs)) (hx:x=(m:Int)) (hb:(s.n+m) * bytes≤140737488355328) (hm:s.n+m≤1000000000)
  (h:∀ s' w',aq w0 S w' (L.set k (.row e 1 s' (vs ++ List.replicate m v)))→s'.n=s.n+m→K s' w'):cS P [t,ti] ty [.slice s.a s.n s.c,.int .i64 x] w K:=by
 subst hx
 obtain ⟨s',w',hr,h2,h3,h4,h5⟩:=akq (ty:=ty) dH zD hz hv (H.kK k hk) hb hm (Nat.zero_le _)
 exact ⟨_,w',hr,s',rfl,h s' w' (H.nr k hk h3 (fun b hb=>.inl hb) h2 h5) h4⟩
theorem akr {t ty e:TypeId} {bytes g:Nat} {cs:List Value} {z:ah} {p:Nat} {v:Value} {w:World} {K:ah→World→Prop} (dH:fQ P t e 1 bytes) (hb:bQ w g cs e) (hp:bQ w p [v] e) (hv:fW v=true)
  (hn:z.n≤z.c) (hz:(z.a=none∧z.c=0)∨∃ off,z.a=some ⟨g,off,none⟩∧off+z.c≤cs.length) (hl:(z.n+1) * bytes≤140737488355328) (vX:z.n≤1000000000)
  (h:∀ s' w' fS,Mod [g] w w'→fS.length=cs.length→bQ w' g fS e→K s' w'):cS P [t,t] ty [.slice z.a z.n z.c,.slice (some ⟨p,0,none⟩) 1 1] w K:=by
 obtain ⟨i,zz,hi,GO,gV,qE,qF⟩:=dH.info
 have lR:v.oneCell'=true:=by cases v <;> first | rfl | cases hv
 have ans:∀ j u,[v][j]? = some u→w.cell? ((⟨p,0,none⟩:Addr).add j)=some u:=fun j u hu=>by
  rw [Addr.add_lit,Nat.zero_add,hp.cell]; exact hu
 have abT:Src P i.size t (.slice (some ⟨p,0,none⟩) 1 1) 1 [v] w:=Src.ofSlice w dH.pP ⟨p,0,none⟩ 1 1 [v] (by simp [gV]) ans (by simpa using lR)
 have grow:∀ TF:List Value,z.c<z.n+1→(Builtin.firstCells i.size z.n (.slice z.a z.n z.c)).run P w.drew=.ok TF.toArray w.drew→cS P [t,t] ty [.slice z.a z.n z.c,.slice (some ⟨p,0,none⟩) 1 1] w K:=by
  intro TF hg hold
  have hr:=run_append_grow_src (P:=P) w t t ty e i zz dH.pP hi GO z.a z.n z.c TF hold (.slice (some ⟨p,0,none⟩) 1 1) 1 [v] abT hg (by omega) (growslice_fits hg (by rw [qE]; exact hl))
  exact ⟨_,_,hr,⟨_,_,_⟩,rfl,h _ _ cs ((Mod.drew [g] w).trans (Mod.alloc [g] w.drew _)) rfl (hb.aI ((Mod.drew [] w).trans (Mod.alloc [] w.drew _)))⟩
 rcases hz with ⟨ha,hc⟩ | ⟨off,ha,ho⟩
 ·refine grow [] (by omega) ?_
  rw [ha,show z.n=0 by omega,hc]
  exact run_firstCells_none w.drew i.size 0 0 0
 ·by_cases qz:z.n+1≤z.c
  ·have DJ:off+z.n<cs.length:=by omega
   have mG:(w.cell? ⟨g,off+z.n * i.size+0,none⟩).isSome=true:=by
    rw [hb.cell,gV]
    simp only [Nat.mul_one,Nat.add_zero]
    rw [List.getElem?_eq_getElem DJ]; rfl
   have hr:=run_append_room_src (P:=P) w t t ty e i dH.pP hi g off z.n z.c (.slice (some ⟨p,0,none⟩) 1 1) 1 [v] abT qz
    (fun j hj=>by obtain rfl:j=0:=by simpa using hj
                  exact mG) (fun j hj=>hb.frozen _)
   rw [ha]
   refine ⟨_,_,hr,⟨_,_,_⟩,rfl,h _ _ (cs.set (off+z.n * i.size) v) ?_ (by simp) ?_⟩
   ·exact Mod.setCell w ⟨g,off+z.n * i.size,none⟩ v
   ·exact hb.set _ v
  ·have amB:∀ j u,((cs.drop off).take z.n)[j]? = some u→w.drew.cell? ((⟨g,off,none⟩:Addr).add j)=some u:=fun j u hu=>by
    rw [List.getElem?_take] at hu
    split at hu
    ·rw [List.getElem?_drop] at hu
     rw [Addr.add_lit]
     have:=hb.cell (off+j)
     rw [hu] at this
     exact this
    ·cases hu
   refine grow ((cs.drop off).take z.n) (by omega) ?_
   rw [ha]
   exact run_firstCells_some (P:=P) w.drew i.size z.n ⟨g,off,none⟩ z.n z.c _ (by rw [gV,List.length_take,List.length_drop]; omega) amB
end
end Go.Ev
namespace Go.Proofs.YtpchgbolambkcaaGreatDoor
open Go Go.Ev
set_option linter.unusedVariables false
theorem afr (g:Nat) (cs:List Value) (z:ah) (w:World) (hb:bQ w g cs aM) (hn:z.n≤z.c) (hz:(z.a=none∧z.c=0)∨∃ off,z.a=some ⟨g,off,none⟩∧off+z.c≤cs.length) (hl:z.n≤100000000) :
  Ok Pr zV [.slice z.a z.n z.c] w fun v w'=>v=.tuple ⟨[]⟩∧Mod [g] w w'∧∃ fS,fS.length=cs.length∧bQ w' g fS aM:=by
 refine WD ?_
 unfold IB
 have H:=aq.tR (r:=.av g cs aM) hb
 refine ep 0 z.n (fun i w'=>∃ m:List Value,m.length=cs.length∧aq w [g] w' [.av g m aM]) rfl (by omega) ⟨cs,rfl,H⟩ ?_ ?_
 ·rintro again i w1 _ hi ⟨m,hm,H⟩ aR
  rcases hz with ⟨ha,hc⟩ | ⟨off,ha,ho⟩
  ·omega
  ·refine ite_true (by simpa using hi) ⟨⟨by rw [ha]; rfl,by omega,by omega⟩,?_⟩
   refine H.st 0 (i:=off+i) rfl ?_ (by omega) rfl fun w2 H=>⟨⟨by omega,by omega⟩,aR w2 ⟨_,by simp only [List.length_set]; exact hm,H⟩⟩
   rw [ha,Int.toNat_natCast,Nat.mul_one]
   exact Addr.add_lit _ _ _
 ·rintro again w1 ⟨m,hm,H⟩
  refine ite_false (by simp) (H.nw fun p w2 H _=>akr hO (H.av 0 rfl) (H.av 1 rfl) rfl hn (by rw [hm]; exact hz) (by omega) (by omega) fun s' w3 fS m3 hc hB=>?_)
  exact ⟨rfl,H.mod.trans m3,fS,hc.trans hm,hB⟩
end Go.Proofs.YtpchgbolambkcaaGreatDoor
end
section
set_option linter.unusedVariables false
set_option linter.unusedSimpArgs false
namespace Go.Proofs.YtpchgbolambkcaaGreatDoor
open Go Go.Ev
set_option maxRecDepth 20000
set_option linter.unusedVariables false
theorem yS {A:Type} {x:A} {K:A→Prop} (h:K x):lt x K:=h
end Go.Proofs.YtpchgbolambkcaaGreatDoor
end
section
set_option linter.unusedVariables false
set_option linter.unusedSimpArgs false
namespace Go.Proofs.YtpchgbolambkcaaGreatDoor
open Go Go.Ev
def bit (l:List B8) (k:Nat):Nat:=ptk (num l) 1 k
end Go.Proofs.YtpchgbolambkcaaGreatDoor
end
section
set_option linter.unusedVariables false
set_option linter.unusedSimpArgs false
namespace Go.Ev
open Go Go.RowKit
variable {P:Program}
def strOf (l:List B8):ByteArray:=⟨(l.map UInt8.ofBitVec).toArray⟩
def eF (s:ByteArray):List B8:=s.data.toList.map UInt8.toBitVec
theorem YY (s:ByteArray):strOf (eF s)=s:=by
 unfold eF strOf
 rw [List.map_map,show (UInt8.ofBitVec ∘ UInt8.toBitVec)=id from rfl,List.map_id]
theorem qp (s:ByteArray):(eF s).length=s.size:=by unfold eF; rw [List.length_map]; rfl
theorem aaP {w:World} {x:ah} {l:List B8} {K:ByteArray→World→Prop} (hx:Bytes w x l) (h:K (strOf l) w):KP P x w K:=by
 obtain ⟨xa,xn,xc⟩:=x
 have hl:=hx.len
 dsimp only at hl
 cases xa with
 | none=>
  have h0:xn=0:=by
   rcases Nat.eq_zero_or_pos xn with e | e
   ·exact e
   ·cases Sl.pre hx e
  have hu:l=[]:=List.eq_nil_of_length_eq_zero (by omega)
  subst hu
  exact ⟨_,w,rfl,_,rfl,h⟩
 | some a=>
  have hc:=run_loadCells_list (P:=P) w a ((l.map fun b=>(b.toNat:Int)).map (Value.int .u8)) (fun j v hj=>by
   refine Sl.cell hx j v ?_
   rw [← hj]
   congr 1
   simp [aL,u8])
  simp only [List.length_map] at hc
  have hr:=run_bytesToString (P:=P) w a l.length xc _ hc
  rw [hl] at hr
  refine ⟨_,w,hr,_,rfl,?_⟩
  have e:(l.map fun b=>(b.toNat:Int))=(l.map UInt8.ofBitVec).map (fun b=>(b.toNat:Int)):=by
   rw [List.map_map]
   rfl
  rw [e,foldl_push_byteCells]
  have:(⟨ByteArray.empty.data ++ (l.map UInt8.ofBitVec).toArray⟩:ByteArray)=strOf l:=by
   unfold strOf
   congr 1
   exact Array.empty_append
  rw [this]
  exact h
theorem aiD (s:ByteArray) (c:Nat):(bytesRow s c).toList=aL (eF s ++ List.replicate (c - s.size) 0):=by
 unfold bytesRow eF aL
 simp only [Array.toList_append,Array.toList_map,Array.toList_replicate,List.map_append,List.map_map,List.map_replicate]
 rfl
end Go.Ev
namespace Go.Ev
open Go Go.RowKit
variable {P:Program}
theorem aq.s2b {w0 w:World} {S:List Nat} {L:List aB} (H:aq w0 S w L) {tS tD e:TypeId} {s:ByteArray} {K:ah→World→Prop} (hS:P.underlying tS=some .string) (hD:P.underlying tD=some (.slice e)) (he:P.underlying e=some (.int .u8))
  (h:∀ b c zs w',aq w0 S w' (L ++ [.fz b (aL (eF s ++ zs)) e])→s.size≤c→c=s.size+zs.length→K ⟨some ⟨b,0,none⟩,s.size,c⟩ w'):Tw P e s w K:=by
 have hr:=run_bytes_of_string (P:=P) w tS tD e s hS hD he
 have hr2:(Conv.stringToBytes e s).run P w=.ok (.slice (some ⟨w.heap.size,0,none⟩) s.size (grownCap w s.size 0 e)) (w.drew.alloc (.cells (bytesRow s (grownCap w s.size 0 e)) e ((bytesRow s (grownCap w s.size 0 e)).size,(bytesRow s (grownCap w s.size 0 e)).size+1))):=by
  rw [← hr]
  simp [convert,run_underlying hS,run_underlying hD,run_underlying he]
 have kW:=grownCap_ge w s.size 0 e
 refine ⟨_,_,hr2,⟨some ⟨w.heap.size,0,none⟩,s.size,grownCap w s.size 0 e⟩,rfl,h w.heap.size _ (List.replicate (grownCap w s.size 0 e - s.size) 0) _ ?_ kW (by rw [List.length_replicate]; omega)⟩
 refine H.push ((Mod.drew _ w).trans (Mod.alloc _ w.drew _)) ?_ (by simp [aB.fz])
 refine ⟨((bytesRow s (grownCap w s.size 0 e)).size,(bytesRow s (grownCap w s.size 0 e)).size+1),?_⟩
 have:(w.drew.alloc (.cells (bytesRow s (grownCap w s.size 0 e)) e ((bytesRow s (grownCap w s.size 0 e)).size,(bytesRow s (grownCap w s.size 0 e)).size+1))).heap[w.heap.size]? = some (.cells (bytesRow s (grownCap w s.size 0 e)) e ((bytesRow s (grownCap w s.size 0 e)).size,(bytesRow s (grownCap w s.size 0 e)).size+1)):=by
  show (w.heap.push _)[w.heap.size]? = _
  simp
 rw [this]
 congr 2
 rw [← aiD]
theorem Fz.bytes {w:World} {b c:Nat} {s:ByteArray} {zs:List B8} {e:TypeId} (h:Fz w b (aL (eF s ++ zs)) e) (hc:s.size≤c):Bytes w ⟨some ⟨b,0,none⟩,s.size,c⟩ (eF s):=by
 have:=h.sl 1 s.size c (by simp [qp]) hc
 rw [Nat.mul_one,ER,List.take_append_of_le_length (by simp [qp]),List.take_of_length_le (by simp [qp])] at this
 exact this
theorem Z9 (s:ByteArray):aL (eF s)=(s.data.map fun b=>Value.int .u8 (b.toNat:Int)).toList:=by
 unfold aL eF
 simp only [List.map_map,Array.toList_map]
 rfl
theorem aiE {t u ty e:TypeId} {lo:Nat} {s:ah} {vs:List Value} {str:ByteArray} {w:World} (dH:fQ P t e 1 1) (hu:P.underlying u=some .string) (hs:Own w lo e 1 s vs)
  (hb:s.n+str.size≤140737488355328) (nU:lo≤w.heap.size) :
  ∃ s':ah,∃ w',(Builtin.append_ #[t,u] ty #[s.v,.string str]).run P w=.ok s'.v w'∧Own w' lo e 1 s' (vs ++ aL (eF str))∧Mod s.row w w'∧s'.n=s.n+str.size∧(∀ b∈s'.row,b∈s.row∨w.heap.size≤b):=by
 obtain ⟨i,z,hi,hz,gV,qE,qF⟩:=dH.info
 have Uy:∀ w:World,(Builtin.firstCells 1 str.size (.string str)).run P w=.ok (aL (eF str)).toArray w:=by
  intro w
  have e1:(str.extract 0 str.size)=str:=ByteArray.extract_zero_size
  simp only [Builtin.firstCells,e1,Sem.run_pure]
  rw [Z9]
 have hlen:(aL (eF str)).length=str.size:=by rw [Ra,qp]
 obtain ⟨sa,sn,sc⟩:=s
 dsimp only at hb
 rcases hs.2 with ⟨hv,hn⟩ | ⟨g,cap,cur,hv,K9,hg,Bx,vV,gN,wT⟩
 ·simp only [ah.v,Value.slice.injEq] at hv
  obtain ⟨rfl,rfl,rfl⟩:=hv
  have pQ:vs=[]:=List.eq_nil_of_length_eq_zero (by simpa using hs.1)
  subst pQ
  rcases Nat.eq_zero_or_pos str.size with h0 | h0
  ·have hr:(Builtin.append_ #[t,u] ty #[(⟨none,0,0⟩:ah).v,.string str]).run P w=.ok (⟨none,0,0⟩:ah).v w:=by
    have hf:=Uy w
    rw [h0] at hf
    simp [ah.v,Builtin.append_,run_underlying dH.pP,run_underlying hu,Go.sizeOf,Go.typeInfo,hi,Builtin.lenOf,h0,gV,hf]
   have A5:aL (eF str)=[]:=List.eq_nil_of_length_eq_zero (by omega)
   exact ⟨⟨none,0,0⟩,w,hr,by rw [A5]; exact hs,Mod.refl _ _,by simp [h0],fun b hb=>by cases hb⟩
  ·have kW:=grownCap_ge w str.size 0 e
   have hr:=run_append_nil_string (P:=P) w t u ty e i z dH.pP hu hi hz str h0 (by omega) (by rw [qE]; omega)
   refine ⟨⟨some ⟨w.heap.size,0,none⟩,str.size,grownCap w str.size 0 e⟩,_,hr,⟨by simpa using hlen,.inr ⟨w.heap.size,_,_,rfl,nU,heap_alloc_new w.drew _,kW,grownCap_le_maxLen w str.size 0 e (by simp only [maxLen]; omega),?_,?_⟩⟩,((Mod.drew _ w).trans (Mod.alloc _ w.drew _)),(by simp),fun b hb=>?_⟩
   ·simp only [Array.size_append,Array.size_map,size_zeroCells,qF]
    have:str.data.size=str.size:=rfl
    omega
   ·simp only [Array.toList_append,List.nil_append]
    rw [← Z9,Nat.mul_one,← hlen]
    exact List.take_left
   ·simp only [ah.row,List.mem_singleton] at hb
    exact .inr (by omega)
 ·simp only [ah.v,Value.slice.injEq] at hv
  obtain ⟨rfl,-,rfl⟩:=hv
  have nY:vs.length=sn:=by simpa using hs.1
  by_cases qz:sn+str.size≤sc
  ·have Lm:cur.size=sc:=by simpa using gN
   have pO:=run_storeCells_at (P:=P) g (sn * i.size) e (aL (eF str)) 0 cur w hg (by rw [gV,hlen]; omega) fun v hv=>by
    obtain ⟨b,-,rfl⟩:=List.mem_map.1 hv
    rfl
   simp only [Nat.add_zero,gV,Nat.mul_one,hlen] at pO
   have hr:(Builtin.append_ #[t,u] ty #[.slice (some ⟨g,0,none⟩) sn sc,.string str]).run P w=.ok (.slice (some ⟨g,0,none⟩) (sn+str.size) sc) (w.setRow g (cur.toList.take sn ++ aL (eF str) ++ cur.toList.drop (sn+str.size)).toArray):=by
    simp [Builtin.append_,run_underlying dH.pP,run_underlying hu,Go.sizeOf,Go.typeInfo,hi,Builtin.lenOf,qz,gV,Uy,Addr.add_lit,pO]
   refine ⟨⟨some ⟨g,0,none⟩,sn+str.size,sc⟩,_,hr,⟨by rw [List.length_append,nY,hlen,Nat.mul_one],.inr ⟨g,sc,_,rfl,K9,setRow_heap w g _ _ e _ hg,qz,vV,?_,?_⟩⟩,⟨rfl,rfl,rfl,by simp,fun j _ hj=>setRow_other w g j _ (fun e=>hj (by simp [ah.row,e]))⟩,rfl,fun b hb=>.inl hb⟩
   ·simp only [List.size_toArray,List.length_append,List.length_take,List.length_drop,hlen,Array.length_toList]
    omega
   ·simp only
    rw [Nat.mul_one] at wT ⊢
    rw [wT,List.take_append_of_le_length (by rw [List.length_append,nY,hlen]; omega),List.take_of_length_le (by rw [List.length_append,nY,hlen]; omega)]
  ·have holds:∀ j u,vs[j]? = some u→w.cell? ((⟨g,0,none⟩:Addr).add j)=some u:=World.ownsRow.cells (g:=g) hs rfl
   have hfo:=run_firstCells_some (P:=P) w.drew i.size sn ⟨g,0,none⟩ sn sc vs (by rw [gV,nY,Nat.mul_one]) (by simpa using holds)
   have kW:=grownCap_ge w (sn+str.size) sc e
   have aoh:¬ (9223372036854775807<((sn:Int)+(str.size:Int))):=by omega
   have aoi:¬ (281474976710656<Builtin.nextslicecap (sn+str.size) sc * i.bytes):=by
    have:=growslice_fits (need:=sn+str.size) (old:=sc) (bytes:=i.bytes) (by omega) (by rw [qE]; omega)
    omega
   have abU:=Uy w.drew
   rw [← gV] at abU
   have hr:(Builtin.append_ #[t,u] ty #[.slice (some ⟨g,0,none⟩) sn sc,.string str]).run P w=.ok (.slice (some ⟨w.heap.size,0,none⟩) (sn+str.size) (grownCap w (sn+str.size) sc e))
     (w.drew.alloc (.cells (vs.toArray ++ (aL (eF str)).toArray ++ Builtin.zeroCells z.cells (grownCap w (sn+str.size) sc e - (sn+str.size))) e)):=by
    simp [Builtin.append_,run_underlying dH.pP,run_underlying hu,Go.sizeOf,Go.typeInfo,zeroValue,hi,hz,Builtin.lenOf,qz,aoh,aoi,Question.forced,abU,hfo,newRow,grownCap]
    congr 2
    apply Array.ext'
    simp [List.append_assoc]
   refine ⟨⟨some ⟨w.heap.size,0,none⟩,sn+str.size,grownCap w (sn+str.size) sc e⟩,_,hr,⟨by rw [List.length_append,nY,hlen,Nat.mul_one],.inr ⟨w.heap.size,_,_,rfl,nU,heap_alloc_new w.drew _,kW,grownCap_le_maxLen w (sn+str.size) sc e (by simp only [maxLen]; omega),?_,?_⟩⟩,(Mod.drew _ w).trans (Mod.alloc _ w.drew _),rfl,fun b hb=>?_⟩
   ·simp only [Array.size_append,List.size_toArray,size_zeroCells,qF,nY,hlen]
    omega
   ·simp only [Array.toList_append]
    rw [Nat.mul_one,List.take_append_of_le_length (by rw [List.length_append,nY,hlen]; omega),List.take_of_length_le (by rw [List.length_append,nY,hlen]; omega)]
   ·simp only [ah.row,List.mem_singleton] at hb
    exact .inr (by omega)
theorem aq.amC {w0 w:World} {S:List Nat} {L:List aB} (H:aq w0 S w L) (k:Nat) {t u ty e:TypeId} {s:ah} {vs:List B8} {str:ByteArray} {K:ah→World→Prop} (dH:fQ P t e 1 1) (hu:P.underlying u=some .string) (hk:L[k]? = some (.row e 1 s (aL vs)))
  (hb:s.n+str.size≤140737488355328) (h:∀ s' w',aq w0 S w' (L.set k (.row e 1 s' (aL (vs ++ eF str))))→s'.n=s.n+str.size→K s' w'):cS P [t,u] ty [.slice s.a s.n s.c,.string str] w K:=by
 obtain ⟨s',w',hr,h2,h3,h4,h5⟩:=aiE (ty:=ty) dH hu (H.kK k hk) hb (Nat.zero_le _)
 refine ⟨_,w',hr,s',rfl,h s' w' (H.nr k hk h3 (fun b hb=>.inl hb) ?_ h5) h4⟩
 rw [ER]
 exact h2
end Go.Ev
end
section
set_option linter.unusedVariables false
set_option linter.unusedSimpArgs false
namespace Go.Ev
open Go Go.RowKit
set_option linter.unusedVariables false
theorem aq.dR {w0 w:World} {S:List Nat} {L:List aB} (H:aq w0 S w L) (k:Nat) {b i:Nat} {a:Addr} {n:ByteArray} {cs:List Value} {t:TypeId} {K:ByteArray→Prop} (hk:L[k]? = some (.av b cs t)) (ha:a=⟨b,i,none⟩) (hv:cs[i]? = some (.string n)) (h:K n):dR a w K:=
 ⟨n,H.cell k hk ha hv,h⟩
end Go.Ev
namespace Go.Proofs.YtpchgbolambkcaaGreatDoor
open Go Go.Ev
set_option linter.unusedVariables false
set_option linter.unusedSimpArgs false
@[reducible] def Cy (c0:Int) (c1:Int) (c2:Int) (c3:Int) (c4:Int) (c5:Int) (c6:Int) (c7:Int) (c8:Int) (c9:Int) (eZ:Int) (fh:ByteArray) (dS:ah) (dU:ah):List Value:=[.int .i64 c0,.int .i64 c1,.int .i64 c2,.int .i64 c3,.int .i64 c4,.int .i64 c5,.int .i64 c6,.int .i64 c7,.int .i64 c8,.int .i64 c9,.int .i64 eZ,.string fh,.slice dS.a dS.n dS.c,.slice dU.a dU.n dU.c]
theorem Ey {a:Addr} {w:World} {c0:Int} {c1:Int} {c2:Int} {c3:Int} {c4:Int} {c5:Int} {c6:Int} {c7:Int} {c8:Int} {c9:Int} {eZ:Int} {fh:ByteArray} {dS:ah} {dU:ah} {K:Int→Int→Int→Int→Int→Int→Int→Int→Int→Int→Int→ByteArray→ah→ah→Prop} (h:∀ (i:Nat) (v:Value),(Cy c0 c1 c2 c3 c4 c5 c6 c7 c8 c9 eZ fh dS dU)[i]? = some v→w.cell? (Addr.add a i)=some v) (hK:K c0 c1 c2 c3 c4 c5 c6 c7 c8 c9 eZ fh dS dU):dD a w K:=
 ⟨_,h 0 _ rfl,⟨_,h 1 _ rfl,⟨_,h 2 _ rfl,⟨_,h 3 _ rfl,⟨_,h 4 _ rfl,⟨_,h 5 _ rfl,⟨_,h 6 _ rfl,⟨_,h 7 _ rfl,⟨_,h 8 _ rfl,⟨_,h 9 _ rfl,⟨_,h 10 _ rfl,⟨_,h 11 _ rfl,⟨dS,h 12 _ rfl,⟨dU,h 13 _ rfl,hK⟩⟩⟩⟩⟩⟩⟩⟩⟩⟩⟩⟩⟩⟩
theorem _root_.Go.Ev.aq.dD {w0 w:World} {S:List Nat} {L:List aB} (H:aq w0 S w L) (k:Nat) {b:Nat} {t:TypeId} {c0:Int} {c1:Int} {c2:Int} {c3:Int} {c4:Int} {c5:Int} {c6:Int} {c7:Int} {c8:Int} {c9:Int} {eZ:Int} {fh:ByteArray} {dS:ah} {dU:ah} {K:Int→Int→Int→Int→Int→Int→Int→Int→Int→Int→Int→ByteArray→ah→ah→Prop} (hk:L[k]? = some (.av b (Cy c0 c1 c2 c3 c4 c5 c6 c7 c8 c9 eZ fh dS dU) t)) (hK:K c0 c1 c2 c3 c4 c5 c6 c7 c8 c9 eZ fh dS dU):dD ⟨b,0,none⟩ w K:=
 Ey (fun i v hv=>H.cell k hk (an b i) hv) hK
theorem _root_.Go.Ev.aq.rX {w0 w:World} {S:List Nat} {L:List aB} (H:aq w0 S w L) (k:Nat) {b:Nat} {t:TypeId} {cs:List Value} {c0:Int} {c1:Int} {c2:Int} {c3:Int} {c4:Int} {c5:Int} {c6:Int} {c7:Int} {c8:Int} {c9:Int} {eZ:Int} {fh:ByteArray} {dS:ah} {dU:ah} {K:World→Prop} (hk:L[k]? = some (.av b cs t)) (hl:cs.length=14) (h:∀ w',aq w0 S w' (L.set k (.av b (Cy c0 c1 c2 c3 c4 c5 c6 c7 c8 c9 eZ fh dS dU) t))→K w'):rX ⟨b,0,none⟩ c0 c1 c2 c3 c4 c5 c6 c7 c8 c9 eZ fh dS dU w K:=by
 have bR:k<L.length:=(List.getElem?_eq_some_iff.1 hk).1
 obtain ⟨u0,u1,u2,u3,u4,u5,u6,u7,u8,u9,xD,xE,xF,xG,rfl⟩:∃ u0 u1 u2 u3 u4 u5 u6 u7 u8 u9 xD xE xF xG,cs=[u0,u1,u2,u3,u4,u5,u6,u7,u8,u9,xD,xE,xF,xG]:=by
  match cs,hl with
  | [u0,u1,u2,u3,u4,u5,u6,u7,u8,u9,xD,xE,xF,xG],_=>exact ⟨u0,u1,u2,u3,u4,u5,u6,u7,u8,u9,xD,xE,xF,xG,rfl⟩
 refine H.st k hk (an b 0) (by simp) rfl fun w0 H0=>?_
 simp only [List.set_set,List.set_cons_zero,List.set_cons_succ] at H0
 refine H0.st k (List.getElem?_set_self bR) (an b 1) (by simp) rfl fun w1 H1=>?_
 simp only [List.set_set,List.set_cons_zero,List.set_cons_succ] at H1
 refine H1.st k (List.getElem?_set_self bR) (an b 2) (by simp) rfl fun w2 H2=>?_
 simp only [List.set_set,List.set_cons_zero,List.set_cons_succ] at H2
 refine H2.st k (List.getElem?_set_self bR) (an b 3) (by simp) rfl fun w3 H3=>?_
 simp only [List.set_set,List.set_cons_zero,List.set_cons_succ] at H3
 refine H3.st k (List.getElem?_set_self bR) (an b 4) (by simp) rfl fun w4 H4=>?_
 simp only [List.set_set,List.set_cons_zero,List.set_cons_succ] at H4
 refine H4.st k (List.getElem?_set_self bR) (an b 5) (by simp) rfl fun w5 H5=>?_
 simp only [List.set_set,List.set_cons_zero,List.set_cons_succ] at H5
 refine H5.st k (List.getElem?_set_self bR) (an b 6) (by simp) rfl fun w6 H6=>?_
 simp only [List.set_set,List.set_cons_zero,List.set_cons_succ] at H6
 refine H6.st k (List.getElem?_set_self bR) (an b 7) (by simp) rfl fun w7 H7=>?_
 simp only [List.set_set,List.set_cons_zero,List.set_cons_succ] at H7
 refine H7.st k (List.getElem?_set_self bR) (an b 8) (by simp) rfl fun w8 H8=>?_
 simp only [List.set_set,List.set_cons_zero,List.set_cons_succ] at H8
 refine H8.st k (List.getElem?_set_self bR) (an b 9) (by simp) rfl fun w9 H9=>?_
 simp only [List.set_set,List.set_cons_zero,List.set_cons_succ] at H9
 refine H9.st k (List.getElem?_set_self bR) (an b 10) (by simp) rfl fun dN rF=>?_
 simp only [List.set_set,List.set_cons_zero,List.set_cons_succ] at rF
 refine rF.st k (List.getElem?_set_self bR) (an b 11) (by simp) rfl fun fZ rG=>?_
 simp only [List.set_set,List.set_cons_zero,List.set_cons_succ] at rG
 refine rG.st k (List.getElem?_set_self bR) (an b 12) (by simp) rfl fun dO uD=>?_
 simp only [List.set_set,List.set_cons_zero,List.set_cons_succ] at uD
 refine uD.st k (List.getElem?_set_self bR) (an b 13) (by simp) rfl fun gH xH=>?_
 simp only [List.set_set,List.set_cons_zero,List.set_cons_succ] at xH
 exact h _ xH
theorem ahC {c0:Int} {c1:Int} {c2:Int} {c3:Int} {c4:Int} {c5:Int} {c6:Int} {c7:Int} {c8:Int} {c9:Int} {eZ:Int} {fh:ByteArray} {dS:ah} {dU:ah} {K:Int→Int→Int→Int→Int→Int→Int→Int→Int→Int→Int→ByteArray→ah→ah→Prop} (hK:K c0 c1 c2 c3 c4 c5 c6 c7 c8 c9 eZ fh dS dU):YA (.agg ⟨Cy c0 c1 c2 c3 c4 c5 c6 c7 c8 c9 eZ fh dS dU⟩) K:=
 ⟨_,rfl,c0,rfl,c1,rfl,c2,rfl,c3,rfl,c4,rfl,c5,rfl,c6,rfl,c7,rfl,c8,rfl,c9,rfl,eZ,rfl,fh,rfl,dS,rfl,dU,rfl,rfl,hK⟩
@[reducible] def Ez (c0:Int) (c1:Int) (c2:Int) (c3:Int) (c4:Int) (c5:Int) (c6:Int) (c7:Int) (c8:Int) (c9:Int) (eZ:Int) (fh:ByteArray) (dS:ah) (dU:ah) (kD:ah):List Value:=[.int .i64 c0,.int .i64 c1,.int .i64 c2,.int .i64 c3,.int .i64 c4,.int .i64 c5,.int .i64 c6,.int .i64 c7,.int .i64 c8,.int .i64 c9,.int .i64 eZ,.string fh,.slice dS.a dS.n dS.c,.slice dU.a dU.n dU.c,.slice kD.a kD.n kD.c]
theorem afF {a:Addr} {w:World} {c0:Int} {c1:Int} {c2:Int} {c3:Int} {c4:Int} {c5:Int} {c6:Int} {c7:Int} {c8:Int} {c9:Int} {eZ:Int} {fh:ByteArray} {dS:ah} {dU:ah} {kD:ah} {K:Int→Int→Int→Int→Int→Int→Int→Int→Int→Int→Int→ByteArray→ah→ah→ah→Prop} (h:∀ (i:Nat) (v:Value),(Ez c0 c1 c2 c3 c4 c5 c6 c7 c8 c9 eZ fh dS dU kD)[i]? = some v→w.cell? (Addr.add a i)=some v) (hK:K c0 c1 c2 c3 c4 c5 c6 c7 c8 c9 eZ fh dS dU kD):jH a w K:=
 ⟨_,h 0 _ rfl,⟨_,h 1 _ rfl,⟨_,h 2 _ rfl,⟨_,h 3 _ rfl,⟨_,h 4 _ rfl,⟨_,h 5 _ rfl,⟨_,h 6 _ rfl,⟨_,h 7 _ rfl,⟨_,h 8 _ rfl,⟨_,h 9 _ rfl,⟨_,h 10 _ rfl,⟨_,h 11 _ rfl,⟨dS,h 12 _ rfl,⟨dU,h 13 _ rfl,⟨kD,h 14 _ rfl,hK⟩⟩⟩⟩⟩⟩⟩⟩⟩⟩⟩⟩⟩⟩⟩
theorem _root_.Go.Ev.aq.jH {w0 w:World} {S:List Nat} {L:List aB} (H:aq w0 S w L) (k:Nat) {b:Nat} {t:TypeId} {c0:Int} {c1:Int} {c2:Int} {c3:Int} {c4:Int} {c5:Int} {c6:Int} {c7:Int} {c8:Int} {c9:Int} {eZ:Int} {fh:ByteArray} {dS:ah} {dU:ah} {kD:ah} {K:Int→Int→Int→Int→Int→Int→Int→Int→Int→Int→Int→ByteArray→ah→ah→ah→Prop} (hk:L[k]? = some (.av b (Ez c0 c1 c2 c3 c4 c5 c6 c7 c8 c9 eZ fh dS dU kD) t)) (hK:K c0 c1 c2 c3 c4 c5 c6 c7 c8 c9 eZ fh dS dU kD):jH ⟨b,0,none⟩ w K:=
 afF (fun i v hv=>H.cell k hk (an b i) hv) hK
theorem _root_.Go.Ev.aq.iN {w0 w:World} {S:List Nat} {L:List aB} (H:aq w0 S w L) (k:Nat) {b:Nat} {t:TypeId} {cs:List Value} {c0:Int} {c1:Int} {c2:Int} {c3:Int} {c4:Int} {c5:Int} {c6:Int} {c7:Int} {c8:Int} {c9:Int} {eZ:Int} {fh:ByteArray} {dS:ah} {dU:ah} {kD:ah} {K:World→Prop} (hk:L[k]? = some (.av b cs t)) (hl:cs.length=15) (h:∀ w',aq w0 S w' (L.set k (.av b (Ez c0 c1 c2 c3 c4 c5 c6 c7 c8 c9 eZ fh dS dU kD) t))→K w'):iN ⟨b,0,none⟩ c0 c1 c2 c3 c4 c5 c6 c7 c8 c9 eZ fh dS dU kD w K:=by
 have bR:k<L.length:=(List.getElem?_eq_some_iff.1 hk).1
 obtain ⟨u0,u1,u2,u3,u4,u5,u6,u7,u8,u9,xD,xE,xF,xG,Lo,rfl⟩:∃ u0 u1 u2 u3 u4 u5 u6 u7 u8 u9 xD xE xF xG Lo,cs=[u0,u1,u2,u3,u4,u5,u6,u7,u8,u9,xD,xE,xF,xG,Lo]:=by
  match cs,hl with
  | [u0,u1,u2,u3,u4,u5,u6,u7,u8,u9,xD,xE,xF,xG,Lo],_=>exact ⟨u0,u1,u2,u3,u4,u5,u6,u7,u8,u9,xD,xE,xF,xG,Lo,rfl⟩
 refine H.st k hk (an b 0) (by simp) rfl fun w0 H0=>?_
 simp only [List.set_set,List.set_cons_zero,List.set_cons_succ] at H0
 refine H0.st k (List.getElem?_set_self bR) (an b 1) (by simp) rfl fun w1 H1=>?_
 simp only [List.set_set,List.set_cons_zero,List.set_cons_succ] at H1
 refine H1.st k (List.getElem?_set_self bR) (an b 2) (by simp) rfl fun w2 H2=>?_
 simp only [List.set_set,List.set_cons_zero,List.set_cons_succ] at H2
 refine H2.st k (List.getElem?_set_self bR) (an b 3) (by simp) rfl fun w3 H3=>?_
 simp only [List.set_set,List.set_cons_zero,List.set_cons_succ] at H3
 refine H3.st k (List.getElem?_set_self bR) (an b 4) (by simp) rfl fun w4 H4=>?_
 simp only [List.set_set,List.set_cons_zero,List.set_cons_succ] at H4
 refine H4.st k (List.getElem?_set_self bR) (an b 5) (by simp) rfl fun w5 H5=>?_
 simp only [List.set_set,List.set_cons_zero,List.set_cons_succ] at H5
 refine H5.st k (List.getElem?_set_self bR) (an b 6) (by simp) rfl fun w6 H6=>?_
 simp only [List.set_set,List.set_cons_zero,List.set_cons_succ] at H6
 refine H6.st k (List.getElem?_set_self bR) (an b 7) (by simp) rfl fun w7 H7=>?_
 simp only [List.set_set,List.set_cons_zero,List.set_cons_succ] at H7
 refine H7.st k (List.getElem?_set_self bR) (an b 8) (by simp) rfl fun w8 H8=>?_
 simp only [List.set_set,List.set_cons_zero,List.set_cons_succ] at H8
 refine H8.st k (List.getElem?_set_self bR) (an b 9) (by simp) rfl fun w9 H9=>?_
 simp only [List.set_set,List.set_cons_zero,List.set_cons_succ] at H9
 refine H9.st k (List.getElem?_set_self bR) (an b 10) (by simp) rfl fun dN rF=>?_
 simp only [List.set_set,List.set_cons_zero,List.set_cons_succ] at rF
 refine rF.st k (List.getElem?_set_self bR) (an b 11) (by simp) rfl fun fZ rG=>?_
 simp only [List.set_set,List.set_cons_zero,List.set_cons_succ] at rG
 refine rG.st k (List.getElem?_set_self bR) (an b 12) (by simp) rfl fun dO uD=>?_
 simp only [List.set_set,List.set_cons_zero,List.set_cons_succ] at uD
 refine uD.st k (List.getElem?_set_self bR) (an b 13) (by simp) rfl fun gH xH=>?_
 simp only [List.set_set,List.set_cons_zero,List.set_cons_succ] at xH
 refine xH.st k (List.getElem?_set_self bR) (an b 14) (by simp) rfl fun kN zE=>?_
 simp only [List.set_set,List.set_cons_zero,List.set_cons_succ] at zE
 exact h _ zE
theorem wC {c0:Int} {c1:Int} {c2:Int} {c3:Int} {c4:Int} {c5:Int} {c6:Int} {c7:Int} {c8:Int} {c9:Int} {eZ:Int} {fh:ByteArray} {dS:ah} {dU:ah} {kD:ah} {K:Int→Int→Int→Int→Int→Int→Int→Int→Int→Int→Int→ByteArray→ah→ah→ah→Prop} (hK:K c0 c1 c2 c3 c4 c5 c6 c7 c8 c9 eZ fh dS dU kD):wE (.agg ⟨Ez c0 c1 c2 c3 c4 c5 c6 c7 c8 c9 eZ fh dS dU kD⟩) K:=
 ⟨_,rfl,c0,rfl,c1,rfl,c2,rfl,c3,rfl,c4,rfl,c5,rfl,c6,rfl,c7,rfl,c8,rfl,c9,rfl,eZ,rfl,fh,rfl,dS,rfl,dU,rfl,kD,rfl,rfl,hK⟩
@[reducible] def mO (c0:Int) (c1:ah) (c2:ah) (c3:ah) (c4:ah) (c5:ah):List Value:=[.int .i64 c0,.slice c1.a c1.n c1.c,.slice c2.a c2.n c2.c,.slice c3.a c3.n c3.c,.slice c4.a c4.n c4.c,.slice c5.a c5.n c5.c]
theorem NI {a:Addr} {w:World} {c0:Int} {c1:ah} {c2:ah} {c3:ah} {c4:ah} {c5:ah} {K:Int→ah→ah→ah→ah→ah→Prop} (h:∀ (i:Nat) (v:Value),(mO c0 c1 c2 c3 c4 c5)[i]? = some v→w.cell? (Addr.add a i)=some v) (hK:K c0 c1 c2 c3 c4 c5):aG a w K:=
 ⟨_,h 0 _ rfl,⟨c1,h 1 _ rfl,⟨c2,h 2 _ rfl,⟨c3,h 3 _ rfl,⟨c4,h 4 _ rfl,⟨c5,h 5 _ rfl,hK⟩⟩⟩⟩⟩⟩
theorem _root_.Go.Ev.aq.aG {w0 w:World} {S:List Nat} {L:List aB} (H:aq w0 S w L) (k:Nat) {b:Nat} {t:TypeId} {c0:Int} {c1:ah} {c2:ah} {c3:ah} {c4:ah} {c5:ah} {K:Int→ah→ah→ah→ah→ah→Prop} (hk:L[k]? = some (.av b (mO c0 c1 c2 c3 c4 c5) t)) (hK:K c0 c1 c2 c3 c4 c5):aG ⟨b,0,none⟩ w K:=
 NI (fun i v hv=>H.cell k hk (an b i) hv) hK
theorem _root_.Go.Ev.aq.aV {w0 w:World} {S:List Nat} {L:List aB} (H:aq w0 S w L) (k:Nat) {b:Nat} {t:TypeId} {cs:List Value} {c0:Int} {c1:ah} {c2:ah} {c3:ah} {c4:ah} {c5:ah} {K:World→Prop} (hk:L[k]? = some (.av b cs t)) (hl:cs.length=6) (h:∀ w',aq w0 S w' (L.set k (.av b (mO c0 c1 c2 c3 c4 c5) t))→K w'):aV ⟨b,0,none⟩ c0 c1 c2 c3 c4 c5 w K:=by
 have bR:k<L.length:=(List.getElem?_eq_some_iff.1 hk).1
 obtain ⟨u0,u1,u2,u3,u4,u5,rfl⟩:∃ u0 u1 u2 u3 u4 u5,cs=[u0,u1,u2,u3,u4,u5]:=by
  match cs,hl with
  | [u0,u1,u2,u3,u4,u5],_=>exact ⟨u0,u1,u2,u3,u4,u5,rfl⟩
 refine H.st k hk (an b 0) (by simp) rfl fun w0 H0=>?_
 simp only [List.set_set,List.set_cons_zero,List.set_cons_succ] at H0
 refine H0.st k (List.getElem?_set_self bR) (an b 1) (by simp) rfl fun w1 H1=>?_
 simp only [List.set_set,List.set_cons_zero,List.set_cons_succ] at H1
 refine H1.st k (List.getElem?_set_self bR) (an b 2) (by simp) rfl fun w2 H2=>?_
 simp only [List.set_set,List.set_cons_zero,List.set_cons_succ] at H2
 refine H2.st k (List.getElem?_set_self bR) (an b 3) (by simp) rfl fun w3 H3=>?_
 simp only [List.set_set,List.set_cons_zero,List.set_cons_succ] at H3
 refine H3.st k (List.getElem?_set_self bR) (an b 4) (by simp) rfl fun w4 H4=>?_
 simp only [List.set_set,List.set_cons_zero,List.set_cons_succ] at H4
 refine H4.st k (List.getElem?_set_self bR) (an b 5) (by simp) rfl fun w5 H5=>?_
 simp only [List.set_set,List.set_cons_zero,List.set_cons_succ] at H5
 exact h _ H5
theorem jT {c0:Int} {c1:ah} {c2:ah} {c3:ah} {c4:ah} {c5:ah} {K:Int→ah→ah→ah→ah→ah→Prop} (hK:K c0 c1 c2 c3 c4 c5):ez (.agg ⟨mO c0 c1 c2 c3 c4 c5⟩) K:=
 ⟨_,rfl,c0,rfl,c1,rfl,c2,rfl,c3,rfl,c4,rfl,c5,rfl,rfl,hK⟩
@[reducible] def gx (c0:Int) (c1:Int) (c2:ah) (c3:ah):List Value:=[.int .i64 c0,.int .i64 c1,.slice c2.a c2.n c2.c,.slice c3.a c3.n c3.c]
theorem agm {a:Addr} {w:World} {c0:Int} {c1:Int} {c2:ah} {c3:ah} {K:Int→Int→ah→ah→Prop} (h:∀ (i:Nat) (v:Value),(gx c0 c1 c2 c3)[i]? = some v→w.cell? (Addr.add a i)=some v) (hK:K c0 c1 c2 c3):eX a w K:=
 ⟨_,h 0 _ rfl,⟨_,h 1 _ rfl,⟨c2,h 2 _ rfl,⟨c3,h 3 _ rfl,hK⟩⟩⟩⟩
theorem _root_.Go.Ev.aq.eX {w0 w:World} {S:List Nat} {L:List aB} (H:aq w0 S w L) (k:Nat) {b:Nat} {t:TypeId} {c0:Int} {c1:Int} {c2:ah} {c3:ah} {K:Int→Int→ah→ah→Prop} (hk:L[k]? = some (.av b (gx c0 c1 c2 c3) t)) (hK:K c0 c1 c2 c3):eX ⟨b,0,none⟩ w K:=
 agm (fun i v hv=>H.cell k hk (an b i) hv) hK
theorem _root_.Go.Ev.aq.ew {w0 w:World} {S:List Nat} {L:List aB} (H:aq w0 S w L) (k:Nat) {b:Nat} {t:TypeId} {cs:List Value} {c0:Int} {c1:Int} {c2:ah} {c3:ah} {K:World→Prop} (hk:L[k]? = some (.av b cs t)) (hl:cs.length=4) (h:∀ w',aq w0 S w' (L.set k (.av b (gx c0 c1 c2 c3) t))→K w'):ew ⟨b,0,none⟩ c0 c1 c2 c3 w K:=by
 have bR:k<L.length:=(List.getElem?_eq_some_iff.1 hk).1
 obtain ⟨u0,u1,u2,u3,rfl⟩:∃ u0 u1 u2 u3,cs=[u0,u1,u2,u3]:=by
  match cs,hl with
  | [u0,u1,u2,u3],_=>exact ⟨u0,u1,u2,u3,rfl⟩
 refine H.st k hk (an b 0) (by simp) rfl fun w0 H0=>?_
 simp only [List.set_set,List.set_cons_zero,List.set_cons_succ] at H0
 refine H0.st k (List.getElem?_set_self bR) (an b 1) (by simp) rfl fun w1 H1=>?_
 simp only [List.set_set,List.set_cons_zero,List.set_cons_succ] at H1
 refine H1.st k (List.getElem?_set_self bR) (an b 2) (by simp) rfl fun w2 H2=>?_
 simp only [List.set_set,List.set_cons_zero,List.set_cons_succ] at H2
 refine H2.st k (List.getElem?_set_self bR) (an b 3) (by simp) rfl fun w3 H3=>?_
 simp only [List.set_set,List.set_cons_zero,List.set_cons_succ] at H3
 exact h _ H3
theorem zW {c0:Int} {c1:Int} {c2:ah} {c3:ah} {K:Int→Int→ah→ah→Prop} (hK:K c0 c1 c2 c3):qh (.agg ⟨gx c0 c1 c2 c3⟩) K:=
 ⟨_,rfl,c0,rfl,c1,rfl,c2,rfl,c3,rfl,rfl,hK⟩
@[reducible] def lK (c0:Int) (c1:Int) (c2:ByteArray):List Value:=[.int .i64 c0,.int .i64 c1,.string c2]
theorem BX {a:Addr} {w:World} {c0:Int} {c1:Int} {c2:ByteArray} {K:Int→Int→ByteArray→Prop} (h:∀ (i:Nat) (v:Value),(lK c0 c1 c2)[i]? = some v→w.cell? (Addr.add a i)=some v) (hK:K c0 c1 c2):Am a w K:=
 ⟨_,h 0 _ rfl,⟨_,h 1 _ rfl,⟨_,h 2 _ rfl,hK⟩⟩⟩
theorem _root_.Go.Ev.aq.uX {w0 w:World} {S:List Nat} {L:List aB} (H:aq w0 S w L) (k:Nat) {b:Nat} {t:TypeId} {cs:List Value} {c0:Int} {c1:Int} {c2:ByteArray} {K:World→Prop} (hk:L[k]? = some (.av b cs t)) (hl:cs.length=3) (h:∀ w',aq w0 S w' (L.set k (.av b (lK c0 c1 c2) t))→K w'):uX ⟨b,0,none⟩ c0 c1 c2 w K:=by
 have bR:k<L.length:=(List.getElem?_eq_some_iff.1 hk).1
 obtain ⟨u0,u1,u2,rfl⟩:∃ u0 u1 u2,cs=[u0,u1,u2]:=by
  match cs,hl with
  | [u0,u1,u2],_=>exact ⟨u0,u1,u2,rfl⟩
 refine H.st k hk (an b 0) (by simp) rfl fun w0 H0=>?_
 simp only [List.set_set,List.set_cons_zero,List.set_cons_succ] at H0
 refine H0.st k (List.getElem?_set_self bR) (an b 1) (by simp) rfl fun w1 H1=>?_
 simp only [List.set_set,List.set_cons_zero,List.set_cons_succ] at H1
 refine H1.st k (List.getElem?_set_self bR) (an b 2) (by simp) rfl fun w2 H2=>?_
 simp only [List.set_set,List.set_cons_zero,List.set_cons_succ] at H2
 exact h _ H2
@[reducible] def rU (c0:Int) (c1:Int) (c2:ah) (c3:Int) (c4:Int):List Value:=[.int .i64 c0,.int .i64 c1,.slice c2.a c2.n c2.c,.int .i64 c3,.int .u64 c4]
theorem Ep {a:Addr} {w:World} {c0:Int} {c1:Int} {c2:ah} {c3:Int} {c4:Int} {K:Int→Int→ah→Int→Int→Prop} (h:∀ (i:Nat) (v:Value),(rU c0 c1 c2 c3 c4)[i]? = some v→w.cell? (Addr.add a i)=some v) (hK:K c0 c1 c2 c3 c4):B5 a w K:=
 ⟨_,h 0 _ rfl,⟨_,h 1 _ rfl,⟨c2,h 2 _ rfl,⟨_,h 3 _ rfl,⟨_,h 4 _ rfl,hK⟩⟩⟩⟩⟩
theorem _root_.Go.Ev.aq.p9 {w0 w:World} {S:List Nat} {L:List aB} (H:aq w0 S w L) (k:Nat) {b:Nat} {t:TypeId} {cs:List Value} {c0:Int} {c1:Int} {c2:ah} {c3:Int} {c4:Int} {K:World→Prop} (hk:L[k]? = some (.av b cs t)) (hl:cs.length=5) (h:∀ w',aq w0 S w' (L.set k (.av b (rU c0 c1 c2 c3 c4) t))→K w'):p9 ⟨b,0,none⟩ c0 c1 c2 c3 c4 w K:=by
 have bR:k<L.length:=(List.getElem?_eq_some_iff.1 hk).1
 obtain ⟨u0,u1,u2,u3,u4,rfl⟩:∃ u0 u1 u2 u3 u4,cs=[u0,u1,u2,u3,u4]:=by
  match cs,hl with
  | [u0,u1,u2,u3,u4],_=>exact ⟨u0,u1,u2,u3,u4,rfl⟩
 refine H.st k hk (an b 0) (by simp) rfl fun w0 H0=>?_
 simp only [List.set_set,List.set_cons_zero,List.set_cons_succ] at H0
 refine H0.st k (List.getElem?_set_self bR) (an b 1) (by simp) rfl fun w1 H1=>?_
 simp only [List.set_set,List.set_cons_zero,List.set_cons_succ] at H1
 refine H1.st k (List.getElem?_set_self bR) (an b 2) (by simp) rfl fun w2 H2=>?_
 simp only [List.set_set,List.set_cons_zero,List.set_cons_succ] at H2
 refine H2.st k (List.getElem?_set_self bR) (an b 3) (by simp) rfl fun w3 H3=>?_
 simp only [List.set_set,List.set_cons_zero,List.set_cons_succ] at H3
 refine H3.st k (List.getElem?_set_self bR) (an b 4) (by simp) rfl fun w4 H4=>?_
 simp only [List.set_set,List.set_cons_zero,List.set_cons_succ] at H4
 exact h _ H4
@[reducible] def mP (c0:Int) (c1:Int) (c2:Int) (c3:ah):List Value:=[.int .i64 c0,.int .i64 c1,.int .i64 c2,.slice c3.a c3.n c3.c]
theorem wF {a:Addr} {w:World} {c0:Int} {c1:Int} {c2:Int} {c3:ah} {K:Int→Int→Int→ah→Prop} (h:∀ (i:Nat) (v:Value),(mP c0 c1 c2 c3)[i]? = some v→w.cell? (Addr.add a i)=some v) (hK:K c0 c1 c2 c3):iI a w K:=
 ⟨_,h 0 _ rfl,⟨_,h 1 _ rfl,⟨_,h 2 _ rfl,⟨c3,h 3 _ rfl,hK⟩⟩⟩⟩
theorem _root_.Go.Ev.aq.iI {w0 w:World} {S:List Nat} {L:List aB} (H:aq w0 S w L) (k:Nat) {b:Nat} {t:TypeId} {c0:Int} {c1:Int} {c2:Int} {c3:ah} {K:Int→Int→Int→ah→Prop} (hk:L[k]? = some (.av b (mP c0 c1 c2 c3) t)) (hK:K c0 c1 c2 c3):iI ⟨b,0,none⟩ w K:=
 wF (fun i v hv=>H.cell k hk (an b i) hv) hK
theorem _root_.Go.Ev.aq.kR {w0 w:World} {S:List Nat} {L:List aB} (H:aq w0 S w L) (k:Nat) {b:Nat} {t:TypeId} {cs:List Value} {c0:Int} {c1:Int} {c2:Int} {c3:ah} {K:World→Prop} (hk:L[k]? = some (.av b cs t)) (hl:cs.length=4) (h:∀ w',aq w0 S w' (L.set k (.av b (mP c0 c1 c2 c3) t))→K w'):kR ⟨b,0,none⟩ c0 c1 c2 c3 w K:=by
 have bR:k<L.length:=(List.getElem?_eq_some_iff.1 hk).1
 obtain ⟨u0,u1,u2,u3,rfl⟩:∃ u0 u1 u2 u3,cs=[u0,u1,u2,u3]:=by
  match cs,hl with
  | [u0,u1,u2,u3],_=>exact ⟨u0,u1,u2,u3,rfl⟩
 refine H.st k hk (an b 0) (by simp) rfl fun w0 H0=>?_
 simp only [List.set_set,List.set_cons_zero,List.set_cons_succ] at H0
 refine H0.st k (List.getElem?_set_self bR) (an b 1) (by simp) rfl fun w1 H1=>?_
 simp only [List.set_set,List.set_cons_zero,List.set_cons_succ] at H1
 refine H1.st k (List.getElem?_set_self bR) (an b 2) (by simp) rfl fun w2 H2=>?_
 simp only [List.set_set,List.set_cons_zero,List.set_cons_succ] at H2
 refine H2.st k (List.getElem?_set_self bR) (an b 3) (by simp) rfl fun w3 H3=>?_
 simp only [List.set_set,List.set_cons_zero,List.set_cons_succ] at H3
 exact h _ H3
theorem Xx {c0:Int} {c1:Int} {c2:Int} {c3:ah} {K:Int→Int→Int→ah→Prop} (hK:K c0 c1 c2 c3):Cx (.agg ⟨mP c0 c1 c2 c3⟩) K:=
 ⟨_,rfl,c0,rfl,c1,rfl,c2,rfl,c3,rfl,rfl,hK⟩
@[reducible] def qR (c0:Int) (c1:Int) (c2:Int) (c3:Int) (c4:Int) (c5:Bool):List Value:=[.int .i64 c0,.int .i64 c1,.int .i64 c2,.int .i64 c3,.int .i64 c4,.bool c5]
theorem WY {a:Addr} {w:World} {c0:Int} {c1:Int} {c2:Int} {c3:Int} {c4:Int} {c5:Bool} {K:Int→Int→Int→Int→Int→Bool→Prop} (h:∀ (i:Nat) (v:Value),(qR c0 c1 c2 c3 c4 c5)[i]? = some v→w.cell? (Addr.add a i)=some v) (hK:K c0 c1 c2 c3 c4 c5):qm a w K:=
 ⟨_,h 0 _ rfl,⟨_,h 1 _ rfl,⟨_,h 2 _ rfl,⟨_,h 3 _ rfl,⟨_,h 4 _ rfl,⟨_,h 5 _ rfl,hK⟩⟩⟩⟩⟩⟩
theorem _root_.Go.Ev.aq.qm {w0 w:World} {S:List Nat} {L:List aB} (H:aq w0 S w L) (k:Nat) {b:Nat} {t:TypeId} {c0:Int} {c1:Int} {c2:Int} {c3:Int} {c4:Int} {c5:Bool} {K:Int→Int→Int→Int→Int→Bool→Prop} (hk:L[k]? = some (.av b (qR c0 c1 c2 c3 c4 c5) t)) (hK:K c0 c1 c2 c3 c4 c5):qm ⟨b,0,none⟩ w K:=
 WY (fun i v hv=>H.cell k hk (an b i) hv) hK
theorem _root_.Go.Ev.aq.tw {w0 w:World} {S:List Nat} {L:List aB} (H:aq w0 S w L) (k:Nat) {b:Nat} {t:TypeId} {cs:List Value} {c0:Int} {c1:Int} {c2:Int} {c3:Int} {c4:Int} {c5:Bool} {K:World→Prop} (hk:L[k]? = some (.av b cs t)) (hl:cs.length=6) (h:∀ w',aq w0 S w' (L.set k (.av b (qR c0 c1 c2 c3 c4 c5) t))→K w'):tw ⟨b,0,none⟩ c0 c1 c2 c3 c4 c5 w K:=by
 have bR:k<L.length:=(List.getElem?_eq_some_iff.1 hk).1
 obtain ⟨u0,u1,u2,u3,u4,u5,rfl⟩:∃ u0 u1 u2 u3 u4 u5,cs=[u0,u1,u2,u3,u4,u5]:=by
  match cs,hl with
  | [u0,u1,u2,u3,u4,u5],_=>exact ⟨u0,u1,u2,u3,u4,u5,rfl⟩
 refine H.st k hk (an b 0) (by simp) rfl fun w0 H0=>?_
 simp only [List.set_set,List.set_cons_zero,List.set_cons_succ] at H0
 refine H0.st k (List.getElem?_set_self bR) (an b 1) (by simp) rfl fun w1 H1=>?_
 simp only [List.set_set,List.set_cons_zero,List.set_cons_succ] at H1
 refine H1.st k (List.getElem?_set_self bR) (an b 2) (by simp) rfl fun w2 H2=>?_
 simp only [List.set_set,List.set_cons_zero,List.set_cons_succ] at H2
 refine H2.st k (List.getElem?_set_self bR) (an b 3) (by simp) rfl fun w3 H3=>?_
 simp only [List.set_set,List.set_cons_zero,List.set_cons_succ] at H3
 refine H3.st k (List.getElem?_set_self bR) (an b 4) (by simp) rfl fun w4 H4=>?_
 simp only [List.set_set,List.set_cons_zero,List.set_cons_succ] at H4
 refine H4.st k (List.getElem?_set_self bR) (an b 5) (by simp) rfl fun w5 H5=>?_
 simp only [List.set_set,List.set_cons_zero,List.set_cons_succ] at H5
 exact h _ H5
@[reducible] def zX (c0:Int) (c1:Int) (c2:Int) (c3:ah):List Value:=[.int .i64 c0,.int .i64 c1,.int .i64 c2,.slice c3.a c3.n c3.c]
theorem BW {a:Addr} {w:World} {c0:Int} {c1:Int} {c2:Int} {c3:ah} {K:Int→Int→Int→ah→Prop} (h:∀ (i:Nat) (v:Value),(zX c0 c1 c2 c3)[i]? = some v→w.cell? (Addr.add a i)=some v) (hK:K c0 c1 c2 c3):uV a w K:=
 ⟨_,h 0 _ rfl,⟨_,h 1 _ rfl,⟨_,h 2 _ rfl,⟨c3,h 3 _ rfl,hK⟩⟩⟩⟩
theorem _root_.Go.Ev.aq.uV {w0 w:World} {S:List Nat} {L:List aB} (H:aq w0 S w L) (k:Nat) {b:Nat} {t:TypeId} {c0:Int} {c1:Int} {c2:Int} {c3:ah} {K:Int→Int→Int→ah→Prop} (hk:L[k]? = some (.av b (zX c0 c1 c2 c3) t)) (hK:K c0 c1 c2 c3):uV ⟨b,0,none⟩ w K:=
 BW (fun i v hv=>H.cell k hk (an b i) hv) hK
theorem _root_.Go.Ev.aq.rT {w0 w:World} {S:List Nat} {L:List aB} (H:aq w0 S w L) (k:Nat) {b:Nat} {t:TypeId} {cs:List Value} {c0:Int} {c1:Int} {c2:Int} {c3:ah} {K:World→Prop} (hk:L[k]? = some (.av b cs t)) (hl:cs.length=4) (h:∀ w',aq w0 S w' (L.set k (.av b (zX c0 c1 c2 c3) t))→K w'):rT ⟨b,0,none⟩ c0 c1 c2 c3 w K:=by
 have bR:k<L.length:=(List.getElem?_eq_some_iff.1 hk).1
 obtain ⟨u0,u1,u2,u3,rfl⟩:∃ u0 u1 u2 u3,cs=[u0,u1,u2,u3]:=by
  match cs,hl with
  | [u0,u1,u2,u3],_=>exact ⟨u0,u1,u2,u3,rfl⟩
 refine H.st k hk (an b 0) (by simp) rfl fun w0 H0=>?_
 simp only [List.set_set,List.set_cons_zero,List.set_cons_succ] at H0
 refine H0.st k (List.getElem?_set_self bR) (an b 1) (by simp) rfl fun w1 H1=>?_
 simp only [List.set_set,List.set_cons_zero,List.set_cons_succ] at H1
 refine H1.st k (List.getElem?_set_self bR) (an b 2) (by simp) rfl fun w2 H2=>?_
 simp only [List.set_set,List.set_cons_zero,List.set_cons_succ] at H2
 refine H2.st k (List.getElem?_set_self bR) (an b 3) (by simp) rfl fun w3 H3=>?_
 simp only [List.set_set,List.set_cons_zero,List.set_cons_succ] at H3
 exact h _ H3
@[reducible] def EF (c0:Int) (c1:Int) (c2:Int) (c3:Int) (c4:Int):List Value:=[.int .i64 c0,.int .i64 c1,.int .i64 c2,.int .i64 c3,.int .i64 c4]
theorem agn {a:Addr} {w:World} {c0:Int} {c1:Int} {c2:Int} {c3:Int} {c4:Int} {K:Int→Int→Int→Int→Int→Prop} (h:∀ (i:Nat) (v:Value),(EF c0 c1 c2 c3 c4)[i]? = some v→w.cell? (Addr.add a i)=some v) (hK:K c0 c1 c2 c3 c4):wH a w K:=
 ⟨_,h 0 _ rfl,⟨_,h 1 _ rfl,⟨_,h 2 _ rfl,⟨_,h 3 _ rfl,⟨_,h 4 _ rfl,hK⟩⟩⟩⟩⟩
theorem _root_.Go.Ev.aq.wH {w0 w:World} {S:List Nat} {L:List aB} (H:aq w0 S w L) (k:Nat) {b:Nat} {t:TypeId} {c0:Int} {c1:Int} {c2:Int} {c3:Int} {c4:Int} {K:Int→Int→Int→Int→Int→Prop} (hk:L[k]? = some (.av b (EF c0 c1 c2 c3 c4) t)) (hK:K c0 c1 c2 c3 c4):wH ⟨b,0,none⟩ w K:=
 agn (fun i v hv=>H.cell k hk (an b i) hv) hK
theorem _root_.Go.Ev.aq.oJ {w0 w:World} {S:List Nat} {L:List aB} (H:aq w0 S w L) (k:Nat) {b:Nat} {t:TypeId} {cs:List Value} {c0:Int} {c1:Int} {c2:Int} {c3:Int} {c4:Int} {K:World→Prop} (hk:L[k]? = some (.av b cs t)) (hl:cs.length=5) (h:∀ w',aq w0 S w' (L.set k (.av b (EF c0 c1 c2 c3 c4) t))→K w'):oJ ⟨b,0,none⟩ c0 c1 c2 c3 c4 w K:=by
 have bR:k<L.length:=(List.getElem?_eq_some_iff.1 hk).1
 obtain ⟨u0,u1,u2,u3,u4,rfl⟩:∃ u0 u1 u2 u3 u4,cs=[u0,u1,u2,u3,u4]:=by
  match cs,hl with
  | [u0,u1,u2,u3,u4],_=>exact ⟨u0,u1,u2,u3,u4,rfl⟩
 refine H.st k hk (an b 0) (by simp) rfl fun w0 H0=>?_
 simp only [List.set_set,List.set_cons_zero,List.set_cons_succ] at H0
 refine H0.st k (List.getElem?_set_self bR) (an b 1) (by simp) rfl fun w1 H1=>?_
 simp only [List.set_set,List.set_cons_zero,List.set_cons_succ] at H1
 refine H1.st k (List.getElem?_set_self bR) (an b 2) (by simp) rfl fun w2 H2=>?_
 simp only [List.set_set,List.set_cons_zero,List.set_cons_succ] at H2
 refine H2.st k (List.getElem?_set_self bR) (an b 3) (by simp) rfl fun w3 H3=>?_
 simp only [List.set_set,List.set_cons_zero,List.set_cons_succ] at H3
 refine H3.st k (List.getElem?_set_self bR) (an b 4) (by simp) rfl fun w4 H4=>?_
 simp only [List.set_set,List.set_cons_zero,List.set_cons_succ] at H4
 exact h _ H4
theorem WZ {c0:Int} {c1:Int} {c2:Int} {c3:Int} {c4:Int} {K:Int→Int→Int→Int→Int→Prop} (hK:K c0 c1 c2 c3 c4):Pv (.agg ⟨EF c0 c1 c2 c3 c4⟩) K:=
 ⟨_,rfl,c0,rfl,c1,rfl,c2,rfl,c3,rfl,c4,rfl,rfl,hK⟩
@[reducible] def I5 (c0:Int) (c1:Int) (c2:Int) (c3:Int) (c4:Int) (c5:Int) (c6:Int) (c7:Int) (c8:Int):List Value:=[.int .i64 c0,.int .i64 c1,.int .i64 c2,.int .i64 c3,.int .i64 c4,.int .i64 c5,.int .i64 c6,.int .i64 c7,.int .i64 c8]
theorem ago {a:Addr} {w:World} {c0:Int} {c1:Int} {c2:Int} {c3:Int} {c4:Int} {c5:Int} {c6:Int} {c7:Int} {c8:Int} {K:Int→Int→Int→Int→Int→Int→Int→Int→Int→Prop} (h:∀ (i:Nat) (v:Value),(I5 c0 c1 c2 c3 c4 c5 c6 c7 c8)[i]? = some v→w.cell? (Addr.add a i)=some v) (hK:K c0 c1 c2 c3 c4 c5 c6 c7 c8):qQ a w K:=
 ⟨_,h 0 _ rfl,⟨_,h 1 _ rfl,⟨_,h 2 _ rfl,⟨_,h 3 _ rfl,⟨_,h 4 _ rfl,⟨_,h 5 _ rfl,⟨_,h 6 _ rfl,⟨_,h 7 _ rfl,⟨_,h 8 _ rfl,hK⟩⟩⟩⟩⟩⟩⟩⟩⟩
theorem _root_.Go.Ev.aq.qQ {w0 w:World} {S:List Nat} {L:List aB} (H:aq w0 S w L) (k:Nat) {b:Nat} {t:TypeId} {c0:Int} {c1:Int} {c2:Int} {c3:Int} {c4:Int} {c5:Int} {c6:Int} {c7:Int} {c8:Int} {K:Int→Int→Int→Int→Int→Int→Int→Int→Int→Prop} (hk:L[k]? = some (.av b (I5 c0 c1 c2 c3 c4 c5 c6 c7 c8) t)) (hK:K c0 c1 c2 c3 c4 c5 c6 c7 c8):qQ ⟨b,0,none⟩ w K:=
 ago (fun i v hv=>H.cell k hk (an b i) hv) hK
theorem _root_.Go.Ev.aq.rV {w0 w:World} {S:List Nat} {L:List aB} (H:aq w0 S w L) (k:Nat) {b:Nat} {t:TypeId} {cs:List Value} {c0:Int} {c1:Int} {c2:Int} {c3:Int} {c4:Int} {c5:Int} {c6:Int} {c7:Int} {c8:Int} {K:World→Prop} (hk:L[k]? = some (.av b cs t)) (hl:cs.length=9) (h:∀ w',aq w0 S w' (L.set k (.av b (I5 c0 c1 c2 c3 c4 c5 c6 c7 c8) t))→K w'):rV ⟨b,0,none⟩ c0 c1 c2 c3 c4 c5 c6 c7 c8 w K:=by
 have bR:k<L.length:=(List.getElem?_eq_some_iff.1 hk).1
 obtain ⟨u0,u1,u2,u3,u4,u5,u6,u7,u8,rfl⟩:∃ u0 u1 u2 u3 u4 u5 u6 u7 u8,cs=[u0,u1,u2,u3,u4,u5,u6,u7,u8]:=by
  match cs,hl with
  | [u0,u1,u2,u3,u4,u5,u6,u7,u8],_=>exact ⟨u0,u1,u2,u3,u4,u5,u6,u7,u8,rfl⟩
 refine H.st k hk (an b 0) (by simp) rfl fun w0 H0=>?_
 simp only [List.set_set,List.set_cons_zero,List.set_cons_succ] at H0
 refine H0.st k (List.getElem?_set_self bR) (an b 1) (by simp) rfl fun w1 H1=>?_
 simp only [List.set_set,List.set_cons_zero,List.set_cons_succ] at H1
 refine H1.st k (List.getElem?_set_self bR) (an b 2) (by simp) rfl fun w2 H2=>?_
 simp only [List.set_set,List.set_cons_zero,List.set_cons_succ] at H2
 refine H2.st k (List.getElem?_set_self bR) (an b 3) (by simp) rfl fun w3 H3=>?_
 simp only [List.set_set,List.set_cons_zero,List.set_cons_succ] at H3
 refine H3.st k (List.getElem?_set_self bR) (an b 4) (by simp) rfl fun w4 H4=>?_
 simp only [List.set_set,List.set_cons_zero,List.set_cons_succ] at H4
 refine H4.st k (List.getElem?_set_self bR) (an b 5) (by simp) rfl fun w5 H5=>?_
 simp only [List.set_set,List.set_cons_zero,List.set_cons_succ] at H5
 refine H5.st k (List.getElem?_set_self bR) (an b 6) (by simp) rfl fun w6 H6=>?_
 simp only [List.set_set,List.set_cons_zero,List.set_cons_succ] at H6
 refine H6.st k (List.getElem?_set_self bR) (an b 7) (by simp) rfl fun w7 H7=>?_
 simp only [List.set_set,List.set_cons_zero,List.set_cons_succ] at H7
 refine H7.st k (List.getElem?_set_self bR) (an b 8) (by simp) rfl fun w8 H8=>?_
 simp only [List.set_set,List.set_cons_zero,List.set_cons_succ] at H8
 exact h _ H8
theorem agp {c0:Int} {c1:Int} {c2:Int} {c3:Int} {c4:Int} {c5:Int} {c6:Int} {c7:Int} {c8:Int} {K:Int→Int→Int→Int→Int→Int→Int→Int→Int→Prop} (hK:K c0 c1 c2 c3 c4 c5 c6 c7 c8):Pw (.agg ⟨I5 c0 c1 c2 c3 c4 c5 c6 c7 c8⟩) K:=
 ⟨_,rfl,c0,rfl,c1,rfl,c2,rfl,c3,rfl,c4,rfl,c5,rfl,c6,rfl,c7,rfl,c8,rfl,rfl,hK⟩
@[reducible] def ES (c0:Int) (c1:Int) (c2:Int) (c3:Int) (c4:Int) (c5:Int) (c6:Int) (c7:Int) (c8:Int):List Value:=[.int .i64 c0,.int .i64 c1,.int .i64 c2,.int .i64 c3,.int .i64 c4,.int .i64 c5,.int .i64 c6,.int .i64 c7,.int .i64 c8]
theorem ahD {a:Addr} {w:World} {c0:Int} {c1:Int} {c2:Int} {c3:Int} {c4:Int} {c5:Int} {c6:Int} {c7:Int} {c8:Int} {K:Int→Int→Int→Int→Int→Int→Int→Int→Int→Prop} (h:∀ (i:Nat) (v:Value),(ES c0 c1 c2 c3 c4 c5 c6 c7 c8)[i]? = some v→w.cell? (Addr.add a i)=some v) (hK:K c0 c1 c2 c3 c4 c5 c6 c7 c8):tB a w K:=
 ⟨_,h 0 _ rfl,⟨_,h 1 _ rfl,⟨_,h 2 _ rfl,⟨_,h 3 _ rfl,⟨_,h 4 _ rfl,⟨_,h 5 _ rfl,⟨_,h 6 _ rfl,⟨_,h 7 _ rfl,⟨_,h 8 _ rfl,hK⟩⟩⟩⟩⟩⟩⟩⟩⟩
theorem _root_.Go.Ev.aq.tB {w0 w:World} {S:List Nat} {L:List aB} (H:aq w0 S w L) (k:Nat) {b:Nat} {t:TypeId} {c0:Int} {c1:Int} {c2:Int} {c3:Int} {c4:Int} {c5:Int} {c6:Int} {c7:Int} {c8:Int} {K:Int→Int→Int→Int→Int→Int→Int→Int→Int→Prop} (hk:L[k]? = some (.av b (ES c0 c1 c2 c3 c4 c5 c6 c7 c8) t)) (hK:K c0 c1 c2 c3 c4 c5 c6 c7 c8):tB ⟨b,0,none⟩ w K:=
 ahD (fun i v hv=>H.cell k hk (an b i) hv) hK
theorem _root_.Go.Ev.aq.pq {w0 w:World} {S:List Nat} {L:List aB} (H:aq w0 S w L) (k:Nat) {b:Nat} {t:TypeId} {cs:List Value} {c0:Int} {c1:Int} {c2:Int} {c3:Int} {c4:Int} {c5:Int} {c6:Int} {c7:Int} {c8:Int} {K:World→Prop} (hk:L[k]? = some (.av b cs t)) (hl:cs.length=9) (h:∀ w',aq w0 S w' (L.set k (.av b (ES c0 c1 c2 c3 c4 c5 c6 c7 c8) t))→K w'):pq ⟨b,0,none⟩ c0 c1 c2 c3 c4 c5 c6 c7 c8 w K:=by
 have bR:k<L.length:=(List.getElem?_eq_some_iff.1 hk).1
 obtain ⟨u0,u1,u2,u3,u4,u5,u6,u7,u8,rfl⟩:∃ u0 u1 u2 u3 u4 u5 u6 u7 u8,cs=[u0,u1,u2,u3,u4,u5,u6,u7,u8]:=by
  match cs,hl with
  | [u0,u1,u2,u3,u4,u5,u6,u7,u8],_=>exact ⟨u0,u1,u2,u3,u4,u5,u6,u7,u8,rfl⟩
 refine H.st k hk (an b 0) (by simp) rfl fun w0 H0=>?_
 simp only [List.set_set,List.set_cons_zero,List.set_cons_succ] at H0
 refine H0.st k (List.getElem?_set_self bR) (an b 1) (by simp) rfl fun w1 H1=>?_
 simp only [List.set_set,List.set_cons_zero,List.set_cons_succ] at H1
 refine H1.st k (List.getElem?_set_self bR) (an b 2) (by simp) rfl fun w2 H2=>?_
 simp only [List.set_set,List.set_cons_zero,List.set_cons_succ] at H2
 refine H2.st k (List.getElem?_set_self bR) (an b 3) (by simp) rfl fun w3 H3=>?_
 simp only [List.set_set,List.set_cons_zero,List.set_cons_succ] at H3
 refine H3.st k (List.getElem?_set_self bR) (an b 4) (by simp) rfl fun w4 H4=>?_
 simp only [List.set_set,List.set_cons_zero,List.set_cons_succ] at H4
 refine H4.st k (List.getElem?_set_self bR) (an b 5) (by simp) rfl fun w5 H5=>?_
 simp only [List.set_set,List.set_cons_zero,List.set_cons_succ] at H5
 refine H5.st k (List.getElem?_set_self bR) (an b 6) (by simp) rfl fun w6 H6=>?_
 simp only [List.set_set,List.set_cons_zero,List.set_cons_succ] at H6
 refine H6.st k (List.getElem?_set_self bR) (an b 7) (by simp) rfl fun w7 H7=>?_
 simp only [List.set_set,List.set_cons_zero,List.set_cons_succ] at H7
 refine H7.st k (List.getElem?_set_self bR) (an b 8) (by simp) rfl fun w8 H8=>?_
 simp only [List.set_set,List.set_cons_zero,List.set_cons_succ] at H8
 exact h _ H8
theorem IW {c0:Int} {c1:Int} {c2:Int} {c3:Int} {c4:Int} {c5:Int} {c6:Int} {c7:Int} {c8:Int} {K:Int→Int→Int→Int→Int→Int→Int→Int→Int→Prop} (hK:K c0 c1 c2 c3 c4 c5 c6 c7 c8):YB (.agg ⟨ES c0 c1 c2 c3 c4 c5 c6 c7 c8⟩) K:=
 ⟨_,rfl,c0,rfl,c1,rfl,c2,rfl,c3,rfl,c4,rfl,c5,rfl,c6,rfl,c7,rfl,c8,rfl,rfl,hK⟩
end Go.Proofs.YtpchgbolambkcaaGreatDoor
end
section
set_option linter.unusedVariables false
set_option linter.unusedSimpArgs false
namespace Go.Proofs.YtpchgbolambkcaaGreatDoor
open Go Go.Ev
set_option maxRecDepth 100000
set_option linter.unusedVariables false
def Px (bD bE:Int) (bF bG:Int) (bS bT:Int) (cB cC:Int) (cD cE cx:Int) (cy:ByteArray) (cz cA:ah) (w:World) (R:Value→World→Prop):Prop:=
 nw dx (dW bD bE bF bG bS bT cB cC cD cE cx cy cz cA) w fun a b=>
 au .i64 (Addr.add a 0) b fun c=>
 au .i64 (Addr.add a 1) b fun d=>
 au .i64 (Addr.add a 2) b fun e=>
 nw bn (jB c d e) b fun f g=>
 ax Pr BY [.slice none 0 0,.slice (some f) 3 3] g fun i j=>
 aK i fun k=>
 dD a j fun l m n o p q s t u v x y z A=>
 ax Pr IC [.agg ⟨dW l m n o p q s t u v x y z A⟩] j fun B C=>
 aK B fun D=>
 ax Pr BY [.slice k.a k.n k.c,.slice D.a D.n D.c] C fun E F=>
 aK E fun G=>
 dR (Addr.add a 11) (World.drew F) fun I=>
 ay (Addr.add a 12) (World.drew F) fun J=>
 ay (Addr.add a 13) (World.drew F) fun L=>
 ((ax Pr EC [.slice G.a G.n G.c,.string I] (World.drew F) fun M N=>
 aK M fun O=>
 (kept (Addr.add a 13) 1 (World.drew F) N∧
 (kept (Addr.add a 12) 1 (World.drew F) N∧
 nw bp [.slice J.a J.n J.c,.slice L.a L.n L.c] N fun Q S=>
 (kept (Addr.add a 11) 1 N S∧
 ax Pr zY [.slice O.a O.n O.c,.slice (some Q) 2 2] S fun T U=>
 aK T fun V=>
 R (.slice V.a V.n V.c) U))))∧
 (nw bp [.slice J.a J.n J.c,.slice L.a L.n L.c] (World.drew F) fun X Y=>
 (kept (Addr.add a 11) 1 (World.drew F) Y∧
 ax Pr EC [.slice G.a G.n G.c,.string I] Y fun Z aa=>
 aK Z fun ba=>
 (kept (Addr.add a 13) 1 Y aa∧
 (kept (Addr.add a 12) 1 Y aa∧
 ax Pr zY [.slice ba.a ba.n ba.c,.slice (some X) 2 2] aa fun ca da=>
 aK ca fun ea=>
 R (.slice ea.a ea.n ea.c) da)))))
theorem agq {bD bE:Int} {bF bG:Int} {bS bT:Int} {cB cC:Int} {cD cE cx:Int} {cy:ByteArray} {cz cA:ah} {w:World} {R:Value→World→Prop} (h:Px bD bE bF bG bS bT cB cC cD cE cx cy cz cA w R):Ok Pr IZ [.agg ⟨dW bD bE bF bG bS bT cB cC cD cE cx cy cz cA⟩] w R:=
 aP (m:=⟨true,true⟩) (J:=[]) (L:=[]) aN Tryz.func13 (by kernel_rfl) ((by kernel_rfl:aO Pr _ _ _ Tryz.f13 _ w R=Px bD bE bF bG bS bT cB cC cD cE cx cy cz cA w R).mpr h)
def NJ (bD bE:Int) (bF bG:Int) (bS bT:Int) (cB cC:Int) (cD cE cx:Int) (cy:ByteArray) (cz cA:ah) (w:World) (R:Value→World→Prop):Prop:=
 nw dx (dW bD bE bF bG bS bT cB cC cD cE cx cy cz cA) w fun a b=>
 au .i64 (Addr.add a 3) b fun c=>
 au .i64 (Addr.add a 4) b fun d=>
 au .i64 (Addr.add a 5) b fun e=>
 au .i64 (Addr.add a 6) b fun f=>
 au .i64 (Addr.add a 7) b fun g=>
 au .i64 (Addr.add a 8) b fun i=>
 au .i64 (Addr.add a 9) b fun j=>
 au .i64 (Addr.add a 10) b fun k=>
 nw bn (aiA c d e f g i j k) b fun l m=>
 R (.slice (some l) 8 8) m
theorem ae9 {bD bE:Int} {bF bG:Int} {bS bT:Int} {cB cC:Int} {cD cE cx:Int} {cy:ByteArray} {cz cA:ah} {w:World} {R:Value→World→Prop} (h:NJ bD bE bF bG bS bT cB cC cD cE cx cy cz cA w R):Ok Pr IC [.agg ⟨dW bD bE bF bG bS bT cB cC cD cE cx cy cz cA⟩] w R:=
 aP (m:=⟨true,true⟩) (J:=[]) (L:=[]) aN Tryz.func40 (by kernel_rfl) ((by kernel_rfl:aO Pr _ _ _ Tryz.f40 _ w R=NJ bD bE bF bG bS bT cB cC cD cE cx cy cz cA w R).mpr h)
def Py (r:Option Addr) (lo hi:Int) (w:World) (R:Value→World→Prop):Prop:=
 nw dx (zc Pr dx) w fun a b=>
 ax Pr oG [.pointer r,.int .i64 lo,.int .i64 hi] b fun c d=>
 aF .i64 c fun e=>
 nw dx (zc Pr dx) d fun f g=>
 rX f e 0 0 0 0 0 0 0 0 0 0 eO ⟨none,0,0⟩ ⟨none,0,0⟩ g fun i=>
 ax Pr oG [.pointer r,.int .i64 lo,.int .i64 hi] i fun j k=>
 aF .i64 j fun l=>
 st (Addr.add f 1) (.int .i64 l) k fun m=>
 ax Pr oG [.pointer r,.int .i64 lo,.int .i64 hi] m fun n o=>
 aF .i64 n fun p=>
 st (Addr.add f 2) (.int .i64 p) o fun q=>
 ax Pr oG [.pointer r,.int .i64 lo,.int .i64 hi] q fun s t=>
 aF .i64 s fun u=>
 st (Addr.add f 3) (.int .i64 u) t fun v=>
 ax Pr oG [.pointer r,.int .i64 lo,.int .i64 hi] v fun x y=>
 aF .i64 x fun z=>
 st (Addr.add f 4) (.int .i64 z) y fun A=>
 ax Pr oG [.pointer r,.int .i64 lo,.int .i64 hi] A fun B C=>
 aF .i64 B fun D=>
 st (Addr.add f 5) (.int .i64 D) C fun E=>
 ax Pr oG [.pointer r,.int .i64 lo,.int .i64 hi] E fun F G=>
 aF .i64 F fun I=>
 st (Addr.add f 6) (.int .i64 I) G fun J=>
 ax Pr oG [.pointer r,.int .i64 lo,.int .i64 hi] J fun L M=>
 aF .i64 L fun N=>
 st (Addr.add f 7) (.int .i64 N) M fun O=>
 ax Pr oG [.pointer r,.int .i64 lo,.int .i64 hi] O fun Q S=>
 aF .i64 Q fun T=>
 st (Addr.add f 8) (.int .i64 T) S fun U=>
 ax Pr oG [.pointer r,.int .i64 lo,.int .i64 hi] U fun V X=>
 aF .i64 V fun Y=>
 st (Addr.add f 9) (.int .i64 Y) X fun Z=>
 ax Pr oG [.pointer r,.int .i64 lo,.int .i64 hi] Z fun aa ba=>
 aF .i64 aa fun ca=>
 st (Addr.add f 10) (.int .i64 ca) ba fun da=>
 ax Pr Is [.pointer r,.int .i64 300] da fun ea fa=>
 tU ea fun ga=>
 st (Addr.add f 11) (.string ga) fa fun ia=>
 ax Pr zU [.pointer r,.int .i64 2000] ia fun ja ka=>
 aK ja fun la=>
 st (Addr.add f 12) (.slice la.a la.n la.c) ka fun ma=>
 ax Pr zU [.pointer r,.int .i64 100] ma fun na oa=>
 aK na fun pa=>
 st (Addr.add f 13) (.slice pa.a pa.n pa.c) oa fun qa=>
 dD f qa fun sa ta ua va xa ya za Aa Ba Ca Da Ea Fa Ga=>
 rX a sa ta ua va xa ya za Aa Ba Ca Da Ea Fa Ga qa fun Ia=>
 dD a Ia fun Ja La Ma Na Oa Qa Sa Ta Ua Va Xa Ya Za ab=>
 R (.agg ⟨dW Ja La Ma Na Oa Qa Sa Ta Ua Va Xa Ya Za ab⟩) Ia
theorem agr {r:Option Addr} {lo hi:Int} {w:World} {R:Value→World→Prop} (h:Py r lo hi w R):Ok Pr Pg [.pointer r,.int .i64 lo,.int .i64 hi] w R:=
 aP (m:=⟨true,true⟩) (J:=[]) (L:=[]) aN Tryz.func49 (by kernel_rfl) ((by kernel_rfl:aO Pr _ _ _ Tryz.f49 _ w R=Py r lo hi w R).mpr h)
def OI (gT:Int) (w:World) (R:Value→World→Prop):Prop:=
 ax Pr Q5 [.int .i64 gT] w fun a b=>
 bU.bY a fun c=>
 aD c fun d e=>
 Pw d fun f g i j k l m n o=>
 aD e fun p q=>
 aQ p fun s=>
 (q=[]∧
 nw Cr (zc Pr Cr) b fun t u=>
 rV t f g i j k l m n o u fun v=>
 az (!s)
 (R (.tuple ⟨jB 0 0 0⟩) v)
 (qQ t v fun x y z A B C D E F=>
 ax Pr Pn [.agg ⟨tv x y z A B C D E F⟩] v fun G I=>
 bU.bY G fun J=>
 aD J fun L M=>
 aF .i64 L fun N=>
 aD M fun O Q=>
 aF .i64 O fun S=>
 (Q=[]∧
 au .i64 (Addr.add t 0) (World.drew I) fun T=>
 (aH (320 * T)∧
 (aH (32+(320 * T))∧
 au .i64 (Addr.add t 0) (World.drew I) fun U=>
 au .i64 (Addr.add t 1) (World.drew I) fun V=>
 (aH (U+V)∧
 (aH ((U+V) * S)∧
 au .i64 (Addr.add t 0) (World.drew I) fun X=>
 (aH (13 * X)∧
 (aH (((U+V) * S)+(13 * X))∧
 (aH (32 * (((U+V) * S)+(13 * X)))∧
 (aH (128+(32 * (((U+V) * S)+(13 * X))))∧
 au .i64 (Addr.add t 8) (World.drew I) fun Y=>
 au .i64 (Addr.add t 1) (World.drew I) fun Z=>
 (aH (32 * Z)∧
 (aH ((32 * Z) * N)∧
 (aH (Y+((32 * Z) * N))∧
 au .i64 (Addr.add t 5) (World.drew I) fun aa=>
 (aH ((Y+((32 * Z) * N))+aa)∧
 au .i64 (Addr.add t 0) (World.drew I) fun ba=>
 (aH (((Y+((32 * Z) * N))+aa)+ba)∧
 R (.tuple ⟨jB (32+(320 * T)) (128+(32 * (((U+V) * S)+(13 * X)))) (((Y+((32 * Z) * N))+aa)+ba)⟩) (World.drew I)))))))))))))))))
theorem afG {gT:Int} {w:World} {R:Value→World→Prop} (h:OI gT w R):Ok Pr IS [.int .i64 gT] w R:=
 aP (m:=⟨true,true⟩) (J:=[]) (L:=[]) aN Tryz.func99 (by kernel_rfl) ((by kernel_rfl:aO Pr _ _ _ Tryz.f99 _ w R=OI gT w R).mpr h)
def Pz (gT:Int) (w:World) (R:Value→World→Prop):Prop:=
 ax Pr Qp [.int .i64 gT] w fun a b=>
 bU.bY a fun c=>
 aD c fun d e=>
 aF .i64 d fun f=>
 aD e fun g i=>
 aF .i64 g fun j=>
 aD i fun k l=>
 aF .i64 k fun m=>
 (l=[]∧
 R (.tuple ⟨jB f j m⟩) b)
theorem ags {gT:Int} {w:World} {R:Value→World→Prop} (h:Pz gT w R):Ok Pr I4 [.int .i64 gT] w R:=
 aP (m:=⟨true,true⟩) (J:=[]) (L:=[]) aN Tryz.func127 (by kernel_rfl) ((by kernel_rfl:aO Pr _ _ _ Tryz.f127 _ w R=Pz gT w R).mpr h)
def Rb (gT:Int) (w:World) (R:Value→World→Prop):Prop:=
 nw Cr (zc Pr Cr) w fun a b=>
 az (decide (gT=1))
 (rV a 4 4 2 39 78 80 131072 95232 32 b fun c=>
 qQ a c fun d e f g i j k l m=>
 R (.tuple ⟨[.agg ⟨tv d e f g i j k l m⟩,.bool true]⟩) c)
 (az (decide (gT=2))
 (rV a 6 5 4 49 196 55 524288 261888 48 b fun n=>
 qQ a n fun o p q s t u v x y=>
 R (.tuple ⟨[.agg ⟨tv o p q s t u v x y⟩,.bool true]⟩) n)
 (az (decide (gT=3))
 (rV a 8 7 2 60 120 75 524288 261888 64 b fun z=>
 qQ a z fun A B C D E F G I J=>
 R (.tuple ⟨[.agg ⟨tv A B C D E F G I J⟩,.bool true]⟩) z)
 (rV a 0 0 0 0 0 0 0 0 0 b fun L=>
 qQ a L fun M N O Q S T U V X=>
 R (.tuple ⟨[.agg ⟨tv M N O Q S T U V X⟩,.bool false]⟩) L)))
theorem ahE {gT:Int} {w:World} {R:Value→World→Prop} (h:Rb gT w R):Ok Pr Q5 [.int .i64 gT] w R:=
 aP (m:=⟨true,true⟩) (J:=[]) (L:=[]) aN Tryz.func135 (by kernel_rfl) ((by kernel_rfl:aO Pr _ _ _ Tryz.f135 _ w R=Rb gT w R).mpr h)
def PA (GQ GR:Int) (GU GV:Int) (GX GY:Int) (GZ G0 G3:Int) (w:World) (R:Value→World→Prop):Prop:=
 nw Cr (tv GQ GR GU GV GX GY GZ G0 G3) w fun a b=>
 fD (fun (c:Int)=>[(4,some (.int .i64 c))])
 (fun c d=>fD (fun (e:Int)=>[(5,some (.int .i64 e))])
 (fun e f=>R (.tuple ⟨[.int .i64 c,.int .i64 e]⟩) f)
 (fun g=>
 au .i64 (Addr.add a 2) d fun i=>
 az (decide (i=2))
 (g 3 d)
 (g 4 d)))
 (fun j=>
 au .i64 (Addr.add a 6) b fun k=>
 az (decide (k=131072))
 (j 18 b)
 (j 20 b))
theorem agt {GQ GR:Int} {GU GV:Int} {GX GY:Int} {GZ G0 G3:Int} {w:World} {R:Value→World→Prop} (h:PA GQ GR GU GV GX GY GZ G0 G3 w R):Ok Pr Pn [.agg ⟨tv GQ GR GU GV GX GY GZ G0 G3⟩] w R:=
 aP (m:=⟨true,true⟩) (J:=[(4,[(4,.int .i64)]),(6,[(5,.int .i64)])]) (L:=[]) aN Tryz.func136 (by kernel_rfl) ((by kernel_rfl:aO Pr _ _ _ Tryz.f136 _ w R=PA GQ GR GU GV GX GY GZ G0 G3 w R).mpr h)
def Qq (bD bE:Int) (bF bG:Int) (bS bT:Int) (cB cC:Int) (cD cE cx:Int) (cy:ByteArray) (cz cA:ah) (w:World) (R:Value→World→Prop):Prop:=
 nw dx (dW bD bE bF bG bS bT cB cC cD cE cx cy cz cA) w fun a b=>
 dD a b fun c d e f g i j k l m n o p q=>
 ax Pr IC [.agg ⟨dW c d e f g i j k l m n o p q⟩] b fun s t=>
 aK s fun u=>
 dX (fun (v:Int)=>[(4,some (.int .i64 v))])
 (fun x v y=>az (decide (v<(u.n:Int)))
 (aZ u.a v u.n
 (au .i64 (Addr.add (base u.a) (Int.toNat v * 1)) y fun z=>
 az (decide (z<0))
 (R (.bool false) y)
 (aZ u.a v u.n
 (au .i64 (Addr.add (base u.a) (Int.toNat v * 1)) y fun A=>
 az (decide (1099511627776<A))
 (R (.bool false) y)
 ((aH (v+1)∧
 x (v+1) y))))))
 (au .i64 (Addr.add a 0) y fun B=>
 au .i64 (Addr.add a 0) y fun C=>
 au .i64 (Addr.add a 1) y fun D=>
 au .i64 (Addr.add a 1) y fun E=>
 au .i64 (Addr.add a 2) y fun F=>
 au .i64 (Addr.add a 2) y fun G=>
 dR (Addr.add a 11) y fun I=>
 ay (Addr.add a 12) y fun J=>
 ay (Addr.add a 13) y fun L=>
 R (.bool (((((((((decide (1≤B)) && (decide (C≤6))) && (decide (1≤D))) && (decide (E≤1099511627776))) && (decide (1≤F))) && (decide (G≤13))) && (decide (((ByteArray.size I:Nat):Int)≤300))) && (decide ((J.n:Int)≤2000))) && (decide ((L.n:Int)≤100)))) y))
 0 t
theorem agZ {bD bE:Int} {bF bG:Int} {bS bT:Int} {cB cC:Int} {cD cE cx:Int} {cy:ByteArray} {cz cA:ah} {w:World} {R:Value→World→Prop} (h:Qq bD bE bF bG bS bT cB cC cD cE cx cy cz cA w R):Ok Pr Qn [.agg ⟨dW bD bE bF bG bS bT cB cC cD cE cx cy cz cA⟩] w R:=
 aP (m:=⟨true,true⟩) (J:=[]) (L:=[(3,[(4,.int .i64)])]) aN Tryz.func141 (by kernel_rfl) ((by kernel_rfl:aO Pr _ _ _ Tryz.f141 _ w R=Qq bD bE bF bG bS bT cB cC cD cE cx cy cz cA w R).mpr h)
def OJ (bD bE:Int) (bF bG:Int) (bS bT:Int) (cB cC:Int) (cD cE cx:Int) (cy:ByteArray) (cz cA:ah) (w:World) (R:Value→World→Prop):Prop:=
 nw dx (dW bD bE bF bG bS bT cB cC cD cE cx cy cz cA) w fun a b=>
 au .i64 (Addr.add a 0) b fun c=>
 au .i64 (Addr.add a 1) b fun d=>
 au .i64 (Addr.add a 2) b fun e=>
 au .i64 (Addr.add a 3) b fun f=>
 au .i64 (Addr.add a 4) b fun g=>
 au .i64 (Addr.add a 5) b fun i=>
 au .i64 (Addr.add a 6) b fun j=>
 au .i64 (Addr.add a 7) b fun k=>
 au .i64 (Addr.add a 8) b fun l=>
 au .i64 (Addr.add a 9) b fun m=>
 au .i64 (Addr.add a 10) b fun n=>
 nw bn (W4 c d e f g i j k l m n) b fun o p=>
 R (.slice (some o) 11 11) p
theorem afH {bD bE:Int} {bF bG:Int} {bS bT:Int} {cB cC:Int} {cD cE cx:Int} {cy:ByteArray} {cz cA:ah} {w:World} {R:Value→World→Prop} (h:OJ bD bE bF bG bS bT cB cC cD cE cx cy cz cA w R):Ok Pr OF [.agg ⟨dW bD bE bF bG bS bT cB cC cD cE cx cy cz cA⟩] w R:=
 aP (m:=⟨true,true⟩) (J:=[]) (L:=[]) aN Tryz.func163 (by kernel_rfl) ((by kernel_rfl:aO Pr _ _ _ Tryz.f163 _ w R=OJ bD bE bF bG bS bT cB cC cD cE cx cy cz cA w R).mpr h)
def Qr (gT:Int) (w:World) (R:Value→World→Prop):Prop:=
 ax Pr RO [.int .i64 gT] w fun a b=>
 bU.bY a fun c=>
 aD c fun d e=>
 YB d fun f g i j k l m n o=>
 aD e fun p q=>
 aQ p fun s=>
 (q=[]∧
 nw EV (zc Pr EV) b fun t u=>
 pq t f g i j k l m n o u fun v=>
 az (!s)
 (R (.tuple ⟨jB 0 0 0⟩) v)
 (au .i64 (Addr.add t 2) (World.drew v) fun x=>
 au .i64 (Addr.add t 2) (World.drew v) fun y=>
 au .i64 (Addr.add t 6) (World.drew v) fun z=>
 (aH (z - 1)∧
 au .i64 (Addr.add t 6) (World.drew v) fun A=>
 ax Pr Ju [.int .i64 x,.int .i64 y] (World.drew v) fun B C=>
 aF .i64 B fun D=>
 (kept (Addr.add t 6) 1 (World.drew v) C∧
 (kept (Addr.add t 6) 1 (World.drew v) C∧
 ax Pr Ju [.int .i64 (z - 1),.int .i64 A] C fun E F=>
 aF .i64 E fun G=>
 au .i64 (Addr.add t 0) (World.drew F) fun I=>
 (aH (320 * I)∧
 (aH (32+(320 * I))∧
 au .i64 (Addr.add t 0) (World.drew F) fun J=>
 au .i64 (Addr.add t 1) (World.drew F) fun L=>
 (aH (J+L)∧
 (aH ((J+L) * D)∧
 au .i64 (Addr.add t 0) (World.drew F) fun M=>
 (aH (13 * M)∧
 (aH (((J+L) * D)+(13 * M))∧
 (aH (32 * (((J+L) * D)+(13 * M)))∧
 (aH (128+(32 * (((J+L) * D)+(13 * M))))∧
 au .i64 (Addr.add t 8) (World.drew F) fun N=>
 au .i64 (Addr.add t 1) (World.drew F) fun O=>
 (aH (32 * O)∧
 (aH ((32 * O) * G)∧
 (aH (N+((32 * O) * G))∧
 au .i64 (Addr.add t 5) (World.drew F) fun Q=>
 (aH ((N+((32 * O) * G))+Q)∧
 au .i64 (Addr.add t 0) (World.drew F) fun S=>
 (aH (((N+((32 * O) * G))+Q)+S)∧
 R (.tuple ⟨jB (32+(320 * I)) (128+(32 * (((J+L) * D)+(13 * M)))) (((N+((32 * O) * G))+Q)+S)⟩) (World.drew F)))))))))))))))))))
theorem ag0 {gT:Int} {w:World} {R:Value→World→Prop} (h:Qr gT w R):Ok Pr Qp [.int .i64 gT] w R:=
 aP (m:=⟨true,true⟩) (J:=[]) (L:=[]) aN Tryz.func170 (by kernel_rfl) ((by kernel_rfl:aO Pr _ _ _ Tryz.f170 _ w R=Qr gT w R).mpr h)
def RD (bD bE:Int) (bF bG:Int) (bS bT:Int) (cB cC:Int) (cD cE cx:Int) (cy:ByteArray) (cz cA:ah) (w:World) (R:Value→World→Prop):Prop:=
 nw dx (dW bD bE bF bG bS bT cB cC cD cE cx cy cz cA) w fun a b=>
 au .i64 (Addr.add a 0) b fun c=>
 ax Pr CH (jB c 1 6) b fun d e=>
 aQ d fun f=>
 au .i64 (Addr.add a 1) e fun g=>
 az f
 (ax Pr CH (jB g 1 1099511627776) e fun i j=>
 aQ i fun k=>
 au .i64 (Addr.add a 2) j fun l=>
 az k
 (ax Pr CH (jB l 1 13) j fun m n=>
 aQ m fun o=>
 dD a n fun p q s t u v x y z A B C D E=>
 az o
 (ax Pr OF [.agg ⟨dW p q s t u v x y z A B C D E⟩] n fun F G=>
 aK F fun I=>
 zw 1 I 3 fun J=>
 ax Pr Mp [.slice J.a J.n J.c,.func (.func EM) ⟨[]⟩ ⟨[]⟩] G fun L M=>
 aQ L fun N=>
 dR (Addr.add a 11) M fun O=>
 ay (Addr.add a 12) M fun Q=>
 ay (Addr.add a 13) M fun S=>
 R (.bool ((((!N) && (decide (((ByteArray.size O:Nat):Int)≤300))) && (decide ((Q.n:Int)≤2000))) && (decide ((S.n:Int)≤100)))) M)
 (dR (Addr.add a 11) n fun T=>
 ay (Addr.add a 12) n fun U=>
 ay (Addr.add a 13) n fun V=>
 R (.bool false) n))
 (dD a j fun X Y Z aa ba ca da ea fa ga ia ja ka la=>
 dR (Addr.add a 11) j fun ma=>
 ay (Addr.add a 12) j fun na=>
 ay (Addr.add a 13) j fun oa=>
 R (.bool false) j))
 (au .i64 (Addr.add a 2) e fun pa=>
 dD a e fun qa sa ta ua va xa ya za Aa Ba Ca Da Ea Fa=>
 dR (Addr.add a 11) e fun Ga=>
 ay (Addr.add a 12) e fun Ia=>
 ay (Addr.add a 13) e fun Ja=>
 R (.bool false) e)
theorem aia {bD bE:Int} {bF bG:Int} {bS bT:Int} {cB cC:Int} {cD cE cx:Int} {cy:ByteArray} {cz cA:ah} {w:World} {R:Value→World→Prop} (h:RD bD bE bF bG bS bT cB cC cD cE cx cy cz cA w R):Ok Pr RC [.agg ⟨dW bD bE bF bG bS bT cB cC cD cE cx cy cz cA⟩] w R:=
 aP (m:=⟨true,true⟩) (J:=[]) (L:=[]) aN Tryz.func182 (by kernel_rfl) ((by kernel_rfl:aO Pr _ _ _ Tryz.f182 _ w R=RD bD bE bF bG bS bT cB cC cD cE cx cy cz cA w R).mpr h)
def RR (gT:Int) (w:World) (R:Value→World→Prop):Prop:=
 nw EV (zc Pr EV) w fun a b=>
 az (decide (gT=1))
 (pq a 4 4 2 39 78 80 131072 95232 32 b fun c=>
 tB a c fun d e f g i j k l m=>
 R (.tuple ⟨[.agg ⟨tv d e f g i j k l m⟩,.bool true]⟩) c)
 (az (decide (gT=2))
 (pq a 6 5 4 49 196 55 524288 261888 48 b fun n=>
 tB a n fun o p q s t u v x y=>
 R (.tuple ⟨[.agg ⟨tv o p q s t u v x y⟩,.bool true]⟩) n)
 (az (decide (gT=3))
 (pq a 8 7 2 60 120 75 524288 261888 64 b fun z=>
 tB a z fun A B C D E F G I J=>
 R (.tuple ⟨[.agg ⟨tv A B C D E F G I J⟩,.bool true]⟩) z)
 (pq a 0 0 0 0 0 0 0 0 0 b fun L=>
 tB a L fun M N O Q S T U V X=>
 R (.tuple ⟨[.agg ⟨tv M N O Q S T U V X⟩,.bool false]⟩) L)))
theorem aiF {gT:Int} {w:World} {R:Value→World→Prop} (h:RR gT w R):Ok Pr RO [.int .i64 gT] w R:=
 aP (m:=⟨true,true⟩) (J:=[]) (L:=[]) aN Tryz.func202 (by kernel_rfl) ((by kernel_rfl:aO Pr _ _ _ Tryz.f202 _ w R=RR gT w R).mpr h)
def Rc (a b:Int) (w:World) (R:Value→World→Prop):Prop:=
 (aH (a+b)∧
 ax Pr NG [.int .u64 (IntKind.wrap .u64 (a+b))] w fun c d=>
 aF .i64 c fun e=>
 R (.int .i64 e) d)
theorem ahF {a b:Int} {w:World} {R:Value→World→Prop} (h:Rc a b w R):Ok Pr Ju [.int .i64 a,.int .i64 b] w R:=
 aP (m:=⟨true,true⟩) (J:=[]) (L:=[]) aN Tryz.func203 (by kernel_rfl) ((by kernel_rfl:aO Pr _ _ _ Tryz.f203 _ w R=Rc a b w R).mpr h)
def Qs (n:Int) (w:World) (R:Value→World→Prop):Prop:=
 ax Pr CH (jB n 0 1099511627776) w fun a b=>
 aQ a fun c=>
 R (.bool (!c)) b
theorem ag1 {n:Int} {w:World} {R:Value→World→Prop} (h:Qs n w R):Ok Pr EM [.int .i64 n] w R:=
 aP (m:=⟨true,true⟩) (J:=[]) (L:=[]) aN Tryz.func214 (by kernel_rfl) ((by kernel_rfl:aO Pr _ _ _ Tryz.f214 _ w R=Qs n w R).mpr h)
def RS (n lo hi:Int) (w:World) (R:Value→World→Prop):Prop:=
 R (.bool ((decide (lo≤n)) && (decide (n≤hi)))) w
theorem aiG {n lo hi:Int} {w:World} {R:Value→World→Prop} (h:RS n lo hi w R):Ok Pr CH (jB n lo hi) w R:=
 aP (m:=⟨true,true⟩) (J:=[]) (L:=[]) aN Tryz.func215 (by kernel_rfl) ((by kernel_rfl:aO Pr _ _ _ Tryz.f215 _ w R=RS n lo hi w R).mpr h)
end Go.Proofs.YtpchgbolambkcaaGreatDoor
end
section
set_option linter.unusedVariables false
set_option linter.unusedSimpArgs false
namespace Go.Proofs.YtpchgbolambkcaaGreatDoor
open Go Go.Ev
set_option maxRecDepth 20000
set_option linter.unusedVariables false
theorem AR {w w':World} {b:Nat} {cs:List Value} {t:TypeId} {a:Addr} {n:Nat} (h:bQ w b cs t) (h':bQ w' b cs t) (ha:a.block=b):kept a n w w':=fun j _=>by
 refine World.cell?_of_block ?_
 rw [rZ,ha]
 exact h'.trans h.symm
def kL (n:Nat):Nat:=if n=0 then 0 else Nat.log2 n+1
theorem ZD (n k:Nat) (h:2 ^ k≤n):kL n=k+kL (n / 2 ^ k):=by
 have hp:0<2 ^ k:=Nat.pow_pos (by decide)
 have h0:n≠0:=by omega
 have h1:n / 2 ^ k≠0:=by
  have:=Nat.div_pos h hp
  omega
 unfold kL
 rw [if_neg h0,if_neg h1]
 have e:Nat.log2 n=k+Nat.log2 (n / 2 ^ k):=by
  rw [Nat.log2_eq_iff h0]
  have h2:=(Nat.log2_eq_iff (k:=Nat.log2 (n / 2 ^ k)) h1).1 rfl
  have h3:=Nat.div_add_mod n (2 ^ k)
  have h4:=Nat.mod_lt n hp
  rw [Nat.add_assoc,Nat.pow_add,Nat.pow_add]
  generalize n / 2 ^ k=q at *
  constructor
  ·exact Nat.le_trans (Nat.mul_le_mul_left _ h2.1) (by omega)
  ·have:2 ^ k * (q+1)≤2 ^ k * 2 ^ (Nat.log2 q+1):=Nat.mul_le_mul_left _ h2.2
   rw [Nat.mul_succ] at this
   omega
 rw [e]
 omega
theorem abV {a k:Nat} (ha:a<18446744073709551616):shr .u64 (a:Int) (k:Int)=((a / 2 ^ k:Nat):Int):=by
 have:=Dn (BitVec.ofNat 64 a) k
 rw [BitVec.toNat_ofNat,Nat.mod_eq_of_lt (by omega),BitVec.toNat_ushiftRight,BitVec.toNat_ofNat,Nat.mod_eq_of_lt (by omega),Nat.shiftRight_eq_div_pow] at this
 exact this
theorem aoj:∀ i:Fin 256,vR uU (i.val:Int)=(kL i.val:Int):=by decide +kernel
theorem ajI:ByteArray.size uU=256:=by decide +kernel
theorem afI (x:Nat) (hx:x<4294967296) (w:World):Ok Pr NG [.int .u64 (x:Int)] w fun v w'=>v=.int .i64 (kL x:Int)∧w'=w:=by
 refine ae8 ?_
 unfold NH
 refine aC (R:=fun v w'=>v=.int .i64 (kL x:Int)∧w'=w) (aey ?_) ?_
 ·unfold M7
  refine EZ fun go bX=>?_
  refine ite_false (decide_eq_false (by omega)) (bX _ _ _ ?_)
  have last:∀ (y n:Nat) (w':World) (K:Int→World→Prop),y<256→n≤64→K ((n:Int)+(kL y:Int)) w'→
    idx (IntKind.wrap .u8 (y:Int)) (ByteArray.size uU) (aH (vR uU (IntKind.wrap .u8 (y:Int)))∧aH ((n:Int)+vR uU (IntKind.wrap .u8 (y:Int)))∧lt (A:=Int) ((n:Int)+vR uU (IntKind.wrap .u8 (y:Int))) fun z=>K z w'):=by
   intro y n w' K hy hn hK
   have e:IntKind.wrap .u8 (y:Int)=(y:Int):=by rw [wrap_u8]; omega
   have e2:=aoj ⟨y,hy⟩
   simp only at e2
   have hb:kL y≤8:=by
    unfold kL
    split
    ·omega
    ·rename_i h0
     have:=Nat.log2_lt (n:=y) (k:=8) h0
     have:y.log2<8:=this.2 (by omega)
     omega
   rw [e,e2,ajI]
   exact ⟨⟨by omega,by omega⟩,⟨by omega,by omega⟩,⟨by omega,by omega⟩,hK⟩
  refine EZ fun iH fH=>?_
  have abA:∀ (y n:Nat) (w':World),w'=w→y<65536→n≤32→kL x=n+kL y→iH (y:Int) (n:Int) w':=by
   intro y n w' hw hy hn nS
   refine fH _ _ _ (EZ fun go2 ku=>?_)
   have hp:2 ^ 8=256:=rfl
   refine cN (fun h=>?_) (fun h=>?_)
   ·have h:=of_decide_eq_true h
    have h2:=ZD y 8 (by omega)
    have hd:y / 2 ^ 8<256:=by rw [hp]; omega
    refine ⟨⟨by omega,by omega⟩,?_⟩
    rw [show (8:Int)=((8:Nat):Int) from rfl,abV (by omega),show ((n:Int)+((8:Nat):Int))=((n+8:Nat):Int) by omega]
    refine ku _ _ _ (last (y / 2 ^ 8) (n+8) w' (fun z w'=>Value.int .i64 z=.int .i64 (kL x:Int)∧w'=w) hd (by omega) ?_)
    refine ⟨?_,hw⟩
    congr 1
    omega
   ·have h:=of_decide_eq_false h
    refine ku _ _ _ (last y n w' (fun z w'=>Value.int .i64 z=.int .i64 (kL x:Int)∧w'=w) (by omega) (by omega) ?_)
    refine ⟨?_,hw⟩
    congr 1
    omega
  refine cN (fun h=>?_) (fun h=>?_)
  ·have h:=of_decide_eq_true h
   have hp:2 ^ 16=65536:=rfl
   have h2:=ZD x 16 (by omega)
   have hd:x / 2 ^ 16<65536:=by rw [hp]; omega
   refine ⟨⟨by omega,by omega⟩,?_⟩
   rw [show (16:Int)=((16:Nat):Int) from rfl,abV (by omega),show ((0:Int)+((16:Nat):Int))=((16:Nat):Int) by omega]
   exact abA _ _ _ rfl hd (by omega) h2
  ·have h:=of_decide_eq_false h
   exact abA x 0 _ rfl (by omega) (by omega) (by omega)
 ·rintro _ w1 ⟨rfl,hw⟩
  exact cr ⟨rfl,hw⟩
theorem Cs (a b:Nat) (h:a+b<4294967296) (w:World):Ok Pr Ju [.int .i64 (a:Int),.int .i64 (b:Int)] w fun v w'=>v=.int .i64 (kL (a+b):Int)∧w'=w:=by
 refine ahF ?_
 unfold Rc
 have e:IntKind.wrap .u64 ((a:Int)+(b:Int))=((a+b:Nat):Int):=by rw [wrap_u64]; omega
 rw [e]
 refine ⟨⟨by omega,by omega⟩,aC (afI _ h w) ?_⟩
 rintro _ w1 ⟨rfl,hw⟩
 exact cr ⟨rfl,hw⟩
structure sD where
 (k l eta G4 beta omega g1 g2 c:Nat)
def sD.cells (s:sD):List Value:=ES s.k s.l s.eta s.G4 s.beta s.omega s.g1 s.g2 s.c
def TG:sD:=⟨0,0,0,0,0,0,0,0,0⟩
def eS (set:Int):sD:=if set=1 then ⟨4,4,2,39,78,80,131072,95232,32⟩ else if set=2 then ⟨6,5,4,49,196,55,524288,261888,48⟩ else if set=3 then ⟨8,7,2,60,120,75,524288,261888,64⟩ else TG
def isSet (set:Int):Bool:=decide (set=1) || (decide (set=2) || decide (set=3))
theorem YZ:zc Pr EV=[.int .i64 0,.int .i64 0,.int .i64 0,.int .i64 0,.int .i64 0,.int .i64 0,.int .i64 0,.int .i64 0,.int .i64 0]:=by kernel_rfl
theorem ajJ (set:Int) (w:World):Ok Pr RO [.int .i64 set] w fun v w'=>v=.tuple ⟨[.agg ⟨(eS set).cells⟩,.bool (isSet set)]⟩∧Mod [] w w':=by
 refine aiF ?_
 unfold RR
 rw [YZ]
 refine (aq.start w).nw fun p w1 H _=>?_
 unfold isSet eS
 refine cN (fun h=>?_) (fun h=>?_)
 ·have h:=of_decide_eq_true h
  subst h
  exact H.pq 0 rfl rfl fun w2 H=>H.tB 0 rfl ⟨rfl,H.mod⟩
 ·have h1:=of_decide_eq_false h
  rw [if_neg h1,decide_eq_false h1]
  refine cN (fun h=>?_) (fun h=>?_)
  ·have h:=of_decide_eq_true h
   subst h
   exact H.pq 0 rfl rfl fun w2 H=>H.tB 0 rfl ⟨rfl,H.mod⟩
  ·have h2:=of_decide_eq_false h
   rw [if_neg h2,decide_eq_false h2]
   refine cN (fun h=>?_) (fun h=>?_)
   ·have h:=of_decide_eq_true h
    subst h
    exact H.pq 0 rfl rfl fun w2 H=>H.tB 0 rfl ⟨rfl,H.mod⟩
   ·have h3:=of_decide_eq_false h
    rw [if_neg h3,decide_eq_false h3]
    exact H.pq 0 rfl rfl fun w2 H=>H.tB 0 rfl ⟨rfl,H.mod⟩
def mM (set:Int):Nat:=if set=1 then 1312 else if set=2 then 1952 else if set=3 then 2592 else 0
def DK (set:Int):Nat:=if set=1 then 2560 else if set=2 then 4032 else if set=3 then 4896 else 0
def DL (set:Int):Nat:=if set=1 then 2420 else if set=2 then 3309 else if set=3 then 4627 else 0
theorem ant:kL 4=3∧kL 8=4∧kL 262143=18∧kL 1048575=20:=by decide +kernel
theorem aib (set:Int) (w:World):Ok Pr Qp [.int .i64 set] w fun v w'=>v=.tuple ⟨[.int .i64 (mM set),.int .i64 (DK set),.int .i64 (DL set)]⟩∧Mod [] w w':=by
 refine ag0 ?_
 unfold Qr
 rw [YZ]
 refine aC (ajJ set w) ?_
 rintro _ w1 ⟨rfl,m1⟩
 obtain ⟨b1,b2,b3,b4⟩:=ant
 have H:=(aq.start w).frame m1
 by_cases h1:set=1
 ·subst h1
  refine ⟨_,rfl,IW (c0:=(eS 1).k) (c1:=(eS 1).l) (c2:=(eS 1).eta) (c3:=(eS 1).G4) (c4:=(eS 1).beta) (c5:=(eS 1).omega) (c6:=(eS 1).g1) (c7:=(eS 1).g2) (c8:=(eS 1).c) ⟨_,rfl,rfl,?_⟩⟩
  refine H.nw fun p w2 H _=>H.pq 0 rfl rfl fun w3 H=>ite_false rfl ?_
  have H:=H.drew
  refine H.au 0 rfl (an p 2) rfl (H.au 0 rfl (an p 2) rfl (H.au 0 rfl (an p 6) rfl ⟨⟨by decide,by decide⟩,H.au 0 rfl (an p 6) rfl ?_⟩))
  refine aC (Cs 2 2 (by omega) _) ?_
  rintro _ w4 ⟨rfl,hw⟩
  subst hw
  refine cr ⟨AR (H.av 0 rfl) (H.av 0 rfl) (rZ _ _),AR (H.av 0 rfl) (H.av 0 rfl) (rZ _ _),?_⟩
  refine aC (Cs 131071 131072 (by omega) _) ?_
  rintro _ w5 ⟨rfl,hw⟩
  subst hw
  rw [show kL (2+2)=3 from b1,show kL (131071+131072)=18 from b3]
  refine cr ?_
  have H:=H.drew
  refine H.au 0 rfl (an p 0) rfl ⟨⟨by decide,by decide⟩,⟨by decide,by decide⟩,H.au 0 rfl (an p 0) rfl (H.au 0 rfl (an p 1) rfl ⟨⟨by decide,by decide⟩,⟨by decide,by decide⟩,H.au 0 rfl (an p 0) rfl ?_⟩)⟩
  refine ⟨⟨by decide,by decide⟩,⟨by decide,by decide⟩,⟨by decide,by decide⟩,⟨by decide,by decide⟩,H.au 0 rfl (an p 8) rfl (H.au 0 rfl (an p 1) rfl ⟨⟨by decide,by decide⟩,⟨by decide,by decide⟩,⟨by decide,by decide⟩,?_⟩)⟩
  refine H.au 0 rfl (an p 5) rfl ⟨⟨by decide,by decide⟩,H.au 0 rfl (an p 0) rfl ⟨⟨by decide,by decide⟩,?_⟩⟩
  exact ⟨rfl,H.mod⟩
 by_cases h2:set=2
 ·subst h2
  refine ⟨_,rfl,IW (c0:=(eS 2).k) (c1:=(eS 2).l) (c2:=(eS 2).eta) (c3:=(eS 2).G4) (c4:=(eS 2).beta) (c5:=(eS 2).omega) (c6:=(eS 2).g1) (c7:=(eS 2).g2) (c8:=(eS 2).c) ⟨_,rfl,rfl,?_⟩⟩
  refine H.nw fun p w2 H _=>H.pq 0 rfl rfl fun w3 H=>ite_false rfl ?_
  have H:=H.drew
  refine H.au 0 rfl (an p 2) rfl (H.au 0 rfl (an p 2) rfl (H.au 0 rfl (an p 6) rfl ⟨⟨by decide,by decide⟩,H.au 0 rfl (an p 6) rfl ?_⟩))
  refine aC (Cs 4 4 (by omega) _) ?_
  rintro _ w4 ⟨rfl,hw⟩
  subst hw
  refine cr ⟨AR (H.av 0 rfl) (H.av 0 rfl) (rZ _ _),AR (H.av 0 rfl) (H.av 0 rfl) (rZ _ _),?_⟩
  refine aC (Cs 524287 524288 (by omega) _) ?_
  rintro _ w5 ⟨rfl,hw⟩
  subst hw
  rw [show kL (4+4)=4 from b2,show kL (524287+524288)=20 from b4]
  refine cr ?_
  have H:=H.drew
  refine H.au 0 rfl (an p 0) rfl ⟨⟨by decide,by decide⟩,⟨by decide,by decide⟩,H.au 0 rfl (an p 0) rfl (H.au 0 rfl (an p 1) rfl ⟨⟨by decide,by decide⟩,⟨by decide,by decide⟩,H.au 0 rfl (an p 0) rfl ?_⟩)⟩
  refine ⟨⟨by decide,by decide⟩,⟨by decide,by decide⟩,⟨by decide,by decide⟩,⟨by decide,by decide⟩,H.au 0 rfl (an p 8) rfl (H.au 0 rfl (an p 1) rfl ⟨⟨by decide,by decide⟩,⟨by decide,by decide⟩,⟨by decide,by decide⟩,?_⟩)⟩
  refine H.au 0 rfl (an p 5) rfl ⟨⟨by decide,by decide⟩,H.au 0 rfl (an p 0) rfl ⟨⟨by decide,by decide⟩,?_⟩⟩
  exact ⟨rfl,H.mod⟩
 by_cases h3:set=3
 ·subst h3
  refine ⟨_,rfl,IW (c0:=(eS 3).k) (c1:=(eS 3).l) (c2:=(eS 3).eta) (c3:=(eS 3).G4) (c4:=(eS 3).beta) (c5:=(eS 3).omega) (c6:=(eS 3).g1) (c7:=(eS 3).g2) (c8:=(eS 3).c) ⟨_,rfl,rfl,?_⟩⟩
  refine H.nw fun p w2 H _=>H.pq 0 rfl rfl fun w3 H=>ite_false rfl ?_
  have H:=H.drew
  refine H.au 0 rfl (an p 2) rfl (H.au 0 rfl (an p 2) rfl (H.au 0 rfl (an p 6) rfl ⟨⟨by decide,by decide⟩,H.au 0 rfl (an p 6) rfl ?_⟩))
  refine aC (Cs 2 2 (by omega) _) ?_
  rintro _ w4 ⟨rfl,hw⟩
  subst hw
  refine cr ⟨AR (H.av 0 rfl) (H.av 0 rfl) (rZ _ _),AR (H.av 0 rfl) (H.av 0 rfl) (rZ _ _),?_⟩
  refine aC (Cs 524287 524288 (by omega) _) ?_
  rintro _ w5 ⟨rfl,hw⟩
  subst hw
  rw [show kL (2+2)=3 from b1,show kL (524287+524288)=20 from b4]
  refine cr ?_
  have H:=H.drew
  refine H.au 0 rfl (an p 0) rfl ⟨⟨by decide,by decide⟩,⟨by decide,by decide⟩,H.au 0 rfl (an p 0) rfl (H.au 0 rfl (an p 1) rfl ⟨⟨by decide,by decide⟩,⟨by decide,by decide⟩,H.au 0 rfl (an p 0) rfl ?_⟩)⟩
  refine ⟨⟨by decide,by decide⟩,⟨by decide,by decide⟩,⟨by decide,by decide⟩,⟨by decide,by decide⟩,H.au 0 rfl (an p 8) rfl (H.au 0 rfl (an p 1) rfl ⟨⟨by decide,by decide⟩,⟨by decide,by decide⟩,⟨by decide,by decide⟩,?_⟩)⟩
  refine H.au 0 rfl (an p 5) rfl ⟨⟨by decide,by decide⟩,H.au 0 rfl (an p 0) rfl ⟨⟨by decide,by decide⟩,?_⟩⟩
  exact ⟨rfl,H.mod⟩
 have e1:eS set=TG:=by unfold eS; rw [if_neg h1,if_neg h2,if_neg h3]
 have e2:isSet set=false:=by unfold isSet; rw [decide_eq_false h1,decide_eq_false h2,decide_eq_false h3]; rfl
 have e3:mM set=0:=by unfold mM; rw [if_neg h1,if_neg h2,if_neg h3]
 have e4:DK set=0:=by unfold DK; rw [if_neg h1,if_neg h2,if_neg h3]
 have e5:DL set=0:=by unfold DL; rw [if_neg h1,if_neg h2,if_neg h3]
 rw [e1,e2,e3,e4,e5]
 refine ⟨_,rfl,IW (c0:=0) (c1:=0) (c2:=0) (c3:=0) (c4:=0) (c5:=0) (c6:=0) (c7:=0) (c8:=0) ⟨_,rfl,rfl,?_⟩⟩
 exact H.nw fun p w2 H _=>H.pq 0 rfl rfl fun w3 H=>ite_true rfl ⟨rfl,H.mod⟩
theorem Xy (set:Int) (w:World):Ok Pr I4 [.int .i64 set] w fun v w'=>v=.tuple ⟨[.int .i64 (mM set),.int .i64 (DK set),.int .i64 (DL set)]⟩∧Mod [] w w':=by
 refine ags ?_
 unfold Pz
 refine aC (aib set w) ?_
 rintro _ w1 ⟨rfl,m1⟩
 exact ⟨_,rfl,_,rfl,_,rfl,_,rfl,rfl,rfl,m1⟩
end Go.Proofs.YtpchgbolambkcaaGreatDoor
end
section
set_option linter.unusedVariables false
set_option linter.unusedSimpArgs false
namespace Go.Proofs.YtpchgbolambkcaaGreatDoor
open Go Go.Ev
set_option maxRecDepth 20000
set_option linter.unusedVariables false
theorem Y0:zc Pr Cr=TG.cells:=by kernel_rfl
theorem aiH (set:Int) (w:World):Ok Pr Q5 [.int .i64 set] w fun v w'=>v=.tuple ⟨[.agg ⟨(eS set).cells⟩,.bool (isSet set)]⟩∧Mod [] w w':=by
 refine ahE ?_
 unfold Rb
 rw [Y0]
 refine (aq.start w).nw fun p w1 H _=>?_
 unfold isSet eS
 refine cN (fun h=>?_) (fun h=>?_)
 ·have h:=of_decide_eq_true h
  subst h
  exact H.rV 0 rfl rfl fun w2 H=>H.qQ 0 rfl ⟨rfl,H.mod⟩
 ·have h1:=of_decide_eq_false h
  rw [if_neg h1,decide_eq_false h1]
  refine cN (fun h=>?_) (fun h=>?_)
  ·have h:=of_decide_eq_true h
   subst h
   exact H.rV 0 rfl rfl fun w2 H=>H.qQ 0 rfl ⟨rfl,H.mod⟩
  ·have h2:=of_decide_eq_false h
   rw [if_neg h2,decide_eq_false h2]
   refine cN (fun h=>?_) (fun h=>?_)
   ·have h:=of_decide_eq_true h
    subst h
    exact H.rV 0 rfl rfl fun w2 H=>H.qQ 0 rfl ⟨rfl,H.mod⟩
   ·have h3:=of_decide_eq_false h
    rw [if_neg h3,decide_eq_false h3]
    exact H.rV 0 rfl rfl fun w2 H=>H.qQ 0 rfl ⟨rfl,H.mod⟩
theorem alH {s:sD} {K:Int→Int→Int→Int→Int→Int→Int→Int→Int→Prop} (h:K s.k s.l s.eta s.G4 s.beta s.omega s.g1 s.g2 s.c):Pw (.agg ⟨s.cells⟩) K:=agp h
end Go.Proofs.YtpchgbolambkcaaGreatDoor
end
section
set_option linter.unusedVariables false
set_option linter.unusedSimpArgs false
namespace Go.Proofs.YtpchgbolambkcaaGreatDoor
open Go Go.Ev
set_option maxRecDepth 20000
set_option linter.unusedVariables false
def vG (s:sD):Nat:=if s.g1=524288 then 20 else 18
structure abB (s:sD):Prop where
 g:s.g1=131072∨s.g1=524288
theorem amD {set:Int} (h:isSet set=true):abB (eS set):=by
 unfold isSet at h
 simp only [Bool.or_eq_true,decide_eq_true_eq] at h
 rcases h with rfl | rfl | rfl
 ·exact ⟨.inl rfl⟩
 ·exact ⟨.inr rfl⟩
 ·exact ⟨.inr rfl⟩
theorem ahG {s:sD} (h:abB s) (w:World):Ok Pr Pn [.agg ⟨s.cells⟩] w fun v w'=>v=.tuple ⟨[.int .i64 (vG s:Int),.int .i64 (if s.eta=2 then 3 else 4)]⟩∧Mod [] w w':=by
 refine agt ?_
 unfold PA
 refine (aq.start w).nw fun p w1 H _=>gm fun iH fH=>H.au 0 rfl (an p 6) rfl ?_
 have rest:iH (vG s:Int) w1:=by
  refine fH _ w1 (gm fun go bX=>H.au 0 rfl (an p 2) rfl (cN (fun hc=>?_) (fun hc=>?_)))
  ·have hc:=of_decide_eq_true hc
   refine bX _ w1 ⟨?_,H.mod⟩
   rw [if_pos (by omega)]
  ·have hc:=of_decide_eq_false hc
   refine bX _ w1 ⟨?_,H.mod⟩
   rw [if_neg (by omega)]
 unfold vG at rest
 rcases h.g with e | e
 ·rw [if_neg (by omega)] at rest
  exact ite_true (decide_eq_true (by omega)) rest
 ·rw [if_pos (by omega)] at rest
  exact ite_false (decide_eq_false (by omega)) rest
end Go.Proofs.YtpchgbolambkcaaGreatDoor
end
section
set_option linter.unusedVariables false
set_option linter.unusedSimpArgs false
namespace Go.Ev
open Go Go.RowKit
variable {P:Program}
theorem RU {f:FuncId} {first cap args:List Value} {w:World} {K:Value→World→Prop} (hb:pH P f=true) (h:ax P f (first ++ args ++ cap) w K):qx P (.func (.func f) ⟨first⟩ ⟨cap⟩) args w K:=by
 show cond (pH P f) _ False
 rw [hb]; exact h
theorem Re {g:Value} {args:List Value} {w:World} {R K:Value→World→Prop} (h:qx P g args w R) (hk:∀ v w',R v w'→K v w'):qx P g args w K:=by
 unfold qx at *
 split at h
 ·rename_i f first cap
  cases hb:pH P f with
  | false=>rw [hb] at h; exact h.elim
  | true=>
   rw [hb] at h
   show ax P f _ w K
   exact aC (R:=R) h hk
 ·exact h.elim
end Go.Ev
namespace Go.Proofs.YtpchgbolambkcaaGreatDoor
open Go Go.Ev
set_option maxRecDepth 20000
set_option linter.unusedVariables false
theorem xZ {A:Type} (p:A→Bool) (l:List A) (i:Nat) (h:i<l.length) (d:A):(l.take (i+1)).any p=((l.take i).any p || p (l.getD i d)):=by
 rw [qN _ _ h d,List.any_append]; simp
theorem yh {A:Type} (p:A→Bool) (l:List A) (i:Nat) (h:i<l.length) (d:A) (hp:p (l.getD i d)=true):l.any p=true:=by
 rw [List.any_eq_true]
 exact ⟨l[i],List.getElem_mem h,by simpa [List.getD_eq_getElem?_getD,h] using hp⟩
end Go.Proofs.YtpchgbolambkcaaGreatDoor
end
section
set_option linter.unusedVariables false
set_option linter.unusedSimpArgs false
namespace Go.Ev
open Go Go.RowKit
variable {P:Program}
def aB.box (fp:List Nat) (Q:World→Prop):aB where
 fp:=fp
 ok w:=(∀ b∈fp,b<w.heap.size)∧∀ w',(∀ b∈fp,w'.heap[b]? = w.heap[b]?)→Q w'
 iu w w' h k:=⟨fun b hb=>by
   have h1:=k.1 b hb
   have h2:=h b hb
   rw [Array.getElem?_eq_getElem h1] at h2
   exact (Array.getElem?_eq_some_iff.1 h2).1,fun w2 h2=>k.2 w2 fun b hb=>(h2 b hb).trans (h b hb)⟩
 lt w h:=h.1
theorem bQ.au {w:World} {b i:Nat} {cs:List Value} {t:TypeId} (h:bQ w b cs t) {a:Addr} {q:IntKind} {n:Int} {K:Int→Prop} (ha:a=⟨b,i,none⟩) (hv:cs[i]? = some (.int q n)) (hk:K n):au q a w K:=⟨n,by rw [ha,h.cell]; exact hv,hk⟩
theorem bQ.ay {w:World} {b i:Nat} {cs:List Value} {t:TypeId} (h:bQ w b cs t) {a:Addr} {n:ah} {K:ah→Prop} (ha:a=⟨b,i,none⟩) (hv:cs[i]? = some (.slice n.a n.n n.c)) (hk:K n):ay a w K:=⟨n,by rw [ha,h.cell]; exact hv,hk⟩
section
variable {w0 w w':World} {S:List Nat} {L:List aB} {Q Q':World→Prop}
theorem aq.box (H:aq w0 S w L) (k:Nat) {fp:List Nat} (hk:L[k]? = some (.box fp Q)):Q w:=(H.get k hk).2 w fun _ _=>rfl
def oN (w w':World) (Q:World→Prop):Prop:=Mod [] w w'∧∃ fp,(∀ b∈fp,w.heap.size≤b)∧(aB.box fp Q).ok w'
theorem oN.mod (h:oN w w' Q):Mod [] w w':=h.1
theorem aq.yK (H:aq w0 S w L) (h:oN w w' Q):∃ fp,aq w0 S w' (L ++ [.box fp Q]):=by
 obtain ⟨m,fp,h1,h2⟩:=h
 exact ⟨fp,H.push m h2 h1⟩
theorem aq.boxed (H:aq w0 [] w L) (hQ:∀ w',(∀ (k:Nat) (r:aB),L[k]? = some r→r.ok w')→Q w'):oN w0 w Q:=by
 refine ⟨H.mod,L.flatMap (·.fp),fun b hb=>?_,fun b hb=>?_,fun w' h=>hQ w' fun k r hk=>?_⟩
 ·obtain ⟨r,hr,Uz⟩:=List.mem_flatMap.1 hb
  obtain ⟨k,hk⟩:=List.getElem?_of_mem hr
  exact (H.own k r hk b Uz).resolve_left (by simp)
 ·obtain ⟨r,hr,Uz⟩:=List.mem_flatMap.1 hb
  obtain ⟨k,hk⟩:=List.getElem?_of_mem hr
  exact r.lt w (H.ok k r hk) b Uz
 ·exact r.iu w w' (fun b hb=>h b (List.mem_flatMap.2 ⟨r,List.mem_of_getElem? hk,hb⟩)) (H.ok k r hk)
theorem oN.amE {e:TypeId} {sz:Nat} {y:ah} {vs:List Value} (h:Own w' w.heap.size e sz y vs) (m:Mod [] w w') (hq:∀ w2,Own w2 0 e sz y vs→Q w2):oN w w' Q:=
 ((aq.start w).gG m h).boxed fun w2 k=>hq w2 (k 0 _ rfl)
theorem aq.merge (H:aq w0 S w L) (j k:Nat) {r s t:aB} (hj:L[j]? = some r) (hk:L[k]? = some s) (j6:j≠k) (ht:r.ok w→s.ok w→t.ok w) (hf:∀ b∈t.fp,b∈r.fp∨b∈s.fp):aq w0 S w ((L.set k .no).set j t):=by
 have H1:=H.aaN k hk
 have hjl:j<L.length:=(List.getElem?_eq_some_iff.1 hj).1
 have hj1:(L.set k .no)[j]? = some r:=by rw [List.getElem?_set_ne (by omega)]; exact hj
 have e:∀ {i:Nat} {u:aB},((L.set k .no).set j t)[i]? = some u→(i=j∧u=t)∨(i≠j∧(L.set k .no)[i]? = some u):=fun {i u} h=>by
  rw [List.getElem?_set] at h
  split at h
  ·rename_i e
   split at h
   ·exact .inl ⟨e.symm,(Option.some.inj h).symm⟩
   ·cases h
  ·rename_i hn; exact .inr ⟨fun h'=>hn h'.symm,h⟩
 have other:∀ {i:Nat} {u:aB},i≠j→(L.set k .no)[i]? = some u→∀ b∈u.fp,b∉t.fp:=fun {i u} GJ hu b hb UA=>by
  rcases hf b UA with h | h
  ·exact H1.apart i j u r GJ hu hj1 b hb h
  ·by_cases hik:i=k
   ·subst hik
    rw [List.getElem?_set_self (by have:=(List.getElem?_eq_some_iff.1 hk).1; omega)] at hu
    cases hu; cases hb
   ·rw [List.getElem?_set_ne (by omega)] at hu
    exact H.apart i k u s hik hu hk b hb h
 refine ⟨H.mod,fun i u hu=>?_,fun i u hu b hb=>?_,fun i i2 u v hii hu hv b hb l5=>?_⟩
 ·rcases e hu with ⟨_,rfl⟩ | ⟨_,h⟩
  ·exact ht (H.ok j r hj) (H.ok k s hk)
  ·exact H1.ok i u h
 ·rcases e hu with ⟨_,rfl⟩ | ⟨_,h⟩
  ·rcases hf b hb with h | h
   ·exact H.own j r hj b h
   ·exact H.own k s hk b h
  ·exact H1.own i u h b hb
 ·rcases e hu with ⟨h1,rfl⟩ | ⟨h1,h⟩
  ·rcases e hv with ⟨h2,rfl⟩ | ⟨h2,h'⟩
   ·omega
   ·exact other h2 h' b l5 hb
  ·rcases e hv with ⟨h2,rfl⟩ | ⟨h2,h'⟩
   ·exact other h1 h b hb l5
   ·exact H1.apart i i2 u v hii h h' b hb l5
theorem aq.front {L2:List aB} (H:aq w0 S w (L ++ L2)):aq w0 S w L:=by
 have:=H.take L.length
 rwa [List.take_left] at this
theorem aq.pack (H:aq w0 S w L) (k:Nat) {r:aB} (hk:L[k]? = some r) (hQ:∀ w',(∀ (j:Nat) (s:aB),j≠k→L[j]? = some s→s.ok w')→Q w'):∃ fp,aq w0 S w [r,.box fp Q]:=by
 refine ⟨(L.set k .no).flatMap (·.fp),?_⟩
 have H1:=H.aaN k hk
 have bR:k<L.length:=(List.getElem?_eq_some_iff.1 hk).1
 have other:∀ {j:Nat} {s:aB},j≠k→L[j]? = some s→(L.set k .no)[j]? = some s:=fun {j s} hj h=>by rw [List.getElem?_set_ne (by omega)]; exact h
 have from_:∀ b∈(L.set k .no).flatMap (·.fp),∃ (j:Nat) (s:aB),j≠k∧L[j]? = some s∧b∈s.fp:=fun b hb=>by
  obtain ⟨s,hs,kY⟩:=List.mem_flatMap.1 hb
  obtain ⟨j,hj⟩:=List.getElem?_of_mem hs
  by_cases e:j=k
  ·subst e
   rw [List.getElem?_set_self bR] at hj
   cases hj; cases kY
  ·rw [List.getElem?_set_ne (by omega)] at hj
   exact ⟨j,s,e,hj,kY⟩
 have aok:(aB.box ((L.set k .no).flatMap (·.fp)) Q).ok w:=by
  refine ⟨fun b hb=>?_,fun w' h=>hQ w' fun j s hj hs=>?_⟩
  ·obtain ⟨j,s,_,hj,hb⟩:=from_ b hb
   exact s.lt w (H.ok j s hj) b hb
  ·exact s.iu w w' (fun b hb=>h b (List.mem_flatMap.2 ⟨s,List.mem_of_getElem? (other hj hs),hb⟩)) (H.ok j s hs)
 have e2:∀ {i:Nat} {u:aB},[r,aB.box ((L.set k .no).flatMap (·.fp)) Q][i]? = some u→(i=0∧u=r)∨(i=1∧u=.box ((L.set k .no).flatMap (·.fp)) Q):=fun {i u} h=>by
  match i,h with
  | 0,h=>cases h; exact .inl ⟨rfl,rfl⟩
  | 1,h=>cases h; exact .inr ⟨rfl,rfl⟩
  | i+2,h=>simp at h
 refine ⟨H.mod,fun i u hu=>?_,fun i u hu b hb=>?_,fun i i2 u v hii hu hv b hb l5=>?_⟩
 ·rcases e2 hu with ⟨_,rfl⟩ | ⟨_,rfl⟩
  ·exact H.ok k _ hk
  ·exact aok
 ·rcases e2 hu with ⟨_,rfl⟩ | ⟨_,rfl⟩
  ·exact H.own k _ hk b hb
  ·obtain ⟨j,s,_,hj,hb⟩:=from_ b hb
   exact H.own j s hj b hb
 ·rcases e2 hu with ⟨h1,rfl⟩ | ⟨h1,rfl⟩
  ·rcases e2 hv with ⟨h2,rfl⟩ | ⟨h2,rfl⟩
   ·omega
   ·obtain ⟨j,s,j6,hj,l5⟩:=from_ b l5
    exact H.apart k j _ s (by omega) hk hj b hb l5
  ·rcases e2 hv with ⟨h2,rfl⟩ | ⟨h2,rfl⟩
   ·obtain ⟨j,s,j6,hj,hb⟩:=from_ b hb
    exact H.apart j k s _ j6 hj hk b hb l5
   ·omega
theorem aq.less (H:aq w0 S w L) (k:Nat) {r s:aB} (hk:L[k]? = some r) (hs:s.ok w) (hf:∀ b∈s.fp,b∈r.fp):aq w0 S w (L.set k s):=
 H.nr k hk (Mod.refl [] w) (fun b hb=>by cases hb) hs fun b hb=>.inl (hf b hb)
end
def br {A:Type} (E:World→ah→A→Prop) (w:World) (xs:List ah) (ls:List A):Prop:=xs.length=ls.length∧∀ (i:Nat) (x:ah) (l:A),xs[i]? = some x→ls[i]? = some l→E w x l
theorem br.append {A:Type} {E:World→ah→A→Prop} {w:World} {xs ys:List ah} {ls ms:List A} (h:br E w xs ls) (k:br E w ys ms):br E w (xs ++ ys) (ls ++ ms):=by
 obtain ⟨h1,h2⟩:=h
 obtain ⟨k1,k2⟩:=k
 refine ⟨by simp [h1,k1],fun i x a hx ha=>?_⟩
 rcases Nat.lt_or_ge i xs.length with hi | hi
 ·rw [List.getElem?_append_left hi] at hx
  rw [List.getElem?_append_left (by omega)] at ha
  exact h2 i x a hx ha
 ·rw [List.getElem?_append_right hi] at hx
  rw [List.getElem?_append_right (by omega),← h1] at ha
  exact k2 _ x a hx ha
section
variable {A:Type} {E:World→ah→A→Prop}
variable {te:TypeId} {w0 w w':World} {S:List Nat} {L:List aB} {out:ah} {ls:List A}
end
end Go.Ev
end
section
set_option linter.unusedVariables false
set_option linter.unusedSimpArgs false
namespace Go.Ev
open Go Go.RowKit
set_option linter.unusedVariables false
section
variable {A:Type} {C:A→ah→List Value} {sz:Nat} {E:World→ah→A→Prop}
def bP (C:A→ah→List Value) (ls:List A) (xs:List ah):List Value:=(List.zipWith C ls xs).flatten
theorem kI (hC:∀ a x,(C a x).length=sz):∀ (ls:List A) (xs:List ah),xs.length=ls.length→(bP C ls xs).length=ls.length * sz
 | [],xs,_=>by simp [bP]
 | a :: ls,[],h=>by simp at h
 | a :: ls,x :: xs,h=>by
  have ih:=kI hC ls xs (by simpa using h)
  unfold bP at *
  rw [List.zipWith_cons_cons,List.flatten_cons,List.length_append,ih,hC,List.length_cons,Nat.succ_mul]
  omega
theorem tH (a:A) (x:ah) (ls:List A) (xs:List ah):bP C (a :: ls) (x :: xs)=C a x ++ bP C ls xs:=by
 unfold bP; rw [List.zipWith_cons_cons,List.flatten_cons]
theorem J8 (hC:∀ a x,(C a x).length=sz):∀ (ls:List A) (xs:List ah) (i j:Nat) (a:A) (x:ah),ls[i]? = some a→xs[i]? = some x→j<sz→(bP C ls xs)[i * sz+j]? = (C a x)[j]?
 | [],_,_,_,_,_,h,_,_=>by simp at h
 | _ :: _,[],_,_,_,_,_,h,_=>by simp at h
 | b :: ls,y :: xs,0,j,a,x,h1,h2,hj=>by
  simp only [List.getElem?_cons_zero,Option.some.injEq] at h1 h2
  subst h1 h2
  rw [tH,Nat.zero_mul,Nat.zero_add,List.getElem?_append_left (by rw [hC]; exact hj)]
 | b :: ls,y :: xs,i+1,j,a,x,h1,h2,hj=>by
  rw [List.getElem?_cons_succ] at h1 h2
  rw [tH,List.getElem?_append_right (by rw [hC,Nat.succ_mul]; omega),hC,show (i+1) * sz+j - sz=i * sz+j by rw [Nat.succ_mul]; omega]
  exact J8 hC ls xs i j a x h1 h2 hj
theorem J9 (hC:∀ a x,(C a x).length=sz):∀ (ls:List A) (xs:List ah) (i j:Nat) (a b:A) (x y:ah) (v:Value),ls[i]? = some a→xs[i]? = some x→j<sz→C b y=(C a x).set j v→(bP C ls xs).set (i * sz+j) v=bP C (ls.set i b) (xs.set i y)
 | [],_,_,_,_,_,_,_,_,h,_,_,_=>by simp at h
 | _ :: _,[],_,_,_,_,_,_,_,_,h,_,_=>by simp at h
 | b' :: ls,y' :: xs,0,j,a,b,x,y,v,h1,h2,hj,hv=>by
  simp only [List.getElem?_cons_zero,Option.some.injEq] at h1 h2
  subst h1 h2
  rw [tH,Nat.zero_mul,Nat.zero_add,List.set_append_left _ _ (by rw [hC]; exact hj),← hv,List.set_cons_zero,List.set_cons_zero,tH]
 | b' :: ls,y' :: xs,i+1,j,a,b,x,y,v,h1,h2,hj,hv=>by
  rw [List.getElem?_cons_succ] at h1 h2
  rw [tH,List.set_append_right _ _ (by rw [hC,Nat.succ_mul]; omega),hC,show (i+1) * sz+j - sz=i * sz+j by rw [Nat.succ_mul]; omega,
   J9 hC ls xs i j a b x y v h1 h2 hj hv,List.set_cons_succ,List.set_cons_succ,tH]
theorem Cz (hl:List A) (hx:List ah) (h:hx.length=hl.length) (ms:List A) (ys:List ah):bP C (hl ++ ms) (hx ++ ys)=bP C hl hx ++ bP C ms ys:=by
 unfold bP; rw [List.zipWith_append h.symm,List.flatten_append]
theorem E6 (a:A) (x:ah):bP C [a] [x]=C a x:=by simp [bP]
theorem vo (h1:∀ a x,∀ v∈C a x,fW v=true):∀ (ls:List A) (xs:List ah),∀ v∈bP C ls xs,fW v=true
 | [],_,v,hv=>by simp [bP] at hv
 | _ :: _,[],v,hv=>by simp [bP] at hv
 | a :: ls,x :: xs,v,hv=>by
  rw [tH] at hv
  rcases List.mem_append.1 hv with h | h
  ·exact h1 a x v h
  ·exact vo h1 ls xs v h
def Dv (C:A→ah→List Value) (sz:Nat) (E:World→ah→A→Prop) (w:World) (s:ah) (ls:List A):Prop:=∃ xs:List ah,Sl w s sz (bP C ls xs)∧br E w xs ls
theorem br.aI (hE:∀ {w w' x l},Mod [] w w'→E w x l→E w' x l) {w w':World} {xs:List ah} {ls:List A} (h:br E w xs ls) (m:Mod [] w w'):br E w' xs ls:=⟨h.1,fun i x l hx hl=>hE m (h.2 i x l hx hl)⟩
theorem Dv.aI (hE:∀ {w w' x l},Mod [] w w'→E w x l→E w' x l) {w w':World} {s:ah} {ls:List A} (h:Dv C sz E w s ls) (m:Mod [] w w'):Dv C sz E w' s ls:=by
 obtain ⟨xs,h1,h2⟩:=h
 exact ⟨xs,h1.aI m,br.aI (E:=E) (fun m h=>hE m h) h2 m⟩
theorem Dv.nil (w:World):Dv C sz E w ⟨none,0,0⟩ []:=⟨[],Sl.nil w sz,rfl,fun i x l h=>by simp at h⟩
theorem Dv.len (hC:∀ a x,(C a x).length=sz) (hs:0<sz) {w:World} {s:ah} {ls:List A} (h:Dv C sz E w s ls):ls.length=s.n:=by
 obtain ⟨xs,h1,h2⟩:=h
 have h3:=h1.len
 rw [kI hC ls xs h2.1] at h3
 exact Nat.eq_of_mul_eq_mul_right hs h3
theorem Sl.Dp (hC:∀ a x,(C a x).length=sz) {w:World} {s:ah} {ls:List A} {xs:List ah} (h:Sl w s sz (bP C ls xs)) {i j:Nat} {a:A} {x:ah} {v:Value} (ha:ls[i]? = some a) (hx:xs[i]? = some x) (hv:(C a x)[j]? = some v):w.cell? (Addr.add (Addr.add (base s.a) (i * sz)) j)=some v:=by
 rw [add_add]
 refine h.cell _ _ ?_
 have hj:j<sz:=by
  rw [← hC a x]
  exact (List.getElem?_eq_some_iff.1 hv).1
 rw [J8 hC ls xs i j a x ha hx hj]
 exact hv
theorem Dv.at (hC:∀ a x,(C a x).length=sz) (hs:0<sz) {w:World} {s:ah} {ls:List A} (h:Dv C sz E w s ls) {i:Nat} {a:A} (ha:ls[i]? = some a) :
  (s.a.isSome=true∧(0:Int)≤(i:Int)∧(i:Int)<(s.n:Int))∧∃ x:ah,E w x a∧∀ (j:Nat) (v:Value),(C a x)[j]? = some v→w.cell? (Addr.add (Addr.add (base s.a) (Int.toNat (i:Int) * sz)) j)=some v:=by
 have hl:=h.len hC hs
 have hi:=(List.getElem?_eq_some_iff.1 ha).1
 obtain ⟨xs,h1,h2⟩:=h
 have hx:xs[i]? = some (xs[i]'(by rw [h2.1]; exact hi)):=List.getElem?_eq_getElem _
 refine ⟨⟨h1.pre (by omega),by omega,by omega⟩,_,h2.2 i _ a hx ha,fun j v hv=>?_⟩
 rw [Int.toNat_natCast]
 exact h1.Dp hC ha hx hv
def iL (C:A→ah→List Value) (sz:Nat) (E:World→ah→A→Prop) (te:TypeId) (w0:World) (S:List Nat) (L:List aB) (w:World) (s:ah) (ls:List A) (xs:List ah) (i:Nat):Prop:=
 ∃ ys fp,ys.length=i∧aq w0 S w (L ++ [.row te sz s (bP C ls (ys ++ xs.drop i)),.box fp fun w=>br E w ys (ls.take i)])
variable {te:TypeId} {w0 w w':World} {S:List Nat} {L:List aB} {s:ah} {ls:List A} {xs:List ah} {i:Nat}
theorem iL.start (H:aq w0 S w (L ++ [.row te sz s (bP C ls xs)])):iL C sz E te w0 S L w s ls xs 0:=by
 refine ⟨[],[],rfl,?_⟩
 have H2:=H.push (r:=.box [] fun w=>br E w [] ([]:List A)) (Mod.refl [] w) ⟨fun b hb=>(by cases hb),fun w' _=>⟨rfl,fun i x l h=>(by simp at h)⟩⟩ (fun b hb=>(by cases hb))
 rw [List.append_assoc] at H2
 exact H2
theorem iL.front (h:iL C sz E te w0 S L w s ls xs i):aq w0 S w L:=by
 obtain ⟨ys,fp,_,H⟩:=h
 exact H.front
theorem iL.frame (h:iL C sz E te w0 S L w s ls xs i) (m:Mod [] w w'):iL C sz E te w0 S L w' s ls xs i:=by
 obtain ⟨ys,fp,hy,H⟩:=h
 exact ⟨ys,fp,hy,H.frame m⟩
theorem A7 {M:List aB} {r:aB}:(L ++ r :: M)[L.length]? = some r:=by rw [List.getElem?_append_right (Nat.le_refl _),Nat.sub_self]; rfl
theorem TH {M:List aB} {r t:aB}:(L ++ r :: t :: M)[L.length+1]? = some t:=by rw [List.getElem?_append_right (by omega),Nat.add_sub_cancel_left]; rfl
theorem abW {M:List aB} {r t u:aB}:(L ++ r :: t :: u :: M)[L.length+2]? = some u:=by rw [List.getElem?_append_right (by omega),Nat.add_sub_cancel_left]; rfl
theorem iL.at (hC:∀ a x,(C a x).length=sz) (hs:0<sz) (h:iL C sz E te w0 S L w s ls xs i) (hx:xs.length=ls.length) {a:A} {x:ah} (ha:ls[i]? = some a) (fK:xs[i]? = some x) :
  (s.a.isSome=true∧(0:Int)≤(i:Int)∧(i:Int)<(s.n:Int))∧∀ (j:Nat) (v:Value),(C a x)[j]? = some v→w.cell? (Addr.add (Addr.add (base s.a) (Int.toNat (i:Int) * sz)) j)=some v:=by
 obtain ⟨ys,fp,hy,H⟩:=h
 have h1:=H.gQ L.length A7
 have hi:=(List.getElem?_eq_some_iff.1 ha).1
 have hl:=h1.len
 rw [kI hC _ _ (by rw [List.length_append,List.length_drop]; omega)] at hl
 have hl:=Nat.eq_of_mul_eq_mul_right hs hl
 refine ⟨⟨h1.pre (by omega),by omega,by omega⟩,fun j v hv=>?_⟩
 rw [Int.toNat_natCast]
 exact h1.Dp hC ha (by rw [List.getElem?_append_right (by omega),hy,Nat.sub_self,List.getElem?_drop,Nat.add_zero]; exact fK) hv
theorem br.snoc {xs:List ah} {ls:List A} {y:ah} {l:A} (h:br E w xs ls) (k:E w y l):br E w (xs ++ [y]) (ls ++ [l]):=
 h.append ⟨rfl,fun i x a hx ha=>by
  cases i with
  | zero=>
   simp only [List.getElem?_cons_zero,Option.some.injEq] at hx ha
   subst hx ha; exact k
  | succ i=>simp at hx⟩
theorem iL.step (hC:∀ a x,(C a x).length=sz) (h:iL C sz E te w0 S L w s ls xs i) (hx:xs.length=ls.length) {a:A} {x z:ah} (ha:ls[i]? = some a) (fK:xs[i]? = some x) (hb:oN w w' fun w=>E w z a) {j:Nat} (hj:j<sz) (hz:C a z=(C a x).set j z.v) {K:World→Prop}
  (hk:∀ w2,iL C sz E te w0 S L w2 s ls xs (i+1)→K w2):st (Addr.add (Addr.add (base s.a) (Int.toNat (i:Int) * sz)) j) (.slice z.a z.n z.c) w' K:=by
 obtain ⟨ys,fp,hy,H⟩:=h
 obtain ⟨m,l6,hf2,fF⟩:=hb
 have hi:=(List.getElem?_eq_some_iff.1 ha).1
 have G5:(ys ++ xs.drop i).length=ls.length:=by rw [List.length_append,List.length_drop]; omega
 have TI:(ys ++ xs.drop i)[i]? = some x:=by rw [List.getElem?_append_right (by omega),hy,Nat.sub_self,List.getElem?_drop,Nat.add_zero]; exact fK
 have A6:(ys ++ xs.drop i).set i z=(ys ++ [z]) ++ xs.drop (i+1):=by
  rw [List.set_append_right _ _ (by omega),hy,Nat.sub_self,List.drop_eq_getElem_cons (by omega),List.set_cons_zero,List.append_assoc]; rfl
 have UB:ls.take (i+1)=ls.take i ++ [a]:=by
  rw [List.take_add_one,ha]; rfl
 have H1:aq w0 S w' ((L ++ [.row te sz s (bP C ls (ys ++ xs.drop i)),.box fp fun w=>br E w ys (ls.take i)]) ++ [.box l6 fun w=>E w z a]):=H.push m fF hf2
 rw [List.append_assoc] at H1
 have H2:=H1.merge (L.length+1) (L.length+2) (t:=.box (fp ++ l6) fun w=>br E w (ys ++ [z]) (ls.take (i+1))) TH abW (by omega) (fun h1 h2=>?_) (fun b hb=>List.mem_append.1 hb)
 ·have e:(((L ++ ([aB.row te sz s (bP C ls (ys ++ xs.drop i)),aB.box fp fun w=>br E w ys (ls.take i)] ++ [aB.box l6 fun w=>E w z a])).set (L.length+2) aB.no).set (L.length+1) (aB.box (fp ++ l6) fun w=>br E w (ys ++ [z]) (ls.take (i+1)))) =
    (L ++ [aB.row te sz s (bP C ls (ys ++ xs.drop i)),aB.box (fp ++ l6) fun w=>br E w (ys ++ [z]) (ls.take (i+1))]) ++ [aB.no]:=by
   rw [List.set_append_right _ _ (by omega),Nat.add_sub_cancel_left,List.set_append_right _ _ (by omega),Nat.add_sub_cancel_left,List.append_assoc]
   rfl
  rw [e] at H2
  have H3:=H2.front
  refine H3.jD L.length (i:=i * sz+j) (v:=z.v) A7 (by rw [add_add,Int.toNat_natCast]) ?_ rfl fun w2 H4=>hk w2 ⟨ys ++ [z],fp ++ l6,by simp [hy],?_⟩
  ·rw [kI hC _ _ G5]
   have:=Nat.mul_le_mul_right sz (show i+1≤ls.length from hi)
   rw [Nat.succ_mul] at this
   omega
  ·rw [List.set_append_right _ _ (Nat.le_refl _),Nat.sub_self,List.set_cons_zero,J9 hC ls (ys ++ xs.drop i) i j a a x z z.v ha TI hj hz,A6] at H4
   have e2:ls.set i a=ls:=by
    refine List.ext_getElem? fun k=>?_
    rw [List.getElem?_set]
    by_cases h:i=k
    ·subst h; rw [if_pos rfl,if_pos hi,ha]
    ·rw [if_neg h]
   rw [e2] at H4
   exact H4
 ·refine ⟨fun b hb=>?_,fun w2 h3=>?_⟩
  ·rcases List.mem_append.1 hb with h | h
   ·exact h1.1 b h
   ·exact h2.1 b h
  ·rw [UB]
   exact br.snoc (h1.2 w2 fun b hb=>h3 b (List.mem_append_left _ hb)) (h2.2 w2 fun b hb=>h3 b (List.mem_append_right _ hb))
theorem iL.done (h:iL C sz E te w0 S L w s ls xs i) (hi:ls.length=i) (hx:xs.length=ls.length):∃ ys fp,aq w0 S w (L ++ [.row te sz s (bP C ls ys),.box fp fun w=>br E w ys ls]):=by
 obtain ⟨ys,fp,hy,H⟩:=h
 rw [List.take_of_length_le (by omega),List.drop_of_length_le (by omega),List.append_nil] at H
 exact ⟨ys,fp,H⟩
end
end Go.Ev
end
section
set_option linter.unusedVariables false
set_option linter.unusedSimpArgs false
namespace Go.Proofs.YtpchgbolambkcaaGreatDoor
open Go Go.Ev
set_option maxRecDepth 20000
set_option linter.unusedVariables false
def sb (eta:Nat) (l:List B8) (k:Nat):Int:=if k % (2 * eta)<eta then (bit l k:Int) else -(bit l k:Int)
def abX (eta:Nat) (l:List B8) (lo:Nat):Nat→Int
 | 0=>0
 | n+1=>abX eta l lo n+sb eta l (lo+n)
@[irreducible] def lean (eta:Nat) (l:List B8):List Int:=(List.range 256).map fun i=>abX eta l (2 * eta * i) (2 * eta) % 3329
end Go.Proofs.YtpchgbolambkcaaGreatDoor
end
section
set_option linter.unusedVariables false
set_option linter.unusedSimpArgs false
namespace Go.Proofs.YtpchgbolambkcaaGreatDoor
open Go Go.Ev
set_option maxRecDepth 20000
set_option linter.unusedVariables false
def anu (eta:Int) (n:Nat):Int:=if eta=2∨eta=3 then (if n=32 then 0 else 3) else 2
@[irreducible] def anv (eta:Int) (l:List B8) (n:B8):List Int:=if anu eta l.length=0 then lean eta.toNat (abx 136 31 (l ++ [n]) (64 * eta)) else []
end Go.Proofs.YtpchgbolambkcaaGreatDoor
end
section
set_option linter.unusedVariables false
set_option linter.unusedSimpArgs false
namespace Go.Proofs.YtpchgbolambkcaaGreatDoor
open Go Go.Ev
set_option maxRecDepth 20000
set_option linter.unusedVariables false
def tab (f:Nat→Int):List Int:=(List.range 256).map f
theorem getD_set_ne {A:Type} (l:List A) {i j:Nat} (h:i≠j) (a d:A):(l.set i a).getD j d=l.getD j d:=by
 rw [List.getD_eq_getElem?_getD,List.getD_eq_getElem?_getD,List.getElem?_set_ne h]
def Cg (a b:Int):Prop:=a % 8380417=b % 8380417
def brv (m:Nat):Nat:=up (fun o i=>2 * o+m / 2 ^ i % 2) 0 8
def zt (m:Nat):Int:=((1753 ^ brv m % 8380417:Nat):Int)
theorem alI {n:Nat} (h:n∈[1,2,4,8,16,32,64,128]):n=1∨n=2∨n=4∨n=8∨n=16∨n=32∨n=64∨n=128:=by simpa using h
theorem places {n b j:Nat} (hn:n∈[1,2,4,8,16,32,64,128]) (hb:b<128 / n) (h1:2 * n * b≤j) (h2:j<2 * n * b+n) :
  j / n % 2=0∧(j+n) / n % 2=1∧j / (2 * n)=b∧(j+n) / (2 * n)=b∧j+n<256:=by
 rcases alI hn with rfl | rfl | rfl | rfl | rfl | rfl | rfl | rfl <;> (simp only [Nat.reduceMul,Nat.reduceDiv] at *; omega)
end Go.Proofs.YtpchgbolambkcaaGreatDoor
end
section
set_option linter.unusedVariables false
set_option linter.unusedSimpArgs false
namespace Go.Proofs.YtpchgbolambkcaaGreatDoor
open Go Go.Ev
set_option maxRecDepth 20000
set_option linter.unusedVariables false
def abC (w w':World) (v:Value) (l:List Int):Prop:=∃ y:ah,v=.slice y.a y.n y.c∧Own w' w.heap.size bn 1 y (dw l)∧Mod [] w w'
theorem Mw (x:ah) (l:List B8) (hl:l.length≤1000000) (w:World) (hx:Bytes w x l):Ok Pr sY [.slice x.a x.n x.c] w fun v w'=>qA w w' v l:=by
 refine Ww ?_
 unfold Iq
 have cH:=hx.len
 refine cN (fun hc=>?_) (fun hc=>?_)
 ·have h0:l=[]:=by
   rcases Nat.eq_zero_or_pos l.length with h | h
   ·exact List.eq_nil_of_length_eq_zero h
   ·have:=Bytes.some hx (by omega)
    rw [Option.isNone_iff_eq_none.1 hc] at this
    cases this
  rw [h0]
  exact ⟨⟨none,0,0⟩,rfl,Own.nil _ _ _ _,Mod.refl _ _⟩
 ·refine (aq.start w).nw fun p w1 H _=>?_
  have H:=H.tW 0 1 0 0 rfl rfl (Nat.le_refl _) (by decide)
  refine H.Dy (s:=⟨some ⟨p,0,none⟩,0,0⟩) (vs:=[]) 0 hO rfl (hx.aI H.mod) (by show 0+x.n≤_; omega) fun y w2 H _=>?_
  exact ⟨y,rfl,H.mC 0 rfl,H.mod⟩
def dn (s n j:Nat) (i:Nat):Bool:=decide (i<s∨(s≤i∧i<j)∨(s+n≤i∧i<j+n))
end Go.Proofs.YtpchgbolambkcaaGreatDoor
end
section
set_option linter.unusedVariables false
set_option linter.unusedSimpArgs false
namespace Go.Proofs.YtpchgbolambkcaaGreatDoor
open Go Go.Ev
set_option maxRecDepth 20000
set_option linter.unusedVariables false
def br7 (m:Nat):Nat:=up (fun o i=>2 * o+m / 2 ^ i % 2) 0 7
def zr (m:Nat):Int:=((17 ^ br7 m % 3329:Nat):Int)
end Go.Proofs.YtpchgbolambkcaaGreatDoor
end
section
set_option linter.unusedVariables false
set_option linter.unusedSimpArgs false
namespace Go.Proofs.YtpchgbolambkcaaGreatDoor
open Go Go.Ev
set_option maxRecDepth 20000
set_option linter.unusedVariables false
def G6 (n:Nat) (l:List Int):List Int:=tab fun i=>
 if i / n % 2=0 then (l.getD i 0+zr (128 / n+i / (2 * n)) * l.getD (i+n) 0) % 3329 else (l.getD (i - n) 0 - zr (128 / n+i / (2 * n)) * l.getD i 0) % 3329
def abY:Nat→List Int→List Int
 | 0,l=>l
 | k+1,l=>abY k (G6 (2 ^ (k+1)) l)
@[irreducible] def anw (l:List Int):List Int:=abY 7 l
end Go.Proofs.YtpchgbolambkcaaGreatDoor
end
section
set_option linter.unusedVariables false
set_option linter.unusedSimpArgs false
namespace Go.Ev
open Go
theorem ai7 {P:Program} {o:Oper} (hd:∀ c,o.op≠.defer c) {l n:Nat} {a:Act} {w:World} {next:Act→World→Prop} {Q:Exit→Act→World→Prop} (h:o.wp P a w next Q):o.wpIn (Fence.wide.inRound l) n P a w next Q:=by
 refine ⟨fun f _=>trivial,?_⟩
 rw [Oper.semAt_eq _ _ _ hd]
 unfold Oper.wp at h
 revert h
 generalize (execOp a.eval o).run P w=r
 intro h
 match r,h with
 | .ok (.value v) w',h=>exact h
 | .ok .skip w',h=>exact h
 | .ok (.defer d) w',h=>exact h
 | .ok (.enter f args) w',h=>exact ⟨fun h=>absurd h (by simp [Fence.inRound,Fence.wide]),(callsIn_wide.2 h:CallsIn Fence.wide _ _ _ _ _ _)⟩
 | .ok (.row row args) w',h=>exact ⟨fun h=>absurd h (by simp [Fence.inRound,Fence.wide]),fun c cs _=>let ⟨v,w2,hr,hs⟩:=h c cs; ⟨v,w2,hr,by rw [fenced_inRound]; exact stepsIn_wide.2 hs⟩⟩
 | .halt (.panic v) w',h=>exact h
theorem E0 {P:Program} {ops:Array Oper} (hd:∀ (i:Nat) o,ops[i]? = some o→∀ c,o.op≠.defer c) {Q:Exit→Act→World→Prop} (jE:¬ LetsOut Q) {l n:Nat}:∀ (idx:List Nat) (a:Act) (w:World),wpOps P ops Q idx a w→wpOpsIn (Fence.wide.inRound l) n P ops Q idx a w
 | [],a,w,h=>h
 | i :: rest,a,w,h=>by
  unfold wpOps at h
  unfold wpOpsIn
  cases ho:ops[i]? with
  | none=>
   rw [ho] at h
   exact E0 hd jE rest a w h
  | some o=>
   rw [ho] at h
   simp only at h ⊢
   split
   ·rename_i hw
    rw [if_pos hw] at h
    rcases h with h | h
    ·exact ai7 (hd i o ho) (Oper.wp_mono (fun a w h=>E0 hd jE rest a w h) h)
    ·exact absurd h.2 jE
   ·rename_i hw
    rw [if_neg hw] at h
    exact ⟨fun f _=>trivial,E0 hd jE rest _ w h⟩
end Go.Ev
end
section
set_option linter.unusedVariables false
set_option linter.unusedSimpArgs false
namespace Go.Ev
open Go
variable {P:Program} {n:Nat} {ws:List Nat} {f0:Fr} {ops:Array Oper}
theorem aaQ [gF] (hP:Good P) (sK:∀ (i:Nat) o,ops[i]? = some o→∀ c,o.op≠.defer c) {m:Mode} {draw:Bool} {id l k:Nat} {fr:Fr} {a:Act} {w:World} {K:Fr→World→Prop} {Q:Exit→Act→World→Prop} (hQ:∀ fr a w,Kn n ws f0 ⟨fr,[],[]⟩ a→K fr w→Q .normal a w)
  (hd:∀ o∈ops.toList,∀ d,o.dst=some d→d<n∧d∈ws) (hk:Kn n ws f0 ⟨fr,[],[]⟩ a) (h:Bv P m ops draw fr w K):(Code.region id ops draw).wpIn (Fence.wide.inRound l) k P Q a w:=by
 have jE:¬ LetsOut (Q0 fun a w=>Q .normal a w):=fun ⟨a,w,h⟩=>h.elim
 unfold Bv at h
 cases draw with
 | false=>
  have h1:wpList P ops (Q0 fun a w=>Q .normal a w) ops.toList a w:=Fw (Q:=Q0 fun a w=>Q .normal a w) hP hd (fun fr a w h1 h2=>hQ fr a w h1 h2) _ _ a w hd hk h
  have h2:(Code.region id ops false).wpIn (Fence.wide.inRound l) k P (Q0 fun a w=>Q .normal a w) a w:=wpIn_region (E0 sK jE _ _ _ (by rw [List.range_eq_range',← Array.length_toList,wpOps_eq_wpList ops.toList 0 (by simp)]; exact h1))
  exact wpIn_mono h2 fun e a w hq=>by cases e <;> first | exact hq | exact hq.elim
 | true=>
  obtain ⟨hc,h⟩:=iO h
  simp only [Bool.and_eq_true] at hc
  have hl:sO ops [] (Array.replicate ops.size false):=⟨by simp,fun j hj=>(by simp [hj]),fun j hj=>(by cases hj),fun j o _ hm=>(by cases hm)⟩
  have h1:=Kv hP (Q:=fun a w=>Q .normal a w) (fun fr a w h1 h2=>hQ fr a w h1 h2) hc.1 hc.2 hd _ [] [] _ a w.drew _ hl hk h
  have h2:(Code.region id ops true).wpIn (Fence.wide.inRound l) k P (Q0 fun a w=>Q .normal a w) a w:=wpIn_region_draw fun t=>E0 sK jE _ _ _ (by
   have:=RM h1
   rw [Array.length_toList] at this
   simp only [Region.schedule,hP.mixed,Bool.true_or,if_true]
   exact wpAny_sound ops.size t _ a _ this)
  exact wpIn_mono h2 fun e a w hq=>by cases e <;> first | exact hq | exact hq.elim
end Go.Ev
end
section
set_option linter.unusedVariables false
set_option linter.unusedSimpArgs false
set_option linter.unusedVariables false
namespace Go.Ev
open Go
variable {P:Program} {n:Nat} {m:Mode} {J L:sJ}
def Ky:List Oper→Bool
 | []=>true
 | o :: r=>match o.op with | .defer _=>false | _=>Ky r
theorem Y1:∀ {l:List Oper},Ky l=true→∀ o∈l,∀ c,o.op≠.defer c
 | [],_,o,h,_,_=>by cases h
 | x :: r,h,o,ho,c,hc=>by
  simp only [Ky] at h
  rcases List.mem_cons.1 ho with rfl | h1
  ·rw [hc] at h; cases h
  ·split at h
   ·cases h
   ·exact Y1 h o h1 c hc
def tX:Code→Bool
 | .skip | .exit _ | .ret | .label _=>true
 | .region _ ops _=>Ky ops.toList
 | .seq a b=>tX a && tX b
 | .cond _ a b=>tX a && tX b
 | .block _ a=>tX a
 | .loop a=>tX a
 | _=>false
def Ka (l i:Nat) (P:Program) (c:Code) (Q:Exit→Act→World→Prop) (a:Act) (w:World):Prop:=
 ∀ (b:Frame) (k:List Item) (cs:List Frame),b.roundOf=(Fence.wide.inRound l).round→(Fence.wide.inRound l).fn b.fn→(Fence.wide.inRound l).room (cs.length+1+i)→∃ e a' w',Q e a' w'∧ArrivesIn (Machine.fenced P (Fence.wide.inRound l)) P (lone (b.atR a (.code c :: .inLoop c :: k)) cs w) b k cs e a' w'
theorem ai8 {l i:Nat} {c:Code} {Q:Exit→Act→World→Prop} {a:Act} {w:World} (h:c.wpIn (Fence.wide.inRound l) i P (Exit.then (Ka l i P c Q) Q) a w):Ka l i P c Q a w:=by
 intro b k cs uE hb hr
 obtain ⟨e,a₁,w₁,hq,jW⟩:=h b (.inLoop c :: k) cs uE hb hr
 cases e with
 | normal=>
  obtain ⟨e₂,a₂,w₂,FH,E4⟩:=hq b k cs uE hb hr
  exact ⟨e₂,a₂,w₂,FH,.of_steps (StepsIn.trans jW (.one (fenced_calm hb hr rfl) stepR_inLoop)) E4⟩
 | exit id=>exact ⟨_,a₁,w₁,hq,.pass (x:=.inLoop c) rfl (fun _ _=>.inl (by simp)) jW⟩
 | goto l=>exact ⟨_,a₁,w₁,hq,.pass (x:=.inLoop c) rfl (fun _ _=>.inl (by simp)) jW⟩
 | ret=>exact ⟨_,a₁,w₁,hq,.pass (x:=.inLoop c) rfl (fun _ _=>.inl (by simp)) jW⟩
 | panic ch=>exact ⟨_,a₁,w₁,hq,.pass (x:=.inLoop c) rfl (fun _ _=>.inl (by simp)) jW⟩
 | outgrown=>exact ⟨_,a₁,w₁,hq,.pass (x:=.inLoop c) rfl (fun _ _=>.inl (by simp)) jW⟩
theorem ajK {l i:Nat} {c:Code} {Q:Exit→Act→World→Prop} {a:Act} {w:World} (h:Ka l i P c Q a w):(Code.loop c).wpIn (Fence.wide.inRound l) i P Q a w:=by
 intro b k cs uE hb hr
 obtain ⟨e,a',w',hq,jW⟩:=h b k cs uE hb hr
 exact ⟨e,a',w',hq,.of_steps (.one (fenced_calm hb hr rfl) stepR_loop) jW⟩
theorem vD [gF] (hP:Good P) {l i:Nat}:∀ (c:Code),tX c=true→(∀ d∈writes c,d<n)→∀ {fr:Fr} {a:Act} {w:World} {Q':rq} {Q:Exit→Act→World→Prop},KF n fr a→
  (∀ e aS a' w',KF n aS a'→FR (writes c) fr aS→Q' e aS w'→Q e a' w')→gE P m J L c fr w Q'→c.wpIn (Fence.wide.inRound l) i P Q a w
 | .skip,_,_,fr,a,w,Q',Q,hk,hq,h=>wpIn_skip (hq _ _ _ _ hk (fun _ _=>rfl) h)
 | .exit id,_,_,fr,a,w,Q',Q,hk,hq,h=>wpIn_exit (hq _ _ _ _ hk (fun _ _=>rfl) h)
 | .ret,_,_,fr,a,w,Q',Q,hk,hq,h=>wpIn_ret (hq _ _ _ _ hk (fun _ _=>rfl) h)
 | .region id ops draw,hn,hw,fr,a,w,Q',Q,hk,hq,h=>by
  refine aaQ (n:=n) (ws:=rm ops.toList) (f0:=fr) (m:=m) hP (fun j o ho c hc=>Y1 hn o (Array.mem_toList_iff.2 (Array.mem_of_getElem? ho)) c hc) (K:=fun aS w'=>Q' .normal aS w') (fun aS a' w' h1 h2=>hq .normal aS a' w' h1.kf (fun t ht=>h1.AY t ht) h2) (fun o ho d hd=>?_) (hk.kn _) h
  have:d∈rm ops.toList:=CF.2 ⟨o,ho,hd⟩
  exact ⟨hw d this,this⟩
 | .cond c x y,hn,hw,fr,a,w,Q',Q,hk,hq,h=>by
  simp only [tX,Bool.and_eq_true] at hn
  simp only [gE] at h
  split at h
  ·rename_i t ht
   have hc:=(hk.kn []).val (Sat.nil a) ht
   have hx:∀ d∈writes x,d<n:=fun d hd=>hw d (List.mem_append_left _ hd)
   have hy:∀ d∈writes y,d<n:=fun d hd=>hw d (List.mem_append_right _ hd)
   refine wpIn_cond hc ?_
   cases t with
   | true=>
    exact vD hP x hn.1 hx hk (fun e aS a' w' h1 h2 h3=>hq e aS a' w' h1 (fun t ht=>h2 t (fun hm=>ht (List.mem_append_left _ hm))) h3) h
   | false=>
    exact vD hP y hn.2 hy hk (fun e aS a' w' h1 h2 h3=>hq e aS a' w' h1 (fun t ht=>h2 t (fun hm=>ht (List.mem_append_right _ hm))) h3) h
  ·exact h.elim
 | .block id c,hn,hw,fr,a,w,Q',Q,hk,hq,h=>by
  refine wpIn_block (vD hP c hn hw hk (fun e aS a' w' h1 h2 h3=>?_) h)
  cases e with
  | exit i=>
   simp only [EX] at h3
   simp only [Exit.inBlock]
   cases hb:Nat.beq i id with
   | true=>rw [hb] at h3; rw [if_pos (beq_eq.1 hb)]; exact hq _ _ _ _ h1 h2 h3
   | false=>rw [hb] at h3; rw [if_neg (gC.1 hb)]; exact hq _ _ _ _ h1 h2 h3
  | _=>exact hq _ _ _ _ h1 h2 h3
 | .seq x y,hn,hw,fr,a,w,Q',Q,hk,hq,h=>by
  simp only [tX,Bool.and_eq_true] at hn
  have hx:∀ d∈writes x,d<n:=fun d hd=>hw d (List.mem_append_left _ hd)
  have hy:∀ d∈writes y,d<n:=fun d hd=>hw d (List.mem_append_right _ hd)
  simp only [gE] at h
  refine wpIn_seq ?_
  split at h
  ·refine vD hP x hn.1 hx hk (fun e aS a' w' h1 h2 h3=>?_) h
   have off:∀ e,Q' e aS w'→Q e a' w':=fun e h4=>hq e aS a' w' h1 (fun t ht=>h2 t (fun hm=>ht (List.mem_append_left _ hm))) h4
   cases e with
   | normal=>
    exact vD hP y hn.2 hy h1 (fun e jm a2 w2 h4 h5 h6=>hq e jm a2 w2 h4 (fun t ht=>
     (h5 t (fun hm=>ht (List.mem_append_right _ hm))).trans (h2 t (fun hm=>ht (List.mem_append_left _ hm)))) h6) h3
   | _=>exact off _ h3
  ·rename_i ls DF
   obtain ⟨dM,h⟩:=iO h
   have dM:=yC dM
   have h':=h (fun iG w'=>∀ a',KF n (iG ++ strip (writes x) fr) a'→y.wpIn (Fence.wide.inRound l) i P Q a' w') (yo fun iG hf w' zB a' gO=>
    vD hP y hn.2 hy gO (fun e jm a2 w2 h4 h5 h6=>hq e jm a2 w2 h4 (fun t ht=>
     (h5 t (fun hm=>ht (List.mem_append_right _ hm))).trans (Au hf dM (fun hm=>ht (List.mem_append_left _ hm)))) h6) zB)
   refine vD hP x hn.1 hx hk (fun e aS a' w' h1 h2 h3=>?_) h'
   have off:∀ e,Q' e aS w'→Q e a' w':=fun e h4=>hq e aS a' w' h1 (fun t ht=>h2 t (fun hm=>ht (List.mem_append_left _ hm))) h4
   cases e with
   | normal=>exact h3 a' (vu h1 h2)
   | _=>exact off _ h3
 | .loop c,hn,hw,fr,a,w,Q',Q,hk,hq,h=>by
  simp only [gE] at h
  split at h
  ·exact h.elim
  ·rename_i ls DF
   obtain ⟨dM,h⟩:=iO h
   have dM:=yC dM
   have h':=h (fun iG w'=>∀ a',KF n (iG ++ strip (writes c) fr) a'→Ka l i P c Q a' w') (yo fun iG hf w' vU a' gO=>ai8 (
    vD hP c hn hw gO (fun e jm a2 w2 h4 h5 h6=>by
     have same:∀ t,t∉writes c→look t jm=look t fr:=fun t ht=>(h5 t ht).trans (Au hf dM ht)
     have off:∀ e,Q' e jm w2→Q e a2 w2:=fun e h7=>hq e jm a2 w2 h4 same h7
     cases e with
     | normal=>exact h6 a2 (vu h4 same)
     | _=>exact off _ h6) vU))
   exact ajK (h' a (vu hk (fun _ _=>rfl)))
 | .rangeFunc ..,_,_,_,_,_,_,_,_,_,h=>(by simp only [gE] at h)
 | .scope c,hn,_,_,_,_,_,_,_,_,_=>(by cases hn)
 | .label l,_,hw,fr,a,w,Q',Q,hk,hq,h=>by
  simp only [gE] at h
  exact wpIn_label (hq _ _ _ _ hk (fun _ _=>rfl) h)
 | .goto _,_,_,_,_,_,_,_,_,_,h=>(by simp only [gE] at h)
 | .refuse _,_,_,_,_,_,_,_,_,_,h=>(by simp only [gE] at h)
#print axioms vD
end Go.Ev
end
section
set_option linter.unusedVariables false
set_option linter.unusedSimpArgs false
set_option linter.unusedVariables false
namespace Go.Ev
open Go Go.RowKit
theorem ajL (W:World) (l:Nat) (o:Obj):W.grownBy (W.putObj l o) (some l):=
 ⟨rfl,rfl,rfl,by simp,fun k _ hk=>World.putObj_heap_other (fun e=>hk (by rw [e]))⟩
def aol (P:Program) {A:Type} (gf:Nat) (lb:List Value) (enc:A→Value) (Kp:World→World→Prop) (T:World→Nat→Prop) (S Sp:List A→Prop) (N:Nat) (w:World):Prop:=
 ∀ (l:Nat) (J Jx:List A→World→Prop),
  (∀ s W W' row,J s W→W.grownBy W' row→(∀ r,row=some r→T W r)→J s W')→
  (∀ s W W' row,Jx s W→W.grownBy W' row→(∀ r,row=some r→T W r)→Jx s W')→
  (∀ pre x W,J pre W→pre.length<N→YieldAt Fence.wide 0 P l #[enc x] W fun e W'=>
   (e=.returned (.bool true)∧J (pre ++ [x]) W'∧Kp W W')∨(e=.returned (.bool false)∧Jx (pre ++ [x]) W'))→
  J [] w→CallsIn Fence.wide 1 P gf (#[.func (.yield l) #[] #[]] ++ ⟨lb⟩) w fun e W'=>(∃ v,e=.returned v)∧((∃ xs,S xs∧J xs W')∨(∃ pre,Sp pre∧Jx pre W'))
def aaR (P:Program) (g:Value) (w:World) (round:Value→World→(World→Prop)→(World→Prop)→Prop) (done stop:World→Prop):Prop:=
 ∃ gf lb,g=.func (.func gf) #[] ⟨lb⟩∧pH P gf=true∧∀ (w1:World) (rec:Obj),w1=(w.alloc (.deferred (some []))).alloc rec→
  ∃ (A:Type) (enc:A→Value) (Kp:World→World→Prop) (T:World→Nat→Prop) (S Sp:List A→Prop) (N:Nat) (I Ir:List A→World→Prop),
   aol P gf lb enc Kp T S Sp N w1∧I [] w1∧
   (∀ W r,T W r→r≠w.heap.size∧r≠w.heap.size+1)∧
   (∀ W W' o o',Kp (W.putObj (w.heap.size+1) o) W'→Kp W (W'.putObj (w.heap.size+1) o'))∧
   (∀ pre W W' row,I pre W→W.grownBy W' row→(∀ r,row=some r→r=w.heap.size+1∨T W r)→I pre W')∧
   (∀ pre W W' row,Ir pre W→W.grownBy W' row→(∀ r,row=some r→r=w.heap.size+1∨T W r)→Ir pre W')∧
   (∀ pre x W,I pre W→pre.length<N→round (enc x) W
    (fun W'=>W'.heap[w.heap.size]? = W.heap[w.heap.size]?∧W'.heap[w.heap.size+1]? = W.heap[w.heap.size+1]?∧Kp W W'∧I (pre ++ [x]) W')
    (fun W'=>W'.heap[w.heap.size]? = W.heap[w.heap.size]?∧W'.heap[w.heap.size+1]? = W.heap[w.heap.size+1]?∧Ir (pre ++ [x]) W'))∧
   (∀ xs W,S xs→I xs W→W.heap[w.heap.size]? = some (.deferred (some []))→done W)∧
   (∀ pre W,Sp pre→Ir pre W→W.heap[w.heap.size]? = some (.deferred (some []))→stop W)
def aom (D:Nat) (w:World) (K:World→Prop):Prop:=w.heap[D]? = some (.deferred (some []))∧K (w.putObj D (.deferred none))
abbrev Th:=Exit→Fr→List Nat→World→Prop
def qZ:Code→Bool
 | .rangeFunc ..=>true
 | .seq a b | .cond _ a b=>qZ a || qZ b
 | .block _ a | .loop a | .scope a=>qZ a
 | _=>false
def elemOf (p:Nat) (L:sJ):Sh:=match yO (some (1000000+p)) L with | some [(_,sh)]=>sh | _=>.val
def KI:Code→Option (Nat×Nat)
 | .region _ ops false=>(match ops.toList with
  | [o]=>(match o.op,o.dst,o.guard with | .assign (.tmp t),some d,none=>some (d,t) | _,_,_=>none)
  | _=>none)
 | _=>none
def vv:Code→List Nat
 | .rangeFunc _ ps a b=>ps.toList ++ (writes a ++ writes b)
 | .seq a b | .cond _ a b=>vv a ++ vv b
 | .block _ a | .loop a | .scope a=>vv a
 | .region _ ops _=>rm ops.toList
 | _=>[]
def rH (P:Program) (m:Mode) (J L:sJ):Code→Fr→List Nat→World→Th→Prop
 | .seq a b,fr,ds,w,Q=>cond (qZ a)
   (match yO (keyOf b) J with
    | none=>rH P m J L a fr ds w fun e aS nZ w'=>match e with | .normal=>rH P m J L b aS nZ w' Q | e=>Q e aS nZ w'
    | some _=>False)
   (cond (qZ b)
    (match yO (keyOf b) J with
     | none=>gE P m J L a fr w fun e aS w'=>match e with | .normal=>rH P m J L b aS ds w' Q | e=>Q e aS ds w'
     | some ls=>cond (yP ls (writes a)) (∀ K:Fr→World→Prop,(AP ls fun aS=>∀ w',rH P m J L b (aS ++ strip (writes a) fr) ds w' Q→K aS w')→gE P m J L a fr w fun e aS w'=>match e with | .normal=>K (carry aS ls) w' | e=>Q e aS ds w') False)
    (gE P m J L (.seq a b) fr w fun e aS w'=>Q e aS ds w'))
 | .block id a,fr,ds,w,Q=>cond (qZ a)
   (rH P m J L a fr ds w fun e aS nZ w'=>match e with | .exit i=>cond (Nat.beq i id) (Q .normal aS nZ w') (Q (.exit i) aS nZ w') | e=>Q e aS nZ w')
   (gE P m J L (.block id a) fr w fun e aS w'=>Q e aS ds w')
 | .rangeFunc g ps assign body,fr,ds,w,Q=>(match ds,ps.toList,(⟨fr,[],[]⟩:St).val [] g,KI assign with
  | [],[p],some gv,some (d,t)=>cond (Nat.beq t p && tX body)
    (aaR P gv w (fun v W K Kr=>yH (elemOf p L) v fun x=>gE P m J L body ((d,some x) :: (p,some x) :: fr) W fun e _ W'=>match e with | .normal=>K W' | .ret=>Kr W' | _=>False)
     (fun W=>Q .normal fr [w.heap.size] W) (fun W=>Q .ret fr [w.heap.size] W)) False
  | _,_,_,_=>False)
 | c,fr,ds,w,Q=>cond (qZ c) False (gE P m J L c fr w fun e aS w'=>Q e aS ds w')
def abD (P:Program) (fn:Func) (R:Value→World→Prop):Th:=fun e fr ds w=>match e with
 | .normal | .ret=>(match ds with
  | []=>wO P fr w fn.results.toList (Ku R w)
  | [D]=>aom D w fun w'=>wO P fr w' fn.results.toList (Ku R w')
  | _=>False)
 | _=>False
@[irreducible] def abZ (P:Program) (m:Mode) (J L:sJ) (fn:Func) (args:List Value) (w:World) (R:Value→World→Prop):Prop:=
 match fn.body with
 | some c=>cond (Dh fn.ntmps (vv c)) (rH P m J L c (wY 0 args) [] w (abD P fn R)) False
 | none=>False
variable {P:Program} {n:Nat} {m:Mode} {J L:sJ}
abbrev pR (ds:List Nat):gF:=⟨ds.map fun D=>{ target:=.collected D,args:=#[] }⟩
abbrev KX (n:Nat) (ds:List Nat) (fr:Fr) (a:Act):Prop:=@KF (pR ds) n fr a
theorem yx:∀ {c:Code},∀ d∈writes c,d∈vv c
 | .region _ _ _,d,h=>h
 | .seq a b,d,h=>by
  rcases List.mem_append.1 h with h | h
  ·exact List.mem_append_left _ (yx d h)
  ·exact List.mem_append_right _ (yx d h)
 | .cond _ a b,d,h=>by
  rcases List.mem_append.1 h with h | h
  ·exact List.mem_append_left _ (yx d h)
  ·exact List.mem_append_right _ (yx d h)
 | .block _ a,d,h=>yx (c:=a) d h
 | .loop a,d,h=>yx (c:=a) d h
 | .scope a,d,h=>yx (c:=a) d h
 | .rangeFunc ..,d,h=>by cases h
 | .skip,d,h=>by cases h
 | .exit _,d,h=>by cases h
 | .label _,d,h=>by cases h
 | .goto _,d,h=>by cases h
 | .ret,d,h=>by cases h
 | .refuse _,d,h=>by cases h
theorem qt (hP:Good P) {c:Code} (hw:∀ d∈vv c,d<n) {ds:List Nat} {fr:Fr} {a:Act} {w:World} {Q':rq} {Q:Exit→Act→World→Prop} {i:Nat} (hk:KX n ds fr a)
  (hq:∀ e aS a' w',KX n ds aS a'→FR (writes c) fr aS→Q' e aS w'→Q e a' w') (h:gE P m J L c fr w Q'):c.wpIn Fence.wide i P Q a w:=
 wpIn_wide.2 (@tM P n m J L (pR ds) hP c (fun d hd=>hw d (yx d hd)) fr a w Q' Q hk hq h)
theorem aks {c:Code} {d t:Nat} (h:KI c=some (d,t)):∃ id o,c=.region id #[o] false∧o.op=.assign (.tmp t)∧o.dst=some d∧o.guard=none:=by
 unfold KI at h
 split at h
 ·rename_i id ops
  split at h
  ·rename_i o ho
   split at h
   ·rename_i h1 h2 h3
    simp only [Option.some.injEq,Prod.mk.injEq] at h
    obtain ⟨rfl,rfl⟩:=h
    refine ⟨id,o,?_,h1,h2,h3⟩
    congr 1
    exact Array.toList_inj.1 (by simpa using ho)
   ·cases h
  ·cases h
 ·cases h
theorem amF (hP:Good P) {id d t l i:Nat} {o:Oper} (h1:o.op=.assign (.tmp t)) (h2:o.dst=some d) (h3:o.guard=none) (hd:d<n) {fr:Fr} {a:Act} {x:Value} (hk:KX n [] ((t,some x) :: fr) a) {W:World} {K:Act→World→Prop}
  (hK:∀ a',KX n [] ((d,some x) :: (t,some x) :: fr) a'→K a' W):(Code.region id #[o] false).wpIn (Fence.wide.inRound l) i P (Exit.then K fun _ _ _=>False) a W:=by
 refine @aaQ P n [d] ((t,some x) :: fr) #[o] (pR []) hP (fun j o' ho c hc=>?_) ⟨true,true⟩ false id l i ((t,some x) :: fr) a W (fun aS w'=>aS=(d,some x) :: (t,some x) :: fr∧w'=W) _ (fun aS a' w' gO h=>?_) (fun o' ho d' hd'=>?_) (@KF.kn n (pR []) _ a hk [d]) ?_
 ·have:o'=o:=by
   match j,ho with
   | 0,ho=>simpa using ho.symm
   | j+1,ho=>simp at ho
  subst this; rw [h1] at hc; cases hc
 ·obtain ⟨rfl,rfl⟩:=h
  exact hK a' (@Kn.kf n (pR []) _ _ _ a' gO)
 ·have:o'=o:=by simpa using ho
  subst this
  rw [h2] at hd'; cases hd'
  exact ⟨hd,by simp⟩
 ·simp only [Bv,cond_false,xu,yI,h3,vF,h1,h2,St.put,St.val,eI,look,Nat.beq_refl,cond_true,tZ,and_self]
theorem aiI {sh:Sh} {v:Value} {K:Value→Prop} (h:yH sh v K):K v:=by
 cases sh <;> first | exact h | (obtain ⟨_,rfl,h⟩:=h; exact h)
theorem ajM (ps:Array Tmp) (p:Nat) (hp:ps.toList=[p]) (x:Value) (t0:Array Value):(ps.zip #[x]).foldl (fun tmps (t,v)=>tmps.setIfInBounds t v) t0=t0.setIfInBounds p x:=by
 obtain rfl:ps=#[p]:=Array.toList_inj.1 (by simpa using hp)
 simp
theorem KX.round {fr:Fr} {a:Act} (hk:KX n [] fr a) {p:Nat} (hp:p<n) (x:Value):KX n [] ((p,some x) :: fr) { tmps:=a.tmps.setIfInBounds p x,defers:=[] }:=by
 refine @KF.mk (pR []) n _ _ (by simp [hk.size]) rfl fun t v hl=>?_
 simp only [look] at hl
 cases hb:Nat.beq p t with
 | true=>
  rw [hb] at hl
  cases hl
  have e:=beq_eq.1 hb
  subst e
  show Array.getD (a.tmps.setIfInBounds p x) p undef=x
  simp [Array.getD_eq_getD_getElem?,hk.size,hp]
 | false=>
  rw [hb] at hl
  have:=hk.fr t v hl
  show Array.getD (a.tmps.setIfInBounds p x) t undef=v
  have gp:=gC.1 hb
  rw [Array.getD_eq_getD_getElem?,Array.getElem?_setIfInBounds_ne gp,← Array.getD_eq_getD_getElem?]
  exact this
theorem akt (hP:Good P) {g:Operand} {ps:Array Tmp} {assign body:Code} {p d:Nat} {gv:Value} (rI:ps.toList=[p]) (TJ:KI assign=some (d,p)) (sK:tX body=true)
  (hw:∀ x∈vv (.rangeFunc g ps assign body),x<n) {fr:Fr} {a:Act} {w:World} (hk:KX n [] fr a) (hg:a.eval g=gv) {done stop:World→Prop} {Q:Exit→Act→World→Prop}
  (h:aaR P gv w (fun v W K Kr=>yH (elemOf p L) v fun x=>gE P m J L body ((d,some x) :: (p,some x) :: fr) W fun e _ W'=>match e with | .normal=>K W' | .ret=>Kr W' | _=>False) done stop)
  (anx:∀ a' W,KX n [w.heap.size] fr a'→done W→Q .normal a' W) (anz:∀ a' W,KX n [w.heap.size] fr a'→stop W→Q .ret a' W) :
  (Code.rangeFunc g ps assign body).wpIn Fence.wide 2 P Q a w:=by
 refine wpIn_rangeFunc fun fn _=>?_
 obtain ⟨gf,lb,rfl,aon,h⟩:=h
 obtain ⟨rec,xh⟩:∃ rec:LoopState→Option Code→Loop,rec=fun st pe=>{ state:=st,pending:=pe,fn,tmps:=a.tmps,params:=ps,assign,body,defers:=w.heap.size }:=⟨_,rfl⟩
 obtain ⟨w1,vY⟩:∃ w1,w1=(w.alloc (.deferred (some []))).alloc (.loop (rec .ready none)):=⟨_,rfl⟩
 obtain ⟨A,enc,Kp,T,S,Sp,N,I,Ir,aoo,h0,hT,hKp,hI,UC,amG,hd,hs⟩:=h w1 (.loop (rec .ready none)) vY
 have hL1:w1.heap[w.heap.size+1]? = some (.loop (rec .ready none)):=by
  rw [vY]; have:=World.alloc_heap_new (w.alloc (.deferred (some []))) (.loop (rec .ready none)); rwa [World.size_alloc] at this
 have zG:w1.heap[w.heap.size]? = some (.deferred (some [])):=by
  rw [vY]; exact (Below.heap_alloc _ _ _ (by simp)).trans (World.alloc_heap_new w _)
 have hp:p<n:=hw p (List.mem_append_left _ (by rw [rI]; simp))
 obtain ⟨aid,ao,rfl,ha1,ha2,ha3⟩:=aks TJ
 have hdn:d<n:=hw d (List.mem_append_right _ (List.mem_append_left _ (CF.2 ⟨ao,by simp,ha2⟩)))
 have hwb:∀ x∈writes body,x<n:=fun x hx=>hw x (List.mem_append_right _ (List.mem_append_right _ hx))
 refine ⟨w.heap.size+1,[{ target:=.collected w.heap.size,args:=#[] }],w1,{ target:=.fn (.func gf) ⟨lb⟩,args:=#[.func (.yield (w.heap.size+1)) #[] #[]] },w1,gf,
  #[.func (.yield (w.heap.size+1)) #[] #[]] ++ ⟨lb⟩,w1,?_,?_,fun _ _=>trivial,?_,fun h=>by simp [Fence.wide] at h,?_⟩
 ·rw [vY,xh]; exact run_enterLoop_outer _ _ _ _ _
 ·simp only [resolve,hg]
  simp [go_sem]
 ·have:=XV hP aon (#[.func (.yield (w.heap.size+1)) #[] #[]] ++ (⟨lb⟩:Array Value)) w1
  simp [invoke,go_sem]
  simpa using this
 ·have iu:∀ {I:List A→World→Prop},(∀ pre W W' row,I pre W→W.grownBy W' row→(∀ r,row=some r→r=w.heap.size+1∨T W r)→I pre W')→∀ pre W o,I pre W→I pre (W.putObj (w.heap.size+1) o):=
   fun hI pre W o h=>hI pre W _ (some (w.heap.size+1)) h (ajL W _ o) fun r e=>.inl (Option.some.inj e).symm
  have keep:∀ {W W':World} {row:Option Nat} {k:Nat} {o:Obj},W.grownBy W' row→(∀ r,row=some r→T W r)→(k=w.heap.size∨k=w.heap.size+1)→W.heap[k]? = some o→W'.heap[k]? = some o:=fun {W W' row k o} hg hr hk ho=>by
   refine (hg.block k (Array.getElem?_eq_some_iff.1 ho).1 fun e=>?_).trans ho
   have:=hT W k (hr k e.symm)
   omega
  refine (aoo (w.heap.size+1)
   (fun pre W=>I pre W∧W.heap[w.heap.size+1]? = some (.loop (rec .ready none))∧W.heap[w.heap.size]? = some (.deferred (some [])))
   (fun pre W=>Ir pre W∧W.heap[w.heap.size+1]? = some (.loop (rec .done (some .ret)))∧W.heap[w.heap.size]? = some (.deferred (some [])))
   (fun s W W' row hs xA hr=>⟨hI s W W' row hs.1 xA fun r e=>.inr (hr r e),keep xA hr (.inr rfl) hs.2.1,keep xA hr (.inl rfl) hs.2.2⟩)
   (fun s W W' row hs xA hr=>⟨UC s W W' row hs.1 xA fun r e=>.inr (hr r e),keep xA hr (.inr rfl) hs.2.1,keep xA hr (.inl rfl) hs.2.2⟩)
   ?_ ⟨h0,hL1,zG⟩).mono ?_
  ·rintro pre x W ⟨hi,hl,hD⟩ hlen
   have cI:w.heap.size+1<W.heap.size:=(Array.getElem?_eq_some_iff.1 hl).1
   have aop:ps=#[p]:=Array.toList_inj.1 (by simpa using rI)
   have hy:=run_yield (P:=P) (args:=#[enc x]) hl (by rw [xh]; simp [aop])
   rw [xh] at hy
   simp only [ajM ps p rI] at hy
   refine ⟨fn,_,_,body,hy,roundIn_of_wpIn (F:=Fence.wide) trivial (amF hP ha1 ha2 ha3 hdn (hk.round hp (enc x)) fun a₁ mJ=>⟨_,run_beginRound hl (by rw [xh]),?_⟩)⟩
   obtain ⟨Wb,G7⟩:∃ Wb,Wb=W.putObj (w.heap.size+1) (.loop { rec .ready none with state:=.busy }):=⟨_,rfl⟩
   have vX:Wb.heap[w.heap.size+1]? = some (.loop { rec .ready none with state:=.busy }):=by rw [G7]; exact World.putObj_heap_same cI
   have xI:Wb.heap[w.heap.size]? = some (.deferred (some [])):=by rw [G7]; exact (World.putObj_heap_other (by omega)).trans hD
   rw [← G7]
   have DJ:I pre Wb:=by rw [G7]; exact iu hI pre W _ hi
   have hb:=aiI (amG pre x Wb DJ hlen)
   refine @vD P n m J L (pR []) hP (w.heap.size+1) 0 body sK hwb _ a₁ Wb _ _ mJ ?_ hb
   intro e aS a' W3 _ _ DM
   have fin:∀ (jump:Option Code),W3.heap[w.heap.size]? = Wb.heap[w.heap.size]?→W3.heap[w.heap.size+1]? = Wb.heap[w.heap.size+1]?→
     (Instr.endRound (w.heap.size+1) jump).run P W3=.ok (.bool jump.isNone) (W3.putObj (w.heap.size+1) (.loop (rec (if jump.isNone then .ready else .done) jump)))∧
     (W3.putObj (w.heap.size+1) (.loop (rec (if jump.isNone then .ready else .done) jump))).heap[w.heap.size+1]? = some (.loop (rec (if jump.isNone then .ready else .done) jump))∧
     (W3.putObj (w.heap.size+1) (.loop (rec (if jump.isNone then .ready else .done) jump))).heap[w.heap.size]? = some (.deferred (some [])):=fun jump hkD hkL=>by
    have zH:=hkL.trans vX
    have:=run_endRound (P:=P) jump zH
    rw [xh] at this ⊢
    exact ⟨this,World.putObj_heap_same (Array.getElem?_eq_some_iff.1 zH).1,(World.putObj_heap_other (by omega)).trans (hkD.trans xI)⟩
   cases e with
   | normal=>
    obtain ⟨h1,h2,h3,h4⟩:=DM
    obtain ⟨hr,vZ,DN⟩:=fin none h1 h2
    exact ⟨_,_,hr,.inl ⟨rfl,⟨iu hI _ _ _ h4,vZ,DN⟩,hKp _ _ _ _ (by rw [← G7]; exact h3)⟩⟩
   | ret=>
    obtain ⟨h1,h2,h3⟩:=DM
    obtain ⟨hr,vZ,DN⟩:=fin (some .ret) h1 h2
    exact ⟨_,_,hr,.inr ⟨rfl,iu UC _ _ _ h3,vZ,DN⟩⟩
   | exit id=>exact DM.elim
   | goto t=>exact DM.elim
   | panic ch=>exact DM.elim
   | outgrown=>exact DM.elim
  ·have pS:∀ (b:Bool),KX n [w.heap.size] fr { a with defers:=[{ target:=.collected w.heap.size,args:=#[] }] ++ a.defers }:=fun _=>by
    refine @KF.mk (pR [w.heap.size]) n _ _ hk.size ?_ hk.fr
    have:=hk.defers
    show [_] ++ a.defers=_
    rw [this]; rfl
   rintro e W2 ⟨⟨v,rfl⟩,(⟨xs,hS,hi,hl,hD⟩ | ⟨pre,hSp,hi,hl,hD⟩)⟩
   ·refine ⟨none,_,by have:=run_endLoop (P:=P) hl (by rw [xh]; simp); rw [xh] at this; exact this,?_⟩
    exact anx _ _ (pS true) (hd xs _ hS (iu hI _ _ _ hi) ((World.putObj_heap_other (by omega)).trans hD))
   ·refine ⟨some .ret,_,by have:=run_endLoop (P:=P) hl (by rw [xh]; simp); rw [xh] at this; exact this,?_⟩
    exact wpIn_ret (anz _ _ (pS true) (hs pre _ hSp (iu UC _ _ _ hi) ((World.putObj_heap_other (by omega)).trans hD)))
theorem C0 (hP:Good P):∀ (c:Code),(∀ d∈vv c,d<n)→∀ {fr:Fr} {ds:List Nat} {a:Act} {w:World} {Q':Th} {Q:Exit→Act→World→Prop},KX n ds fr a→
  (∀ e aS nZ a' w',KX n nZ aS a'→FR (writes c) fr aS→Q' e aS nZ w'→Q e a' w')→rH P m J L c fr ds w Q'→c.wpIn Fence.wide 2 P Q a w
 | .seq x y,hw,fr,ds,a,w,Q',Q,hk,hq,h=>by
  have hx:∀ d∈vv x,d<n:=fun d hd=>hw d (List.mem_append_left _ hd)
  have hy:∀ d∈vv y,d<n:=fun d hd=>hw d (List.mem_append_right _ hd)
  simp only [rH] at h
  cases hrx:qZ x with
  | true=>
   rw [hrx,cond_true] at h
   split at h
   ·refine wpIn_seq (C0 hP x hx hk (fun e aS nZ a' w' h1 h2 h3=>?_) h)
    have off:∀ e,Q' e aS nZ w'→Q e a' w':=fun e h4=>hq e aS nZ a' w' h1 (fun t ht=>h2 t (fun hm=>ht (List.mem_append_left _ hm))) h4
    cases e with
    | normal=>
     exact C0 hP y hy h1 (fun e jm xJ a2 w2 h4 h5 h6=>hq e jm xJ a2 w2 h4 (fun t ht=>
      (h5 t (fun hm=>ht (List.mem_append_right _ hm))).trans (h2 t (fun hm=>ht (List.mem_append_left _ hm)))) h6) h3
    | _=>exact off _ h3
   ·exact h.elim
  | false=>
   rw [hrx,cond_false] at h
   cases hry:qZ y with
   | false=>
    rw [hry,cond_false] at h
    exact qt (m:=m) (J:=J) (L:=L) hP (c:=.seq x y) hw hk (fun e aS a' w' h1 h2 h3=>hq e aS ds a' w' h1 h2 h3) h
   | true=>
    rw [hry,cond_true] at h
    split at h
    ·refine wpIn_seq (qt hP hx hk (fun e aS a' w' h1 h2 h3=>?_) h)
     have off:∀ e,Q' e aS ds w'→Q e a' w':=fun e h4=>hq e aS ds a' w' h1 (fun t ht=>h2 t (fun hm=>ht (List.mem_append_left _ hm))) h4
     cases e with
     | normal=>
      exact C0 hP y hy h1 (fun e jm xJ a2 w2 h4 h5 h6=>hq e jm xJ a2 w2 h4 (fun t ht=>
       (h5 t (fun hm=>ht (List.mem_append_right _ hm))).trans (h2 t (fun hm=>ht (List.mem_append_left _ hm)))) h6) h3
     | _=>exact off _ h3
    ·rename_i ls DF
     obtain ⟨dM,h⟩:=iO h
     have dM:=yC dM
     have h':=h (fun iG w'=>∀ a',KX n ds (iG ++ strip (writes x) fr) a'→y.wpIn Fence.wide 2 P Q a' w') (yo fun iG hf w' zB a' gO=>
      C0 hP y hy gO (fun e jm xJ a2 w2 h4 h5 h6=>hq e jm xJ a2 w2 h4 (fun t ht=>
       (h5 t (fun hm=>ht (List.mem_append_right _ hm))).trans (Au hf dM (fun hm=>ht (List.mem_append_left _ hm)))) h6) zB)
     refine wpIn_seq (qt hP hx hk (fun e aS a' w' h1 h2 h3=>?_) h')
     have off:∀ e,Q' e aS ds w'→Q e a' w':=fun e h4=>hq e aS ds a' w' h1 (fun t ht=>h2 t (fun hm=>ht (List.mem_append_left _ hm))) h4
     cases e with
     | normal=>exact h3 a' (@vu n (pR ds) _ _ _ _ _ h1 h2)
     | _=>exact off _ h3
 | .block id c,hw,fr,ds,a,w,Q',Q,hk,hq,h=>by
  simp only [rH] at h
  cases hr:qZ c with
  | false=>
   rw [hr,cond_false] at h
   exact qt (m:=m) (J:=J) (L:=L) hP (c:=.block id c) hw hk (fun e aS a' w' h1 h2 h3=>hq e aS ds a' w' h1 h2 h3) h
  | true=>
   rw [hr,cond_true] at h
   refine wpIn_block (C0 hP c hw hk (fun e aS nZ a' w' h1 h2 h3=>?_) h)
   cases e with
   | exit i=>
    simp only [Exit.inBlock]
    cases hb:Nat.beq i id with
    | true=>simp only [hb,cond_true] at h3; rw [if_pos (beq_eq.1 hb)]; exact hq _ _ _ _ _ h1 h2 h3
    | false=>simp only [hb,cond_false] at h3; rw [if_neg (gC.1 hb)]; exact hq _ _ _ _ _ h1 h2 h3
   | _=>exact hq _ _ _ _ _ h1 h2 h3
 | .rangeFunc g ps assign body,hw,fr,ds,a,w,Q',Q,hk,hq,h=>by
  simp only [rH] at h
  split at h
  ·rename_i p gv d t rI hg TJ
   obtain ⟨hc,h⟩:=iO h
   simp only [Bool.and_eq_true] at hc
   have e:=beq_eq.1 hc.1
   subst e
   have hgv:a.eval g=gv:=@Kn.val (pR []) n [] fr _ a (@KF.kn n (pR []) _ a hk []) [] (Sat.nil a) _ _ hg
   exact akt hP rI TJ hc.2 hw hk hgv h (fun a' W h1 h2=>hq _ _ _ _ _ h1 (fun _ _=>rfl) h2) (fun a' W h1 h2=>hq _ _ _ _ _ h1 (fun _ _=>rfl) h2)
  ·exact h.elim
 | .skip,hw,fr,ds,a,w,Q',Q,hk,hq,h=>qt (m:=m) (J:=J) (L:=L) hP (c:=.skip) hw hk (fun e aS a' w' h1 h2 h3=>hq e aS ds a' w' h1 h2 h3) h
 | .exit id,hw,fr,ds,a,w,Q',Q,hk,hq,h=>qt (m:=m) (J:=J) (L:=L) hP (c:=.exit id) hw hk (fun e aS a' w' h1 h2 h3=>hq e aS ds a' w' h1 h2 h3) h
 | .ret,hw,fr,ds,a,w,Q',Q,hk,hq,h=>qt (m:=m) (J:=J) (L:=L) hP (c:=.ret) hw hk (fun e aS a' w' h1 h2 h3=>hq e aS ds a' w' h1 h2 h3) h
 | .label l,hw,fr,ds,a,w,Q',Q,hk,hq,h=>qt (m:=m) (J:=J) (L:=L) hP (c:=.label l) hw hk (fun e aS a' w' h1 h2 h3=>hq e aS ds a' w' h1 h2 h3) h
 | .goto l,hw,fr,ds,a,w,Q',Q,hk,hq,h=>qt (m:=m) (J:=J) (L:=L) hP (c:=.goto l) hw hk (fun e aS a' w' h1 h2 h3=>hq e aS ds a' w' h1 h2 h3) h
 | .refuse l,hw,fr,ds,a,w,Q',Q,hk,hq,h=>qt (m:=m) (J:=J) (L:=L) hP (c:=.refuse l) hw hk (fun e aS a' w' h1 h2 h3=>hq e aS ds a' w' h1 h2 h3) h
 | .region i o r,hw,fr,ds,a,w,Q',Q,hk,hq,h=>qt (m:=m) (J:=J) (L:=L) hP (c:=.region i o r) hw hk (fun e aS a' w' h1 h2 h3=>hq e aS ds a' w' h1 h2 h3) h
 | .cond c x y,hw,fr,ds,a,w,Q',Q,hk,hq,h=>by
  simp only [rH] at h
  cases hr:qZ (.cond c x y) with
  | false=>rw [hr] at h; exact qt (m:=m) (J:=J) (L:=L) hP (c:=.cond c x y) hw hk (fun e aS a' w' h1 h2 h3=>hq e aS ds a' w' h1 h2 h3) h
  | true=>rw [hr] at h; exact h.elim
 | .loop c,hw,fr,ds,a,w,Q',Q,hk,hq,h=>by
  simp only [rH] at h
  cases hr:qZ (.loop c) with
  | false=>rw [hr] at h; exact qt (m:=m) (J:=J) (L:=L) hP (c:=.loop c) hw hk (fun e aS a' w' h1 h2 h3=>hq e aS ds a' w' h1 h2 h3) h
  | true=>rw [hr] at h; exact h.elim
 | .scope c,hw,fr,ds,a,w,Q',Q,hk,hq,h=>by
  simp only [rH] at h
  cases hr:qZ (.scope c) with
  | false=>rw [hr] at h; exact qt (m:=m) (J:=J) (L:=L) hP (c:=.scope c) hw hk (fun e aS a' w' h1 h2 h3=>hq e aS ds a' w' h1 h2 h3) h
  | true=>rw [hr] at h; exact h.elim
theorem alJ (hP:Good P) {f:FuncId} {fn:Func} (hf:P.funcs[f]? = some fn) {args:List Value} (FI:Nat.ble args.length fn.ntmps=true) {w:World} {R:Value→World→Prop}
  (h:abZ P m J L fn args w R):Ok P f args w R:=by
 have hlen:args.length≤fn.ntmps:=Nat.le_of_ble_eq_true FI
 unfold abZ at h
 split at h
 ·rename_i c hc
  obtain ⟨cI,h⟩:=iO h
  refine callsIn_wide.1 (callsIn_of_wp_marks (F:=Fence.wide) (n:=2) hf hc trivial (C0 (n:=fn.ntmps) (m:=m) (J:=J) (L:=L) hP c (JD cI) (fr:=wY 0 args) (@KF.mk (pR []) _ _ _ ?_ rfl fun t v hl=>?_) (fun e aS nZ a' w' hk _ hq=>?_) h))
  ·simp; omega
  ·obtain ⟨_,h2⟩:=JC hl
   have h3:args[t]? = some v:=by simpa using h2
   have h4:t<args.length:=(List.getElem?_eq_some_iff.1 h3).1
   show Array.getD _ t undef=v
   rw [Array.getD_eq_getD_getElem?,Array.getElem?_append_left (by simpa using h4)]
   simp [h3]
  ·have out:abD P fn R .ret aS nZ w'→LeavesInM Fence.wide 2 P fn a'.tmps (fun e w'=>∃ v,e=.returned v∧R v w') a'.defers .returning w':=fun hq=>by
    have hd:=@KF.defers (pR nZ) _ _ _ hk
    rw [hd]
    revert hk hq
    match nZ with
    | []=>
     intro hk hq
     obtain ⟨v,h1,h2⟩:=@Cu P fn.ntmps (pR []) fn aS a' hk w' R hq
     exact ⟨v,h1,v,rfl,h2⟩
    | [D]=>
     rintro hk ⟨hD,hq⟩
     obtain ⟨v,h1,h2⟩:=@Cu P fn.ntmps (pR [D]) fn aS a' hk _ R hq
     exact ⟨by simp,.inl ⟨D,_,rfl,run_takeDeferred hD,v,h1,v,rfl,h2⟩⟩
    | _ :: _ :: _=>
     intro hk hq
     exact hq.elim
   cases e with
   | normal=>exact out hq
   | ret=>exact out hq
   | _=>exact hq.elim
 ·exact h.elim
#print axioms alJ
end Go.Ev
end
section
set_option linter.unusedVariables false
set_option linter.unusedSimpArgs false
set_option linter.unusedVariables false
namespace Go.Ev
open Go Go.RowKit
def amH (P:Program) (l:Nat) (vs:List Value) (w:World) (K:Value→World→Prop):Prop:=YieldAt Fence.wide 0 P l ⟨vs⟩ w fun e w'=>∃ v,e=.returned v∧K v w'
def Kz:List Oper→Option (List Oper×Oper×List Oper)
 | []=>none
 | o :: r=>match o.op with
  | .call { callee:=.value (.tmp _),.. }=>some ([],o,r)
  | _=>match Kz r with | some (a,x,b)=>some (o :: a,x,b) | none=>none
def Kb (P:Program) (o:Oper) (fr:Fr) (w:World) (K:Value→World→Prop):Prop:=
 match o.op,o.guard with
 | .call { callee:=.value g,args,.. },none=>(match (⟨fr,[],[]⟩:St).val [] g,q7 ((⟨fr,[],[]⟩:St).val []) args.toList with
  | some (.func (.yield l) first cap),some vs=>amH P l (first.toList ++ vs) w fun v w'=>FF P o.dst o.type v fun v'=>K v' w'
  | _,_=>False)
 | _,_=>False
def TK (P:Program) (m:Mode) (ops:Array Oper) (draw:Bool) (fr:Fr) (w:World) (K:Fr→World→Prop):Prop:=
 match Kz ops.toList with
 | none=>Bv P m ops draw fr w K
 | some (a,o,b)=>cond draw False (xu P m ops a ⟨fr,[],[]⟩ w fun iG w1=>Kb P o iG w1 fun v w2=>xu P m ops b ((⟨iG,[],[]⟩:St).put o.dst (some v)) w2 K)
def nt (P:Program) (m:Mode) (J L:sJ):Code→Fr→World→rq→Prop
 | .skip,fr,w,Q=>Q .normal fr w
 | .region _ ops draw,fr,w,Q=>TK P m ops draw fr w fun aS w'=>Q .normal aS w'
 | .seq a b,fr,w,Q=>(match yO (keyOf b) J with
  | none=>nt P m J L a fr w (C9 (fun aS w'=>nt P m J L b aS w' Q) Q)
  | some ls=>cond (yP ls (writes a)) (∀ K:Fr→World→Prop,(AP ls fun aS=>∀ w',nt P m J L b (aS ++ strip (writes a) fr) w' Q→K aS w')→nt P m J L a fr w (C9 (fun aS w'=>K (carry aS ls) w') Q)) False)
 | .cond c a b,fr,w,Q=>(match (⟨fr,[],[]⟩:St).val [] c with
  | some (.bool t)=>az t (nt P m J L a fr w Q) (nt P m J L b fr w Q)
  | _=>False)
 | .block id a,fr,w,Q=>nt P m J L a fr w (EX id Q)
 | .loop a,fr,w,Q=>(match yO (keyOf a) L with
  | none=>False
  | some ls=>cond (yP ls (writes a)) (∀ X:Fr→World→Prop,(AP ls fun aS=>∀ w',nt P m J L a (aS ++ strip (writes a) fr) w' (C9 (fun Tz eU=>X (carry Tz ls) eU) Q)→X aS w')→X (carry fr ls) w) False)
 | .exit id,fr,w,Q=>Q (.exit id) fr w
 | .ret,fr,w,Q=>Q .ret fr w
 | .label _,fr,w,Q=>Q .normal fr w
 | _,_,_,_=>False
@[irreducible] def ab0 (P:Program) (m:Mode) (J L:sJ) (fn:Func) (args:List Value) (w:World) (R:Value→World→Prop):Prop:=
 match fn.body with
 | some c=>cond (Dh fn.ntmps (writes c)) (nt P m J L c (wY 0 args) w (S8 P fn R)) False
 | none=>False
def OkY (P:Program) (f:FuncId) (args:List Value) (w:World) (R:Value→World→Prop):Prop:=CallsIn Fence.wide 1 P f ⟨args⟩ w fun e w'=>∃ v,e=.returned v∧R v w'
variable {P:Program} {n:Nat} {ws:List Nat} {f0:Fr} {ops:Array Oper} {m:Mode} {J L:sJ}
theorem Y2:∀ {l a b:List Oper} {o:Oper},Kz l=some (a,o,b)→l=a ++ o :: b
 | [],_,_,_,h=>by cases h
 | x :: r,a,b,o,h=>by
  simp only [Kz] at h
  split at h
  ·simp only [Option.some.injEq,Prod.mk.injEq] at h
   obtain ⟨rfl,rfl,rfl⟩:=h
   rfl
  ·split at h
   ·rename_i a' x' b' h'
    simp only [Option.some.injEq,Prod.mk.injEq] at h
    obtain ⟨rfl,rfl,rfl⟩:=h
    rw [Y2 h']; rfl
   ·cases h
theorem aic {o:Oper} {i:Nat} {a:Act} {w:World} {next next' Q1:Act→World→Prop} {Q:Exit→Act→World→Prop} (h:o.wp P a w next (Q0 Q1)) (hn:∀ a w,next a w→next' a w):o.wpIn Fence.wide i P a w next' Q:=by
 refine ⟨fun f _=>trivial,?_⟩
 show o.uponIn Fence.wide i P a next' Q ((execOp a.eval o).run P w)
 unfold Oper.wp at h
 revert h
 generalize (execOp a.eval o).run P w=r
 intro h
 match r,h with
 | .ok (.value v) w',h=>exact hn _ _ h
 | .ok .skip w',h=>exact hn _ _ h
 | .ok (.defer d) w',h=>exact hn _ _ h
 | .ok (.enter f args) w',h=>
  refine ⟨fun h=>absurd h (by simp [Fence.wide]),(callsIn_wide.2 h).mono fun e w2 hr=>?_⟩
  cases e with
  | returned v=>exact hn _ _ hr
  | panicked ch=>exact hr.elim
  | outgrown=>obtain ⟨_,_,hr⟩:=hr; exact hr.elim
 | .ok (.row row args) w',h=>exact ⟨fun h=>absurd h (by simp [Fence.wide]),fun c cs _=>let ⟨v,w2,hr,hs⟩:=h c cs; ⟨v,w2,hn _ _ hr,stepsIn_wide.2 hs⟩⟩
 | .halt (.panic v) w',h=>exact h.elim
theorem JF {i:Nat} {Q1:Act→World→Prop} {Q:Exit→Act→World→Prop} {l2:List Oper}:∀ (l1:List Oper) (a:Act) (w:World),wpList P ops (Q0 Q1) l1 a w→(∀ a w,Q1 a w→wpListIn Fence.wide i P ops Q l2 a w)→wpListIn Fence.wide i P ops Q (l1 ++ l2) a w
 | [],a,w,h,hQ=>hQ a w h
 | o :: r,a,w,h,hQ=>by
  unfold wpList at h
  show wpListIn Fence.wide i P ops Q (o :: (r ++ l2)) a w
  unfold wpListIn
  split
  ·rename_i hw
   rw [if_pos hw] at h
   rcases h with h | h
   ·exact aic h fun a w h=>JF r a w h hQ
   ·obtain ⟨_,_,_,hr⟩:=h; exact hr.elim
  ·rename_i hw
   rw [if_neg hw] at h
   exact ⟨fun f _=>trivial,JF r _ w h hQ⟩
theorem ai9 [gF] {o:Oper} {fr:Fr} {a:Act} {w:World} {K:Value→World→Prop} {next:Act→World→Prop} {Q:Exit→Act→World→Prop} (hk:Kn n ws f0 ⟨fr,[],[]⟩ a) (h:Kb P o fr w K)
  (hn:∀ v w',K v w'→next (a.put o.dst v) w'):o.guard=none∧o.wpIn Fence.wide 1 P a w next Q:=by
 unfold Kb at h
 split at h
 ·rename_i g args zx hop oU
  split at h
  ·rename_i l first cap vs hg pQ
   refine ⟨oU,fun f _=>trivial,?_⟩
   show o.uponIn Fence.wide 1 P a next Q ((execOp a.eval o).run P w)
   obtain ⟨fn,tmps,asg,bd,hy,hr⟩:=h
   have ab1:sM ((⟨fr,[],[]⟩:St).val []) a.eval:=fun x v hx=>hk.val (Sat.nil a) hx
   have FO:(execOp a.eval o).run P w=.ok (.round l fn tmps asg bd) w:=by
    have lR:=vm ab1 pQ
    obtain ⟨dst,op,ty,ps,af,gd⟩:=o
    simp only at hop
    subst hop
    simp only [execOp,resolve,lR,ab1 _ _ hg,Deferred.ofValue,invoke,Sem.run_bind,Sem.run_pure,Result.andThen_ok]
    refine Eq.trans ?_ hy
    congr 2
    apply Array.ext'
    simp
   rw [FO]
   refine ⟨fun h=>absurd h (by simp [Fence.wide]),hr.mono fun e w' he=>?_⟩
   obtain ⟨v,rfl,he⟩:=he
   exact hn _ _ (Zr he)
  ·exact h.elim
 ·exact h.elim
theorem alK [gF] (hP:Good P) {draw:Bool} {id:Nat} {fr:Fr} {a:Act} {w:World} {K:Fr→World→Prop} {Q:Exit→Act→World→Prop} (hQ:∀ fr a w,Kn n ws f0 ⟨fr,[],[]⟩ a→K fr w→Q .normal a w)
  (hd:∀ o∈ops.toList,∀ d,o.dst=some d→d<n∧d∈ws) (hk:Kn n ws f0 ⟨fr,[],[]⟩ a) (h:TK P m ops draw fr w K):(Code.region id ops draw).wpIn Fence.wide 1 P Q a w:=by
 unfold TK at h
 split at h
 ·exact wpIn_wide.2 (aaK hP hQ hd hk h)
 ·rename_i l1 o l2 hs
  have hl:=Y2 hs
  cases draw with
  | true=>exact h.elim
  | false=>
   refine wpIn_region_list ?_
   have hd1:∀ x∈l1,∀ d,x.dst=some d→d<n∧d∈ws:=fun x hx=>hd x (by rw [hl]; simp [hx])
   have hd2:∀ x∈l2,∀ d,x.dst=some d→d<n∧d∈ws:=fun x hx=>hd x (by rw [hl]; simp [hx])
   have G8:∀ d,o.dst=some d→d<n∧d∈ws:=hd o (by rw [hl]; simp)
   rw [hl]
   refine JF l1 a w (Fw (Q:=Q0 fun a w=>∃ iG,Kn n ws f0 ⟨iG,[],[]⟩ a∧Kb P o iG w fun v w2=>xu P m ops l2 ((⟨iG,[],[]⟩:St).put o.dst (some v)) w2 K) hP hd (fun iG a w h1 h2=>⟨iG,h1,h2⟩) _ _ a w hd1 hk h) ?_
   rintro a1 w1 ⟨iG,mJ,hy⟩
   have h3:=ai9 (next:=wpListIn Fence.wide 1 P ops Q l2) (Q:=Q) mJ hy fun v w2 h4=>by
    have pS:Kn n ws f0 ((⟨iG,[],[]⟩:St).put o.dst (some v)) (a1.put o.dst v):=mJ.put G8 (fun x hx=>by cases hx; rfl)
    have:=JF (i:=1) (Q:=Q) (l2:=[]) l2 _ _ (Fw (Q:=Q0 fun a w=>Q .normal a w) hP hd (fun fr a w h1 h2=>hQ fr a w h1 h2) _ _ _ w2 hd2 pS h4) fun a w h=>h
    rwa [List.append_nil] at this
   unfold wpListIn
   rw [if_pos (P4 h3.1)]
   exact h3.2
def KA (i:Nat) (P:Program) (c:Code) (Q:Exit→Act→World→Prop) (a:Act) (w:World):Prop:=
 ∀ (b:Frame) (k:List Item) (cs:List Frame),b.roundOf=Fence.wide.round→Fence.wide.fn b.fn→Fence.wide.room (cs.length+1+i)→∃ e a' w',Q e a' w'∧ArrivesIn (Machine.fenced P Fence.wide) P (lone (b.atR a (.code c :: .inLoop c :: k)) cs w) b k cs e a' w'
theorem ajN {i:Nat} {c:Code} {Q:Exit→Act→World→Prop} {a:Act} {w:World} (h:c.wpIn Fence.wide i P (Exit.then (KA i P c Q) Q) a w):KA i P c Q a w:=by
 intro b k cs uE hb hr
 obtain ⟨e,a₁,w₁,hq,jW⟩:=h b (.inLoop c :: k) cs uE hb hr
 cases e with
 | normal=>
  obtain ⟨e₂,a₂,w₂,FH,E4⟩:=hq b k cs uE hb hr
  exact ⟨e₂,a₂,w₂,FH,.of_steps (StepsIn.trans jW (.one (fenced_calm hb hr rfl) stepR_inLoop)) E4⟩
 | exit id=>exact ⟨_,a₁,w₁,hq,.pass (x:=.inLoop c) rfl (fun _ _=>.inl (by simp)) jW⟩
 | goto l=>exact ⟨_,a₁,w₁,hq,.pass (x:=.inLoop c) rfl (fun _ _=>.inl (by simp)) jW⟩
 | ret=>exact ⟨_,a₁,w₁,hq,.pass (x:=.inLoop c) rfl (fun _ _=>.inl (by simp)) jW⟩
 | panic ch=>exact ⟨_,a₁,w₁,hq,.pass (x:=.inLoop c) rfl (fun _ _=>.inl (by simp)) jW⟩
 | outgrown=>exact ⟨_,a₁,w₁,hq,.pass (x:=.inLoop c) rfl (fun _ _=>.inl (by simp)) jW⟩
theorem aku {i:Nat} {c:Code} {Q:Exit→Act→World→Prop} {a:Act} {w:World} (h:KA i P c Q a w):(Code.loop c).wpIn Fence.wide i P Q a w:=by
 intro b k cs uE hb hr
 obtain ⟨e,a',w',hq,jW⟩:=h b k cs uE hb hr
 exact ⟨e,a',w',hq,.of_steps (.one (fenced_calm hb hr rfl) stepR_loop) jW⟩
theorem wQ [gF] (hP:Good P):∀ (c:Code),(∀ d∈writes c,d<n)→∀ {fr:Fr} {a:Act} {w:World} {Q':rq} {Q:Exit→Act→World→Prop},KF n fr a→
  (∀ e aS a' w',KF n aS a'→FR (writes c) fr aS→Q' e aS w'→Q e a' w')→nt P m J L c fr w Q'→c.wpIn Fence.wide 1 P Q a w
 | .skip,_,fr,a,w,Q',Q,hk,hq,h=>wpIn_skip (hq _ _ _ _ hk (fun _ _=>rfl) h)
 | .exit id,_,fr,a,w,Q',Q,hk,hq,h=>wpIn_exit (hq _ _ _ _ hk (fun _ _=>rfl) h)
 | .ret,_,fr,a,w,Q',Q,hk,hq,h=>wpIn_ret (hq _ _ _ _ hk (fun _ _=>rfl) h)
 | .region id ops draw,hw,fr,a,w,Q',Q,hk,hq,h=>by
  refine alK (n:=n) (ws:=rm ops.toList) (f0:=fr) (m:=m) hP (K:=fun aS w'=>Q' .normal aS w') (fun aS a' w' h1 h2=>hq .normal aS a' w' h1.kf (fun t ht=>h1.AY t ht) h2) (fun o ho d hd=>?_) (hk.kn _) h
  have:d∈rm ops.toList:=CF.2 ⟨o,ho,hd⟩
  exact ⟨hw d this,this⟩
 | .cond c x y,hw,fr,a,w,Q',Q,hk,hq,h=>by
  simp only [nt] at h
  split at h
  ·rename_i t ht
   have hc:=(hk.kn []).val (Sat.nil a) ht
   have hx:∀ d∈writes x,d<n:=fun d hd=>hw d (List.mem_append_left _ hd)
   have hy:∀ d∈writes y,d<n:=fun d hd=>hw d (List.mem_append_right _ hd)
   refine wpIn_cond hc ?_
   cases t with
   | true=>
    exact wQ hP x hx hk (fun e aS a' w' h1 h2 h3=>hq e aS a' w' h1 (fun t ht=>h2 t (fun hm=>ht (List.mem_append_left _ hm))) h3) h
   | false=>
    exact wQ hP y hy hk (fun e aS a' w' h1 h2 h3=>hq e aS a' w' h1 (fun t ht=>h2 t (fun hm=>ht (List.mem_append_right _ hm))) h3) h
  ·exact h.elim
 | .block id c,hw,fr,a,w,Q',Q,hk,hq,h=>by
  refine wpIn_block (wQ hP c hw hk (fun e aS a' w' h1 h2 h3=>?_) h)
  cases e with
  | exit i=>
   simp only [EX] at h3
   simp only [Exit.inBlock]
   cases hb:Nat.beq i id with
   | true=>rw [hb] at h3; rw [if_pos (beq_eq.1 hb)]; exact hq _ _ _ _ h1 h2 h3
   | false=>rw [hb] at h3; rw [if_neg (gC.1 hb)]; exact hq _ _ _ _ h1 h2 h3
  | _=>exact hq _ _ _ _ h1 h2 h3
 | .seq x y,hw,fr,a,w,Q',Q,hk,hq,h=>by
  have hx:∀ d∈writes x,d<n:=fun d hd=>hw d (List.mem_append_left _ hd)
  have hy:∀ d∈writes y,d<n:=fun d hd=>hw d (List.mem_append_right _ hd)
  simp only [nt] at h
  refine wpIn_seq ?_
  split at h
  ·refine wQ hP x hx hk (fun e aS a' w' h1 h2 h3=>?_) h
   have off:∀ e,Q' e aS w'→Q e a' w':=fun e h4=>hq e aS a' w' h1 (fun t ht=>h2 t (fun hm=>ht (List.mem_append_left _ hm))) h4
   cases e with
   | normal=>
    exact wQ hP y hy h1 (fun e jm a2 w2 h4 h5 h6=>hq e jm a2 w2 h4 (fun t ht=>
     (h5 t (fun hm=>ht (List.mem_append_right _ hm))).trans (h2 t (fun hm=>ht (List.mem_append_left _ hm)))) h6) h3
   | _=>exact off _ h3
  ·rename_i ls DF
   obtain ⟨dM,h⟩:=iO h
   have dM:=yC dM
   have h':=h (fun iG w'=>∀ a',KF n (iG ++ strip (writes x) fr) a'→y.wpIn Fence.wide 1 P Q a' w') (yo fun iG hf w' zB a' gO=>
    wQ hP y hy gO (fun e jm a2 w2 h4 h5 h6=>hq e jm a2 w2 h4 (fun t ht=>
     (h5 t (fun hm=>ht (List.mem_append_right _ hm))).trans (Au hf dM (fun hm=>ht (List.mem_append_left _ hm)))) h6) zB)
   refine wQ hP x hx hk (fun e aS a' w' h1 h2 h3=>?_) h'
   have off:∀ e,Q' e aS w'→Q e a' w':=fun e h4=>hq e aS a' w' h1 (fun t ht=>h2 t (fun hm=>ht (List.mem_append_left _ hm))) h4
   cases e with
   | normal=>exact h3 a' (vu h1 h2)
   | _=>exact off _ h3
 | .loop c,hw,fr,a,w,Q',Q,hk,hq,h=>by
  simp only [nt] at h
  split at h
  ·exact h.elim
  ·rename_i ls DF
   obtain ⟨dM,h⟩:=iO h
   have dM:=yC dM
   have h':=h (fun iG w'=>∀ a',KF n (iG ++ strip (writes c) fr) a'→KA 1 P c Q a' w') (yo fun iG hf w' vU a' gO=>ajN (
    wQ hP c hw gO (fun e jm a2 w2 h4 h5 h6=>by
     have same:∀ t,t∉writes c→look t jm=look t fr:=fun t ht=>(h5 t ht).trans (Au hf dM ht)
     have off:∀ e,Q' e jm w2→Q e a2 w2:=fun e h7=>hq e jm a2 w2 h4 same h7
     cases e with
     | normal=>exact h6 a2 (vu h4 same)
     | _=>exact off _ h6) vU))
   exact aku (h' a (vu hk (fun _ _=>rfl)))
 | .rangeFunc ..,_,_,_,_,_,_,_,_,h=>(by simp only [nt] at h)
 | .scope c,_,_,_,_,_,_,_,_,h=>(by simp only [nt] at h)
 | .label l,hw,fr,a,w,Q',Q,hk,hq,h=>by
  simp only [nt] at h
  exact wpIn_label (hq _ _ _ _ hk (fun _ _=>rfl) h)
 | .goto _,_,_,_,_,_,_,_,_,h=>(by simp only [nt] at h)
 | .refuse _,_,_,_,_,_,_,_,_,h=>(by simp only [nt] at h)
theorem alL (hP:Good P) {f:FuncId} {fn:Func} (hf:P.funcs[f]? = some fn) {args:List Value} (FI:Nat.ble args.length fn.ntmps=true) {w:World} {R:Value→World→Prop}
  (h:ab0 P m J L fn args w R):OkY P f args w R:=by
 have hlen:args.length≤fn.ntmps:=Nat.le_of_ble_eq_true FI
 unfold ab0 at h
 split at h
 ·rename_i c hc
  obtain ⟨cI,h⟩:=iO h
  refine callsIn_of_wp hf hc trivial (wQ (n:=fn.ntmps) (m:=m) (J:=J) (L:=L) hP c (JD cI) (fr:=wY 0 args) ⟨?_,rfl,fun t v hl=>?_⟩ (fun e aS a' w' hk _ hq=>?_) h)
  ·simp; omega
  ·obtain ⟨_,h2⟩:=JC hl
   have h3:args[t]? = some v:=by simpa using h2
   have h4:t<args.length:=(List.getElem?_eq_some_iff.1 h3).1
   show Array.getD _ t undef=v
   rw [Array.getD_eq_getD_getElem?,Array.getElem?_append_left (by simpa using h4)]
   simp [h3]
  ·cases e with
   | normal=>
    obtain ⟨v,h1,h2⟩:=Cu (fn:=fn) hk hq
    exact ⟨hk.defers,v,h1,v,rfl,h2⟩
   | ret=>
    obtain ⟨v,h1,h2⟩:=Cu (fn:=fn) hk hq
    exact ⟨hk.defers,v,h1,v,rfl,h2⟩
   | _=>exact hq.elim
 ·exact h.elim
#print axioms alL
end Go.Ev
end
section
set_option linter.unusedVariables false
set_option linter.unusedSimpArgs false
namespace Go.Proofs.YtpchgbolambkcaaGreatDoor
open Go Go.Ev
set_option maxRecDepth 20000
set_option linter.unusedVariables false
theorem _root_.Go.Ev.Bytes.TL {w:World} {s:ah} {l:List B8} (h:Bytes w s l) (k:Nat) (hk:k≤l.length):Bytes w ⟨s.a,k,s.c⟩ (l.take k):=by
 have hn:=h.len
 have hc:=h.cap
 refine ⟨by rw [Ra,List.length_take]; show min k l.length=k * 1; omega,by show k≤s.c; omega,fun h0=>h.pre (by have:0<k:=h0; omega),fun i v hv=>?_⟩
 rw [← JO,List.getElem?_take] at hv
 split at hv
 ·exact h.cell i v hv
 ·cases hv
theorem _root_.Go.Ev.Bytes.cut {w:World} {s:ah} {l:List B8} (h:Bytes w s l) (a b:Nat) (UD:a≤b) (hb:b≤l.length):Bytes w ⟨sub s.a a s.c 1,b - a,s.c - a⟩ ((l.drop a).take (b - a)):=by
 have hn:=h.len
 have:=Sl.part h (by omega) a b UD (by omega)
 rw [Nat.mul_one,Nat.mul_one,Zz,JO] at this
 exact this
theorem _root_.Go.Ev.Bytes.aoq {w:World} {s:ah} {l:List B8} (h:Bytes w s l) (a:Nat) (ha:a≤l.length):Bytes w ⟨sub s.a a s.c 1,s.n - a,s.c - a⟩ (l.drop a):=by
 have hn:=h.len
 have:=h.cut a s.n (by omega) (by omega)
 rw [List.take_of_length_le (by rw [List.length_drop]; omega)] at this
 exact this
theorem alM {s:ah} {y:Int} {K:ah→Prop} (k:Nat) (hy:y=(k:Int)) (hk:k≤s.c) (h:∀ z:ah,z.n=k→(∀ w l,Bytes w s l→k≤l.length→Bytes w z (l.take k))→K z):Bt s y K:=by
 subst hy
 exact ⟨⟨by omega,by omega⟩,h ⟨s.a,k,s.c⟩ rfl fun w l hl hk=>hl.TL k hk⟩
theorem alN {s:ah} {x:Int} {K:ah→Prop} (a:Nat) (hx:x=(a:Int)) (ha:a≤s.n) (h:∀ z:ah,z.n=s.n - a→(∀ w l,Bytes w s l→a≤l.length→Bytes w z (l.drop a))→K z):zw 1 s x K:=by
 subst hx
 exact ⟨⟨by omega,by omega⟩,h ⟨sub s.a a s.c 1,s.n - a,s.c - a⟩ rfl fun w l hl ha=>hl.aoq a ha⟩
theorem JP {s:ah} {x y:Int} {K:ah→Prop} (a b:Nat) (hx:x=(a:Int)) (hy:y=(b:Int)) (UD:a≤b) (hb:b≤s.c) (h:∀ z:ah,z.n=b - a→(∀ w l,Bytes w s l→b≤l.length→Bytes w z ((l.drop a).take (b - a)))→K z):Dt 1 s x y K:=by
 subst hx hy
 exact ⟨⟨by omega,by omega,by omega⟩,h ⟨sub s.a a s.c 1,b - a,s.c - a⟩ rfl fun w l hl hb=>hl.cut a b UD hb⟩
end Go.Proofs.YtpchgbolambkcaaGreatDoor
end
section
set_option linter.unusedVariables false
set_option linter.unusedSimpArgs false
namespace Go.Ev
open Go Go.RowKit
set_option linter.unusedVariables false
theorem aq.drop {w0 w:World} {S:List Nat} {L:List aB} (H:aq w0 S w L) (n:Nat):aq w0 S w (L.drop n):=by
 have e:∀ {k:Nat} {s:aB},(L.drop n)[k]? = some s→L[n+k]? = some s:=fun {k s} h=>by rwa [List.getElem?_drop] at h
 exact ⟨H.mod,fun k s hs=>H.ok _ s (e hs),fun k s hs=>H.own _ s (e hs),fun j k s t j6 hs ht=>H.apart (n+j) (n+k) s t (by omega) (e hs) (e ht)⟩
end Go.Ev
namespace Go.Proofs.YtpchgbolambkcaaGreatDoor
open Go Go.Ev
set_option maxRecDepth 20000
set_option linter.unusedVariables false
structure PkS where
 k:Nat
 e1:Nat
 e2:Nat
 du:Nat
 dv:Nat
end Go.Proofs.YtpchgbolambkcaaGreatDoor
end
section
set_option linter.unusedVariables false
set_option linter.unusedSimpArgs false
namespace Go.Proofs.YtpchgbolambkcaaGreatDoor
open Go Go.Ev
set_option maxRecDepth 20000
set_option linter.unusedVariables false
def amI (eta:Nat) (bV:List B8) (from_ many:Nat):List (List Int):=(List.range many).map fun (i:Nat)=>anv (eta:Int) bV (BitVec.ofInt 8 ((from_+i:Nat):Int))
def amJ (fs:List (List Int)):List (List Int):=fs.map anw
end Go.Proofs.YtpchgbolambkcaaGreatDoor
end
section
set_option linter.unusedVariables false
set_option linter.unusedSimpArgs false
namespace Go.Proofs.YtpchgbolambkcaaGreatDoor
open Go Go.Ev
set_option maxRecDepth 20000
set_option linter.unusedVariables false
theorem _root_.Go.Ev.aq.anA {w0 w w':World} {S:List Nat} {L:List aB} (H:aq w0 S w L) (k:Nat) {b:Nat} {cs:List Value} {t:TypeId} (hk:L[k]? = some (.av b cs t)) (m:Mod [] w w') (j:Nat):kept (Addr.add ⟨b,0,none⟩ j) 1 w w':=
 J7 m (by rw [rZ]; exact (H.av k hk).lt) (by simp)
theorem q8 (w w':World):gy w w' .nilIface 0:=⟨.inl ⟨rfl,rfl⟩,fun b hb=>by cases hb⟩
def eK (s:PkS) (g:List B8):List (List Int):=amJ (amI s.e1 (g.drop 32) s.k s.k)
end Go.Proofs.YtpchgbolambkcaaGreatDoor
end
section
set_option linter.unusedVariables false
set_option linter.unusedSimpArgs false
namespace Go.Ev
open Go Go.RowKit
set_option linter.unusedVariables false
def Cut (w:World) (y:ah) (l:List B8):Prop:=(y=⟨none,0,0⟩∧l=[])∨∃ g cur t,y.a=some ⟨g,0,none⟩∧bQ w g cur t∧y.n=l.length∧y.n≤y.c∧(y.c≤maxLen∧t=Go.Proofs.YtpchgbolambkcaaGreatDoor.aM∧(y.c=y.n∧y.c≤cur.length∨y.c=cur.length))∧cur.take y.n=aL l
def aB.cut (y:ah) (l:List B8):aB where
 fp:=y.row
 ok w:=Cut w y l
 iu w w' h k:=by
  rcases k with k | ⟨g,cur,t,h1,h2,h3⟩
  ·exact .inl k
  ·exact .inr ⟨g,cur,t,h1,(h g (by simp [ah.row,h1])).trans h2,h3⟩
 lt w h b hb:=by
  rcases h with ⟨rfl,_⟩ | ⟨g,cur,t,h1,h2,_⟩
  ·simp [ah.row] at hb
  ·simp only [ah.row,h1,List.mem_singleton] at hb
   subst hb
   exact h2.lt
end Go.Ev
namespace Go.Proofs.YtpchgbolambkcaaGreatDoor
open Go Go.Ev
set_option maxRecDepth 20000
set_option linter.unusedVariables false
end Go.Proofs.YtpchgbolambkcaaGreatDoor
end
