/- Texts of this claim, packed and shortened. -/
import Derived.RangeFuncIn
import Derived.Orders
import Derived.ControlIn
import Derived.RangeFuncLeaves
import Derived.RangeFuncSeq
import Derived.TacticsIn
import Derived.KernelRfl
import Derived.Test.YtgjoehgomjgckaaGreatDoorQ2
import Derived.Test.YtgjoehgomjgckaaGreatDoorQ1
section
set_option linter.unusedVariables false
set_option linter.unusedSimpArgs false
namespace Go.Ev
open Go Go.RowKit
variable{P:Program}
theorem zP{f:FuncId}{first cap args:List Value}{w:World}{K:Value->World->Prop}(hb:jB P f=true)(h:ek P f (first++args++cap) w K):qH P (.func (.func f) ⟨first⟩ ⟨cap⟩) args w K:=by
 show cond (jB P f) _ False
 rw[hb];exact h
theorem DI{g:Value}{args:List Value}{w:World}{R K:Value->World->Prop}(h:qH P g args w R)(hk:∀v w',R v w'->K v w'):qH P g args w K:=by
 unfold qH at*
 split at h
 ·rename_i f first cap
  cases hb:jB P f with
  |false=>rw[hb]at h;exact h.elim
  |true=>
   rw[hb]at h
   show ek P f _ w K
   exact an (R:=R) h hk
 ·exact h.elim
def dj(w:World)(s:ag)(ls:List (List Int)):Prop:=∃xs:List ag,Sl w s 1 (xs.map ag.v)/\xs.length=ls.length/\∀(i:Nat) (x:ag) (l:List Int),xs[i]? = some x->ls[i]? = some l->cl w x l
theorem dj.len{w:World}{s:ag}{ls:List (List Int)}(h:dj w s ls):ls.length=s.n:=by
 obtain⟨xs,h1,h2,h3⟩:=h
 have:=h1.len
 simp only[List.length_map]at this
 omega
theorem dj.av{w w':World}{s:ag}{ls:List (List Int)}(h:dj w s ls)(m:Mod [] w w'):dj w' s ls:=by
 obtain⟨xs,h1,h2,h3⟩:=h
 exact⟨xs,h1.av m,h2,λi x l hx hl=>(h3 i x l hx hl).av m⟩
theorem dj.at{w:World}{s:ag}{ls:List (List Int)}(h:dj w s ls){i:Nat}(hi:i<ls.length):∃x:ag,cl w x (ls.getD i [])/\s.a.isSome=true/\w.cell? (Addr.add (base s.a) (i*1))=some (.slice x.a x.n x.c):=by
 have hn:=h.len
 obtain⟨xs,h1,h2,h3⟩:=h
 refine⟨xs[i]'(by omega),h3 i _ _ (by simp[show i<xs.length by omega]) (by simp[hi]),h1.pre (by omega),?_⟩
 rw[Nat.mul_one]
 exact h1.cell i _ (by simp[show i<xs.length by omega,ag.v])
theorem dj.ld{w:World}{s:ag}{ls:List (List Int)}(h:dj w s ls){i:Nat}(hi:i<ls.length){x:Int}(hx:x=(i:Int)){K:ag->Prop}(hk:∀y,cl w y (ls.getD i [])->K y):ij s.a x s.n (az (Addr.add (base s.a) (Int.toNat x*1)) w K):=by
 subst hx
 obtain⟨y,h1,h2,h3⟩:=h.at hi
 have hn:=h.len
 exact⟨⟨h2,by omega,by omega⟩,y,by rw[Int.toNat_natCast];exact h3,hk y h1⟩
end Go.Ev
namespace Go.Proofs.YtgjoehgomjgckaaGreatDoor
open Go Go.Ev
set_option maxRecDepth 20000
set_option linter.unusedVariables false
def LF(w:World)(g:Value)(p:Int->Bool):Prop:=∀(x:Int) (w':World),Mod [] w w'->qH Pr g [.int .i64 x] w' λv bS=>v=.bool (p x)/\Mod [] w' bS
theorem vv{A:Type}(p:A->Bool)(l:List A)(i:Nat)(h:i<l.length)(d:A):(l.take (i+1)).any p=((l.take i).any p||p (l.getD i d)):=by
 rw[ic _ _ h d,List.any_append];simp
theorem vw{A:Type}(p:A->Bool)(l:List A)(i:Nat)(h:i<l.length)(d:A)(hp:p (l.getD i d)=true):l.any p=true:=by
 rw[List.any_eq_true]
 exact⟨l[i],List.getElem_mem h,by simpa[List.getD_eq_getElem?_getD,h]using hp⟩
theorem XV(g:Value)(p:Int->Bool)(x:ag)(l:List Int)(hl:l.length<=1000000000)(w:World)(hx:cl w x l)(hg:LF w g p):
  Ok Pr JB [.slice x.a x.n x.c,g] w λv w'=>∃z:Int,v=.int .i64 z/\decide (0<=z)=l.any p/\Mod [] w w':=by
 refine aC Tryz.func148 (L:=[(2,[(8,.int .i64)])]) ?_
 have aT:=hx.len
 refine bG 0 l.length (λi w'=>(l.take i).any p=false/\Mod [] w w') rfl (by omega) ⟨rfl,Mod.refl _ _⟩ ?_ ?_
 ·rintro again i w1 _ hi ⟨hn,m⟩ aB
  refine ite_true (decide_eq_true (by omega)) ((hx.av m).ld (i:=i) hi rfl (DI (hg _ w1 m) ?_))
  rintro _ w2 ⟨rfl,m2⟩
  refine aN (aZ (λhc=>?_) (λhc=>?_))
  ·exact⟨_,rfl,by rw[vw p l i hi 0 hc];exact decide_eq_true (by omega),m.trans m2⟩
  ·exact⟨⟨by omega,by omega⟩,aB w2 ⟨by rw[vv p l i hi 0,hn,hc];rfl,m.trans m2⟩⟩
 ·rintro again w1 ⟨hn,m⟩
  rw[List.take_of_length_le (Nat.le_refl _)]at hn
  exact ite_false (decide_eq_false (by omega)) ⟨_,rfl,by rw[hn];rfl,m⟩
theorem XT(g:Value)(p:Int->Bool)(x:ag)(l:List Int)(hl:l.length<=1000000000)(w:World)(hx:cl w x l)(hg:LF w g p):
  Ok Pr Jz [.slice x.a x.n x.c,g] w λv w'=>v=.bool (l.any p)/\Mod [] w w':=by
 refine OP ?_
 unfold JA
 refine an (XV g p x l hl w hx hg) ?_
 rintro _ w1 ⟨z,rfl,hz,m⟩
 exact bH ⟨by rw[hz],m⟩
def nrm(x:Int):Int:=min (x%8380417) (8380417 - x%8380417)
def ake(t:Int)(l:List Int):Int:=l.foldl (λt x=>max t (nrm x)) t
def VF(ls:List (List Int)):Int:=ls.foldl ake 0
theorem ZI{A B:Type}(f:B->A->B)(b:B)(l:List A)(i:Nat)(h:i<l.length)(d:A):(l.take (i+1)).foldl f b=f ((l.take i).foldl f b) (l.getD i d):=by
 rw[ic _ _ h d,List.foldl_append];rfl
end Go.Proofs.YtgjoehgomjgckaaGreatDoor
end
section
set_option linter.unusedVariables false
set_option linter.unusedSimpArgs false
namespace Go.Ev
open Go Go.RowKit
variable{P:Program}
def aA.box(fp:List Nat)(Q:World->Prop):aA where
 fp:=fp
 ok w:=(∀b∈fp,b<w.heap.size)/\∀w',(∀b∈fp,w'.heap[b]? = w.heap[b]?)->Q w'
 gV w w' h k:=⟨λb hb=>by
   have h1:=k.1 b hb
   have h2:=h b hb
   rw[Array.getElem?_eq_getElem h1]at h2
   exact(Array.getElem?_eq_some_iff.1 h2).1,λw2 h2=>k.2 w2 λb hb=>(h2 b hb).trans (h b hb)⟩
 lt w h:=h.1
theorem bp.au{w:World}{b i:Nat}{cs:List Value}{t:TypeId}(h:bp w b cs t){a:Addr}{q:IntKind}{n:Int}{K:Int->Prop}(ha:a=⟨b,i,none⟩)(hv:cs[i]? = some (.int q n))(hk:K n):au q a w K:=⟨n,by rw[ha,h.cell];exact hv,hk⟩
theorem bp.az{w:World}{b i:Nat}{cs:List Value}{t:TypeId}(h:bp w b cs t){a:Addr}{n:ag}{K:ag->Prop}(ha:a=⟨b,i,none⟩)(hv:cs[i]? = some (.slice n.a n.n n.c))(hk:K n):az a w K:=⟨n,by rw[ha,h.cell];exact hv,hk⟩
section
variable{w0 w w':World}{S:List Nat}{L:List aA}{Q Q':World->Prop}
theorem ah.box(H:ah w0 S w L)(k:Nat){fp:List Nat}(hk:L[k]? = some (.box fp Q)):Q w:=(H.get k hk).2 w λ_ _=>rfl
def dU(w w':World)(Q:World->Prop):Prop:=Mod [] w w'/\∃fp,(∀b∈fp,w.heap.size<=b)/\(aA.box fp Q).ok w'
theorem dU.mod(h:dU w w' Q):Mod [] w w':=h.1
theorem dU.mono(h:dU w w' Q)(hq:∀w,Q w->Q' w):dU w w' Q':=by
 obtain⟨m,fp,h1,h2⟩:=h
 exact⟨m,fp,h1,h2.1,λw2 h3=>hq _ (h2.2 w2 h3)⟩
theorem dU.now(h:dU w w' Q):Q w':=by
 obtain⟨m,fp,h1,h2⟩:=h
 exact h2.2 w' λ_ _=>rfl
theorem ah.dz(H:ah w0 S w L)(h:dU w w' Q):∃fp,ah w0 S w' (L++[.box fp Q]):=by
 obtain⟨m,fp,h1,h2⟩:=h
 exact⟨fp,H.push m h2 h1⟩
theorem ah.boxed(H:ah w0 [] w L)(hQ:∀w',(∀(k:Nat) (r:aA),L[k]? = some r->r.ok w')->Q w'):dU w0 w Q:=by
 refine⟨H.mod,L.flatMap (·.fp),λb hb=>?_,λb hb=>?_,λw' h=>hQ w' λk r hk=>?_⟩
 ·obtain⟨r,hr,Fv⟩:=List.mem_flatMap.1 hb
  obtain⟨k,hk⟩:=List.getElem?_of_mem hr
  exact(H.own k r hk b Fv).resolve_left (by simp)
 ·obtain⟨r,hr,Fv⟩:=List.mem_flatMap.1 hb
  obtain⟨k,hk⟩:=List.getElem?_of_mem hr
  exact r.lt w (H.ok k r hk) b Fv
 ·exact r.gV w w' (λb hb=>h b (List.mem_flatMap.2 ⟨r,List.mem_of_getElem? hk,hb⟩)) (H.ok k r hk)
theorem dU.yf{e:TypeId}{sz:Nat}{y:ag}{vs:List Value}(h:Own w' w.heap.size e sz y vs)(m:Mod [] w w')(hq:∀w2,Own w2 0 e sz y vs->Q w2):dU w w' Q:=
 ((ah.start w).bg m h).boxed λw2 k=>hq w2 (k 0 _ rfl)
theorem ah.merge(H:ah w0 S w L)(j k:Nat){r s t:aA}(hj:L[j]? = some r)(hk:L[k]? = some s)(je:j≠k)(ht:r.ok w->s.ok w->t.ok w)(hf:∀b∈t.fp,b∈r.fp\/b∈s.fp):ah w0 S w ((L.set k .no).set j t):=by
 have H1:=H.ajf k hk
 have hjl:j<L.length:=(List.getElem?_eq_some_iff.1 hj).1
 have mX:(L.set k .no)[j]? = some r:=by rw[List.getElem?_set_ne (by omega)];exact hj
 have e:∀ {i:Nat} {u:aA},((L.set k .no).set j t)[i]? = some u->(i=j/\u=t)\/(i≠j/\(L.set k .no)[i]? = some u):=λ{i u} h=>by
  rw[List.getElem?_set]at h
  split at h
  ·rename_i e
   split at h
   ·exact .inl ⟨e.symm,(Option.some.inj h).symm⟩
   ·cases h
  ·rename_i hn;exact .inr ⟨λh'=>hn h'.symm,h⟩
 have other:∀ {i:Nat} {u:aA},i≠j->(L.set k .no)[i]? = some u->∀b∈u.fp,b∉t.fp:=λ{i u} wU hu b hb hbt=>by
  rcases hf b hbt with h|h
  ·exact H1.apart i j u r wU hu mX b hb h
  ·by_cases Jf:i=k
   ·subst Jf
    rw[List.getElem?_set_self (by have:=(List.getElem?_eq_some_iff.1 hk).1;omega)]at hu
    cases hu;cases hb
   ·rw[List.getElem?_set_ne (by omega)]at hu
    exact H.apart i k u s Jf hu hk b hb h
 refine⟨H.mod,λi u hu=>?_,λi u hu b hb=>?_,λi i2 u v hii hu hv b hb gZ=>?_⟩
 ·rcases e hu with ⟨_,rfl⟩|⟨_,h⟩
  ·exact ht (H.ok j r hj) (H.ok k s hk)
  ·exact H1.ok i u h
 ·rcases e hu with ⟨_,rfl⟩|⟨_,h⟩
  ·rcases hf b hb with h|h
   ·exact H.own j r hj b h
   ·exact H.own k s hk b h
  ·exact H1.own i u h b hb
 ·rcases e hu with ⟨h1,rfl⟩|⟨h1,h⟩
  ·rcases e hv with ⟨h2,rfl⟩|⟨h2,h'⟩
   ·omega
   ·exact other h2 h' b gZ hb
  ·rcases e hv with ⟨h2,rfl⟩|⟨h2,h'⟩
   ·exact other h1 h b hb gZ
   ·exact H1.apart i i2 u v hii h h' b hb gZ
theorem ah.front{L2:List aA}(H:ah w0 S w (L++L2)):ah w0 S w L:=by
 have:=H.take L.length
 rwa [List.take_left]at this
theorem ah.less(H:ah w0 S w L)(k:Nat){r s:aA}(hk:L[k]? = some r)(hs:s.ok w)(hf:∀b∈s.fp,b∈r.fp):ah w0 S w (L.set k s):=
 H.iq k hk (Mod.refl [] w) (λb hb=>by cases hb) hs λb hb=>.inl (hf b hb)
end
def aM{A:Type}(E:World->ag->A->Prop)(w:World)(xs:List ag)(ls:List A):Prop:=xs.length=ls.length/\∀(i:Nat) (x:ag) (l:A),xs[i]? = some x->ls[i]? = some l->E w x l
def nT{A:Type}(E:World->ag->A->Prop)(w:World)(s:ag)(ls:List A):Prop:=∃xs:List ag,Sl w s 1 (xs.map ag.v)/\aM E w xs ls
theorem vO{w:World}{s:ag}{ls:List (List Int)}(h:nT cl w s ls):dj w s ls:=by
 obtain⟨xs,h1,h2,h3⟩:=h
 exact⟨xs,h1,h2,h3⟩
theorem aM.append{A:Type}{E:World->ag->A->Prop}{w:World}{xs ys:List ag}{ls ms:List A}(h:aM E w xs ls)(k:aM E w ys ms):aM E w (xs++ys) (ls++ms):=by
 obtain⟨h1,h2⟩:=h
 obtain⟨k1,k2⟩:=k
 refine⟨by simp[h1,k1],λi x a hx ha=>?_⟩
 rcases Nat.lt_or_ge i xs.length with hi|hi
 ·rw[List.getElem?_append_left hi]at hx
  rw[List.getElem?_append_left (by omega)]at ha
  exact h2 i x a hx ha
 ·rw[List.getElem?_append_right hi]at hx
  rw[List.getElem?_append_right (by omega),<- h1]at ha
  exact k2 _ x a hx ha
section
variable{A:Type}{E:World->ag->A->Prop}
theorem nT.len{w:World}{s:ag}{ls:List A}(h:nT E w s ls):ls.length=s.n:=by
 obtain⟨xs,h1,h2,h3⟩:=h
 have:=h1.len
 simp only[List.length_map]at this
 omega
theorem nT.av(hE:∀ {w w' x l},Mod [] w w'->E w x l->E w' x l){w w':World}{s:ag}{ls:List A}(h:nT E w s ls)(m:Mod [] w w'):nT E w' s ls:=by
 obtain⟨xs,h1,h2,h3⟩:=h
 exact⟨xs,h1.av m,h2,λi x l hx hl=>hE m (h3 i x l hx hl)⟩
theorem nT.ld{w:World}{s:ag}{ls:List A}(h:nT E w s ls){i:Nat}(hi:i<ls.length){x:Int}(hx:x=(i:Int)){d:A}{K:ag->Prop}(hk:∀y,E w y (ls.getD i d)->K y):ij s.a x s.n (az (Addr.add (base s.a) (Int.toNat x*1)) w K):=by
 subst hx
 have hn:=h.len
 obtain⟨xs,h1,h2,h3⟩:=h
 refine⟨⟨h1.pre (by omega),by omega,by omega⟩,xs[i]'(by omega),?_,hk _ (h3 i _ _ (by simp[show i<xs.length by omega]) (by simp[hi]))⟩
 rw[Int.toNat_natCast,Nat.mul_one]
 exact h1.cell i _ (by simp[show i<xs.length by omega,ag.v])
def fD(E:World->ag->A->Prop)(te:TypeId)(w0:World)(S:List Nat)(L:List aA)(w:World)(out:ag)(ls:List A):Prop:=
 ∃xs fp,ah w0 S w (L++[.row te 1 out (xs.map ag.v),.box fp λw=>aM E w xs ls])
variable{te:TypeId}{w0 w w':World}{S:List Nat}{L:List aA}{out:ag}{ls:List A}
theorem fD.start(H:ah w0 S w L):fD E te w0 S L w ⟨none,0,0⟩ []:=by
 refine⟨[],[],?_⟩
 have H1:=H.dy te 1
 have H2:=H1.push (r:=.box [] λw=>aM E w [] ([]:List A)) (Mod.refl [] w) ⟨λb hb=>(by cases hb),λw' _=>⟨rfl,λi x l h=>(by simp at h)⟩⟩ (λb hb=>(by cases hb))
 rw[List.append_assoc]at H2
 exact H2
theorem fD.front(h:fD E te w0 S L w out ls):ah w0 S w L:=by
 obtain⟨xs,fp,H⟩:=h
 exact H.front
theorem fD.mod(h:fD E te w0 S L w out ls):Mod S w0 w:=h.front.mod
theorem fD.frame(h:fD E te w0 S L w out ls)(m:Mod [] w w'):fD E te w0 S L w' out ls:=by
 obtain⟨xs,fp,H⟩:=h
 exact⟨xs,fp,H.frame m⟩
theorem fD.vec(h:fD E te w0 S L w out ls):nT E w out ls:=by
 obtain⟨xs,fp,H⟩:=h
 refine⟨xs,H.cG L.length (by rw[List.getElem?_append_right (Nat.le_refl _),Nat.sub_self];rfl),?_⟩
 exact(H.box (L.length+1) (by rw[List.getElem?_append_right (by omega),Nat.add_sub_cancel_left];rfl):aM E w xs ls)
theorem fD.len(h:fD E te w0 S L w out ls):ls.length=out.n:=h.vec.len
theorem fD.boxed(h:fD E te w0 [] L w out ls):dU w0 w λw=>nT E w out ls:=by
 obtain⟨xs,fp,H⟩:=h
 refine H.boxed λw' k=>?_
 have h1:Own w' 0 te 1 out (xs.map ag.v):=k L.length _ (by rw[List.getElem?_append_right (Nat.le_refl _),Nat.sub_self];rfl)
 have h2:(aA.box fp λw=>aM E w xs ls).ok w':=k (L.length+1) _ (by rw[List.getElem?_append_right (by omega),Nat.add_sub_cancel_left];rfl)
 exact⟨xs,h1.sl,h2.2 w' λ_ _=>rfl⟩
theorem fD.add(h:fD E te w0 S L w out ls){y:ag}{l:A}(hb:dU w w' λw=>E w y l){t ty t1:TypeId}{K:ag->World->Prop}(bO:ew P t te 1 24)(hl:ls.length<=1000000)
  (hk:∀fJ bS,fD E te w0 S L bS fJ (ls++[l])->K fJ bS):Ev.nw t1 [.slice y.a y.n y.c] w' λp w5=>jc P [t,t] ty [.slice out.a out.n out.c,.slice (some p) 1 1] w5 K:=by
 have hlen:=h.len
 obtain⟨xs,fp,H⟩:=h
 obtain⟨m,de,NW,cI⟩:=hb
 have H1:ah w0 S w' ((L++[.row te 1 out (xs.map ag.v),.box fp λw=>aM E w xs ls])++[.box de λw=>E w y l]):=H.push m cI NW
 rw[List.append_assoc]at H1
 have g0:∀ {M:List aA} {r:aA},(L++r::M)[L.length]? = some r:=λ{M r}=>by rw[List.getElem?_append_right (Nat.le_refl _),Nat.sub_self];rfl
 have g1:∀ {M:List aA} {r s:aA},(L++r::s::M)[L.length+1]? = some s:=λ{M r s}=>by rw[List.getElem?_append_right (by omega),Nat.add_sub_cancel_left];rfl
 have g2:∀ {M:List aA} {r s t:aA},(L++r::s::t::M)[L.length+2]? = some t:=λ{M r s t}=>by rw[List.getElem?_append_right (by omega),Nat.add_sub_cancel_left];rfl
 have H2:=H1.merge (L.length+1) (L.length+2) (t:=.box (fp++de) λw=>aM E w (xs++[y]) (ls++[l])) g1 g2 (by omega) (λh1 h2=>?_) (λb hb=>List.mem_append.1 hb)
 ·have e:(((L++[aA.row te 1 out (xs.map ag.v),aA.box fp λw=>aM E w xs ls]++[aA.box de λw=>E w y l]).set (L.length+2) aA.no).set (L.length+1) (aA.box (fp++de) λw=>aM E w (xs++[y]) (ls++[l]))) =
    (L++[aA.row te 1 out (xs.map ag.v),aA.box (fp++de) λw=>aM E w (xs++[y]) (ls++[l])])++[aA.no]:=by
   rw[List.append_assoc,List.set_append_right _ _ (by omega),Nat.add_sub_cancel_left,List.set_append_right _ _ (by omega),Nat.add_sub_cancel_left,List.append_assoc]
   rfl
  rw[List.append_assoc]at e
  rw[e]at H2
  have H3:=H2.front
  refine H3.uL L.length bO g0 rfl (by intro u hu;rw[List.mem_singleton.1 hu];rfl) (by omega) (by omega) λfJ bS H4 _=>hk fJ bS ⟨xs++[y],fp++de,?_⟩
  rw[List.set_append_right _ _ (Nat.le_refl _),Nat.sub_self,List.set_cons_zero]at H4
  rw[List.map_append]
  exact H4
 ·refine⟨λb hb=>?_,λw2 h3=>?_⟩
  ·rcases List.mem_append.1 hb with h|h
   ·exact h1.1 b h
   ·exact h2.1 b h
  ·obtain⟨k1,k2⟩:=h1.2 w2 λb hb=>h3 b (List.mem_append_left _ hb)
   have k3:=h2.2 w2 λb hb=>h3 b (List.mem_append_right _ hb)
   refine⟨by simp[k1],λi x a hx ha=>?_⟩
   rcases Nat.lt_or_ge i xs.length with hi|hi
   ·rw[List.getElem?_append_left hi]at hx
    rw[List.getElem?_append_left (by omega)]at ha
    exact k2 i x a hx ha
   ·rw[List.getElem?_append_right hi]at hx
    rw[List.getElem?_append_right (by omega),<- k1]at ha
    rcases Nat.eq_zero_or_pos (i - xs.length)with h|h
    ·rw[h]at hx ha
     simp only[List.getElem?_cons_zero,Option.some.injEq]at hx ha
     subst hx ha;exact k3
    ·rw[List.getElem?_eq_none (by simp;omega)]at hx;cases hx
end
end Go.Ev
end
section
set_option linter.unusedVariables false
set_option linter.unusedSimpArgs false
namespace Go.Ev
open Go Go.RowKit
set_option linter.unusedVariables false
section
variable{A:Type}{C:A->ag->List Value}{sz:Nat}{E:World->ag->A->Prop}
def aO(C:A->ag->List Value)(ls:List A)(xs:List ag):List Value:=(List.zipWith C ls xs).flatten
theorem gw(hC:∀a x,(C a x).length=sz):∀(ls:List A) (xs:List ag),xs.length=ls.length->(aO C ls xs).length=ls.length*sz
 |[],xs,_=>by simp[aO]
 |a::ls,[],h=>by simp at h
 |a::ls,x::xs,h=>by
  have ih:=gw hC ls xs (by simpa using h)
  unfold aO at*
  rw[List.zipWith_cons_cons,List.flatten_cons,List.length_append,ih,hC,List.length_cons,Nat.succ_mul]
  omega
theorem rA(a:A)(x:ag)(ls:List A)(xs:List ag):aO C (a::ls) (x::xs)=C a x++aO C ls xs:=by
 unfold aO;rw[List.zipWith_cons_cons,List.flatten_cons]
theorem Hu(hC:∀a x,(C a x).length=sz):∀(ls:List A) (xs:List ag) (i j:Nat) (a:A) (x:ag),ls[i]? = some a->xs[i]? = some x->j<sz->(aO C ls xs)[i*sz+j]? = (C a x)[j]?
 |[],_,_,_,_,_,h,_,_=>by simp at h
 |_::_,[],_,_,_,_,_,h,_=>by simp at h
 |b::ls,y::xs,0,j,a,x,h1,h2,hj=>by
  simp only[List.getElem?_cons_zero,Option.some.injEq]at h1 h2
  subst h1 h2
  rw[rA,Nat.zero_mul,Nat.zero_add,List.getElem?_append_left (by rw[hC];exact hj)]
 |b::ls,y::xs,i+1,j,a,x,h1,h2,hj=>by
  rw[List.getElem?_cons_succ]at h1 h2
  rw[rA,List.getElem?_append_right (by rw[hC,Nat.succ_mul];omega),hC,show(i+1)*sz+j - sz=i*sz+j by rw[Nat.succ_mul];omega]
  exact Hu hC ls xs i j a x h1 h2 hj
theorem rD(hC:∀a x,(C a x).length=sz):∀(ls:List A) (xs:List ag) (i j:Nat) (a b:A) (x y:ag) (v:Value),ls[i]? = some a->xs[i]? = some x->j<sz->C b y=(C a x).set j v->(aO C ls xs).set (i*sz+j) v=aO C (ls.set i b) (xs.set i y)
 |[],_,_,_,_,_,_,_,_,h,_,_,_=>by simp at h
 |_::_,[],_,_,_,_,_,_,_,_,h,_,_=>by simp at h
 |b'::ls,y'::xs,0,j,a,b,x,y,v,h1,h2,hj,hv=>by
  simp only[List.getElem?_cons_zero,Option.some.injEq]at h1 h2
  subst h1 h2
  rw[rA,Nat.zero_mul,Nat.zero_add,List.set_append_left _ _ (by rw[hC];exact hj),<- hv,List.set_cons_zero,List.set_cons_zero,rA]
 |b'::ls,y'::xs,i+1,j,a,b,x,y,v,h1,h2,hj,hv=>by
  rw[List.getElem?_cons_succ]at h1 h2
  rw[rA,List.set_append_right _ _ (by rw[hC,Nat.succ_mul];omega),hC,show(i+1)*sz+j - sz=i*sz+j by rw[Nat.succ_mul];omega,
   rD hC ls xs i j a b x y v h1 h2 hj hv,List.set_cons_succ,List.set_cons_succ,rA]
theorem vG(hl:List A)(hx:List ag)(h:hx.length=hl.length)(ms:List A)(ys:List ag):aO C (hl++ms) (hx++ys)=aO C hl hx++aO C ms ys:=by
 unfold aO;rw[List.zipWith_append h.symm,List.flatten_append]
theorem sJ(a:A)(x:ag):aO C [a] [x]=C a x:=by simp[aO]
theorem ug(h1:∀a x,∀v∈C a x,dQ v=true):∀(ls:List A) (xs:List ag),∀v∈aO C ls xs,dQ v=true
 |[],_,v,hv=>by simp[aO]at hv
 |_::_,[],v,hv=>by simp[aO]at hv
 |a::ls,x::xs,v,hv=>by
  rw[rA]at hv
  rcases List.mem_append.1 hv with h|h
  ·exact h1 a x v h
  ·exact ug h1 ls xs v h
def Dv(C:A->ag->List Value)(sz:Nat)(E:World->ag->A->Prop)(w:World)(s:ag)(ls:List A):Prop:=∃xs:List ag,Sl w s sz (aO C ls xs)/\aM E w xs ls
theorem aM.av(hE:∀ {w w' x l},Mod [] w w'->E w x l->E w' x l){w w':World}{xs:List ag}{ls:List A}(h:aM E w xs ls)(m:Mod [] w w'):aM E w' xs ls:=⟨h.1,λi x l hx hl=>hE m (h.2 i x l hx hl)⟩
theorem Dv.av(hE:∀ {w w' x l},Mod [] w w'->E w x l->E w' x l){w w':World}{s:ag}{ls:List A}(h:Dv C sz E w s ls)(m:Mod [] w w'):Dv C sz E w' s ls:=by
 obtain⟨xs,h1,h2⟩:=h
 exact⟨xs,h1.av m,aM.av (E:=E) (λm h=>hE m h) h2 m⟩
theorem Dv.nil(w:World):Dv C sz E w ⟨none,0,0⟩ []:=⟨[],Sl.nil w sz,rfl,λi x l h=>by simp at h⟩
theorem Dv.len(hC:∀a x,(C a x).length=sz)(hs:0<sz){w:World}{s:ag}{ls:List A}(h:Dv C sz E w s ls):ls.length=s.n:=by
 obtain⟨xs,h1,h2⟩:=h
 have h3:=h1.len
 rw[gw hC ls xs h2.1]at h3
 exact Nat.eq_of_mul_eq_mul_right hs h3
theorem Sl.oH(hC:∀a x,(C a x).length=sz){w:World}{s:ag}{ls:List A}{xs:List ag}(h:Sl w s sz (aO C ls xs)){i j:Nat}{a:A}{x:ag}{v:Value}(ha:ls[i]? = some a)(hx:xs[i]? = some x)(hv:(C a x)[j]? = some v):w.cell? (Addr.add (Addr.add (base s.a) (i*sz)) j)=some v:=by
 rw[add_add]
 refine h.cell _ _ ?_
 have hj:j<sz:=by
  rw[<- hC a x]
  exact(List.getElem?_eq_some_iff.1 hv).1
 rw[Hu hC ls xs i j a x ha hx hj]
 exact hv
theorem Dv.at(hC:∀a x,(C a x).length=sz)(hs:0<sz){w:World}{s:ag}{ls:List A}(h:Dv C sz E w s ls){i:Nat}{a:A}(ha:ls[i]? = some a):
  (s.a.isSome=true/\(0:Int)<=(i:Int)/\(i:Int)<(s.n:Int))/\∃x:ag,E w x a/\∀(j:Nat) (v:Value),(C a x)[j]? = some v->w.cell? (Addr.add (Addr.add (base s.a) (Int.toNat (i:Int)*sz)) j)=some v:=by
 have hl:=h.len hC hs
 have hi:=(List.getElem?_eq_some_iff.1 ha).1
 obtain⟨xs,h1,h2⟩:=h
 have hx:xs[i]? = some (xs[i]'(by rw[h2.1];exact hi)):=List.getElem?_eq_getElem _
 refine⟨⟨h1.pre (by omega),by omega,by omega⟩,_,h2.2 i _ a hx ha,λj v hv=>?_⟩
 rw[Int.toNat_natCast]
 exact h1.oH hC ha hx hv
def gI(C:A->ag->List Value)(sz:Nat)(E:World->ag->A->Prop)(te:TypeId)(w0:World)(S:List Nat)(L:List aA)(w:World)(s:ag)(ls:List A)(xs:List ag)(i:Nat):Prop:=
 ∃ys fp,ys.length=i/\ah w0 S w (L++[.row te sz s (aO C ls (ys++xs.drop i)),.box fp λw=>aM E w ys (ls.take i)])
variable{te:TypeId}{w0 w w':World}{S:List Nat}{L:List aA}{s:ag}{ls:List A}{xs:List ag}{i:Nat}
theorem gI.start(H:ah w0 S w (L++[.row te sz s (aO C ls xs)])):gI C sz E te w0 S L w s ls xs 0:=by
 refine⟨[],[],rfl,?_⟩
 have H2:=H.push (r:=.box [] λw=>aM E w [] ([]:List A)) (Mod.refl [] w) ⟨λb hb=>(by cases hb),λw' _=>⟨rfl,λi x l h=>(by simp at h)⟩⟩ (λb hb=>(by cases hb))
 rw[List.append_assoc]at H2
 exact H2
theorem gI.front(h:gI C sz E te w0 S L w s ls xs i):ah w0 S w L:=by
 obtain⟨ys,fp,_,H⟩:=h
 exact H.front
theorem gI.frame(h:gI C sz E te w0 S L w s ls xs i)(m:Mod [] w w'):gI C sz E te w0 S L w' s ls xs i:=by
 obtain⟨ys,fp,hy,H⟩:=h
 exact⟨ys,fp,hy,H.frame m⟩
theorem At{M:List aA}{r:aA}:(L++r::M)[L.length]? = some r:=by rw[List.getElem?_append_right (Nat.le_refl _),Nat.sub_self];rfl
theorem M1{M:List aA}{r t:aA}:(L++r::t::M)[L.length+1]? = some t:=by rw[List.getElem?_append_right (by omega),Nat.add_sub_cancel_left];rfl
theorem V9{M:List aA}{r t u:aA}:(L++r::t::u::M)[L.length+2]? = some u:=by rw[List.getElem?_append_right (by omega),Nat.add_sub_cancel_left];rfl
theorem gI.at(hC:∀a x,(C a x).length=sz)(hs:0<sz)(h:gI C sz E te w0 S L w s ls xs i)(hx:xs.length=ls.length){a:A}{x:ag}(ha:ls[i]? = some a)(cu:xs[i]? = some x):
  (s.a.isSome=true/\(0:Int)<=(i:Int)/\(i:Int)<(s.n:Int))/\∀(j:Nat) (v:Value),(C a x)[j]? = some v->w.cell? (Addr.add (Addr.add (base s.a) (Int.toNat (i:Int)*sz)) j)=some v:=by
 obtain⟨ys,fp,hy,H⟩:=h
 have h1:=H.cG L.length At
 have hi:=(List.getElem?_eq_some_iff.1 ha).1
 have hl:=h1.len
 rw[gw hC _ _ (by rw[List.length_append,List.length_drop];omega)]at hl
 have hl:=Nat.eq_of_mul_eq_mul_right hs hl
 refine⟨⟨h1.pre (by omega),by omega,by omega⟩,λj v hv=>?_⟩
 rw[Int.toNat_natCast]
 exact h1.oH hC ha (by rw[List.getElem?_append_right (by omega),hy,Nat.sub_self,List.getElem?_drop,Nat.add_zero];exact cu) hv
theorem aM.snoc{xs:List ag}{ls:List A}{y:ag}{l:A}(h:aM E w xs ls)(k:E w y l):aM E w (xs++[y]) (ls++[l]):=
 h.append ⟨rfl,λi x a hx ha=>by
  cases i with
  |zero=>
   simp only[List.getElem?_cons_zero,Option.some.injEq]at hx ha
   subst hx ha;exact k
  |succ i=>simp at hx⟩
theorem gI.step(hC:∀a x,(C a x).length=sz)(h:gI C sz E te w0 S L w s ls xs i)(hx:xs.length=ls.length){a:A}{x z:ag}(ha:ls[i]? = some a)(cu:xs[i]? = some x)(hb:dU w w' λw=>E w z a){j:Nat}(hj:j<sz)(hz:C a z=(C a x).set j z.v){K:World->Prop}
  (hk:∀w2,gI C sz E te w0 S L w2 s ls xs (i+1)->K w2):st (Addr.add (Addr.add (base s.a) (Int.toNat (i:Int)*sz)) j) (.slice z.a z.n z.c) w' K:=by
 obtain⟨ys,fp,hy,H⟩:=h
 obtain⟨m,de,NW,cI⟩:=hb
 have hi:=(List.getElem?_eq_some_iff.1 ha).1
 have Fw:(ys++xs.drop i).length=ls.length:=by rw[List.length_append,List.length_drop];omega
 have M3:(ys++xs.drop i)[i]? = some x:=by rw[List.getElem?_append_right (by omega),hy,Nat.sub_self,List.getElem?_drop,Nat.add_zero];exact cu
 have nI:(ys++xs.drop i).set i z=(ys++[z])++xs.drop (i+1):=by
  rw[List.set_append_right _ _ (by omega),hy,Nat.sub_self,List.drop_eq_getElem_cons (by omega),List.set_cons_zero,List.append_assoc];rfl
 have NY:ls.take (i+1)=ls.take i++[a]:=by
  rw[List.take_add_one,ha];rfl
 have H1:ah w0 S w' ((L++[.row te sz s (aO C ls (ys++xs.drop i)),.box fp λw=>aM E w ys (ls.take i)])++[.box de λw=>E w z a]):=H.push m cI NW
 rw[List.append_assoc]at H1
 have H2:=H1.merge (L.length+1) (L.length+2) (t:=.box (fp++de) λw=>aM E w (ys++[z]) (ls.take (i+1))) M1 V9 (by omega) (λh1 h2=>?_) (λb hb=>List.mem_append.1 hb)
 ·have e:(((L++([aA.row te sz s (aO C ls (ys++xs.drop i)),aA.box fp λw=>aM E w ys (ls.take i)]++[aA.box de λw=>E w z a])).set (L.length+2) aA.no).set (L.length+1) (aA.box (fp++de) λw=>aM E w (ys++[z]) (ls.take (i+1)))) =
    (L++[aA.row te sz s (aO C ls (ys++xs.drop i)),aA.box (fp++de) λw=>aM E w (ys++[z]) (ls.take (i+1))])++[aA.no]:=by
   rw[List.set_append_right _ _ (by omega),Nat.add_sub_cancel_left,List.set_append_right _ _ (by omega),Nat.add_sub_cancel_left,List.append_assoc]
   rfl
  rw[e]at H2
  have H3:=H2.front
  refine H3.gx L.length (i:=i*sz+j) (v:=z.v) At (by rw[add_add,Int.toNat_natCast]) ?_ rfl λw2 H4=>hk w2 ⟨ys++[z],fp++de,by simp[hy],?_⟩
  ·rw[gw hC _ _ Fw]
   have:=Nat.mul_le_mul_right sz (show i+1<=ls.length from hi)
   rw[Nat.succ_mul]at this
   omega
  ·rw[List.set_append_right _ _ (Nat.le_refl _),Nat.sub_self,List.set_cons_zero,rD hC ls (ys++xs.drop i) i j a a x z z.v ha M3 hj hz,nI]at H4
   have e2:ls.set i a=ls:=by
    refine List.ext_getElem? λk=>?_
    rw[List.getElem?_set]
    by_cases h:i=k
    ·subst h;rw[if_pos rfl,if_pos hi,ha]
    ·rw[if_neg h]
   rw[e2]at H4
   exact H4
 ·refine⟨λb hb=>?_,λw2 h3=>?_⟩
  ·rcases List.mem_append.1 hb with h|h
   ·exact h1.1 b h
   ·exact h2.1 b h
  ·rw[NY]
   exact aM.snoc (h1.2 w2 λb hb=>h3 b (List.mem_append_left _ hb)) (h2.2 w2 λb hb=>h3 b (List.mem_append_right _ hb))
theorem gI.done(h:gI C sz E te w0 S L w s ls xs i)(hi:ls.length=i)(hx:xs.length=ls.length):∃ys fp,ah w0 S w (L++[.row te sz s (aO C ls ys),.box fp λw=>aM E w ys ls]):=by
 obtain⟨ys,fp,hy,H⟩:=h
 rw[List.take_of_length_le (by omega),List.drop_of_length_le (by omega),List.append_nil]at H
 exact⟨ys,fp,H⟩
end
end Go.Ev
end
section
set_option linter.unusedVariables false
set_option linter.unusedSimpArgs false
namespace Go.Proofs.YtgjoehgomjgckaaGreatDoor
open Go Go.Ev
set_option maxRecDepth 20000
set_option linter.unusedVariables false
variable{old:List Int}{j:Nat}
theorem Qm(c:Int)(hc:c≠0)(w:World):Ok Pr acp [.int .i64 c] w λv w'=>cA w w' v c/\Mod [] w w':=by
 refine aC Tryz.func286 ?_
 exact qE λb w' hb h1 h2 _=>⟨cA.mk h1 (by omega) hc,h2⟩
def sb(eta:Nat)(l:List B8)(k:Nat):Int:=if k%(2*eta)<eta then (bit l k:Int) else -(bit l k:Int)
def rM(eta:Nat)(l:List B8)(lo:Nat):Nat->Int
 |0=>0
 |n+1=>rM eta l lo n+sb eta l (lo+n)
@[irreducible] def lean(eta:Nat)(l:List B8):List Int:=(List.range 256).map λi=>rM eta l (2*eta*i) (2*eta)%3329
@[irreducible] def mG(eta:Nat)(l:List B8)(k:Nat):List Int:=(List.range 256).map λi=>rM eta l (2*eta*i) (min (k - 2*eta*i) (2*eta))%3329
theorem aeb(eta:Nat)(l:List B8):mG eta l 0=List.replicate 256 0:=by
 refine List.ext_getElem (by rw[mG,List.length_map,List.length_range,List.length_replicate]) λi h1 h2=>?_
 simp only[mG,List.getElem_map,List.getElem_replicate,Nat.zero_sub,Nat.zero_min,rM]
 rfl
theorem aft(eta:Nat)(he:eta=2\/eta=3)(l:List B8):mG eta l (512*eta)=lean eta l:=by
 unfold mG lean
 refine List.map_congr_left λi hi=>?_
 have:=List.mem_range.1 hi
 rw[Nat.min_eq_right (by rcases he with rfl|rfl<;>omega)]
theorem RO(eta:Nat)(l:List B8)(k i:Nat)(hi:i<256):(mG eta l k).getD i 0=rM eta l (2*eta*i) (min (k - 2*eta*i) (2*eta))%3329:=by
 simp[mG,hi]
theorem aec(eta:Nat)(he:eta=2\/eta=3)(l:List B8)(k:Nat)(hk:k<512*eta)(q:Int)(hq:q%3329=sb eta l k%3329):
  (mG eta l k).set (k / (2*eta)) (((mG eta l k).getD (k / (2*eta)) 0+q)%3329)=mG eta l (k+1):=by
 have hi:k / (2*eta)<256:=by rcases he with rfl|rfl<;>omega
 rw[RO eta l k _ hi]
 refine List.ext_getElem (by simp[mG]) λj h1 h2=>?_
 have hj:j<256:=by simpa[mG]using h2
 rw[List.getElem_set]
 split
 ·rename_i e
  subst e
  have e1:min (k - 2*eta*(k / (2*eta))) (2*eta)=k - 2*eta*(k / (2*eta)):=by rcases he with rfl|rfl<;>omega
  have e2:min (k+1 - 2*eta*(k / (2*eta))) (2*eta)=k - 2*eta*(k / (2*eta))+1:=by rcases he with rfl|rfl<;>omega
  have e3:2*eta*(k / (2*eta))+(k - 2*eta*(k / (2*eta)))=k:=by rcases he with rfl|rfl<;>omega
  simp only[mG,List.getElem_map,List.getElem_range]
  rw[e1,e2,rM,e3,Int.add_emod,Int.emod_emod_of_dvd _ (Int.dvd_refl _),hq,<- Int.add_emod]
 ·rename_i gP
  simp only[mG,List.getElem_map,List.getElem_range]
  have:min (k - 2*eta*j) (2*eta)=min (k+1 - 2*eta*j) (2*eta):=by rcases he with rfl|rfl<;>omega
  rw[this]
theorem Ud(l:List B8):unpack 1 l=(List.range (8*l.length)).map λi=>(bit l i:Int):=by unfold unpack bit;rw[Nat.div_one]
theorem acE(eta:Nat)(he:eta=2\/eta=3)(x:ag)(l:List B8)(hl:l.length=64*eta)(w:World)(hx:Bytes w x l):
  Ok Pr adR [.int .i64 (eta:Int),.slice x.a x.n x.c] w λv w'=>jC aU 1 w w' v (bf (lean eta l)) 0:=by
 refine aC Tryz.func287 (J:=[(12,[(8,.int .i64)])]) (L:=[(7,[(29,.int .i64)])]) ?_
 have aT:=hx.len
 have he3:eta<=3:=by omega
 refine ite_false (by rcases he with rfl|rfl<;>rfl) ⟨⟨by omega,by omega⟩,ite_false (by simp;omega) ?_⟩
 refine(ah.start w).Fs (n:=256) vT Ad rfl rfl (by omega) λo w1 H ho=>?_
 refine an (Ga 1 (by omega) (by omega) x l (by omega) _ (hx.av H.mod)) ?_
 rintro _ w2 ⟨y,rfl,hy,m2⟩
 have H:=H.bg m2 hy
 have gb:=hy.bq.len
 have iR:(unpack 1 l).length=512*eta:=by rw[Ud];simp;omega
 refine aS ?_
 refine bG 0 (512*eta) (λk w'=>ah w [] w' [.row aU 1 o (bf (mG eta l k)),.row aU 1 y (bf (unpack 1 l))]) rfl (by omega) (by rw[aeb];exact H) ?_ ?_
 ·intro again k w3 _ hk H aB
  have hd:k / (2*eta)<256:=by rcases he with rfl|rfl<;>omega
  have hgk:(unpack 1 l).getD k 0=(bit l k:Int):=by rw[Ud];simp[show k<8*l.length by omega]
  have wY:=Cm l k
  have Fm:(mG eta l k).length=256:=by simp[mG]
  have tA:=RO eta l k (k / (2*eta)) hd
  have qo:=Int.emod_nonneg (rM eta l (2*eta*(k / (2*eta))) (min (k - 2*eta*(k / (2*eta))) (2*eta))) (show(3329:Int)≠0 by decide)
  have AJ:=Int.emod_lt_of_pos (rM eta l (2*eta*(k / (2*eta))) (min (k - 2*eta*(k / (2*eta))) (2*eta))) (show(0:Int)<3329 by decide)
  rw[<- tA]at qo AJ
  have e2:(2:Int)*(eta:Int)=((2*eta:Nat):Int):=by omega
  have ed:(k:Int) / ((2*eta:Nat):Int)=((k / (2*eta):Nat):Int):=(Int.natCast_ediv k (2*eta)).symm
  have em:(k:Int)%((2*eta:Nat):Int)=((k%(2*eta):Nat):Int):=(Int.natCast_emod k (2*eta)).symm
  rw[e2]
  refine ite_true (by rw[<- gb,iR];exact decide_eq_true (by omega)) ((H.bq 1 rfl).ld (by omega) rfl ⟨⟨by omega,by omega⟩,Cl (by omega) ⟨⟨by omega,by rw[show IntKind.max .i64=9223372036854775807 by decide];omega⟩,fo λgo aV=>?_⟩⟩)
  rw[hgk]
  have EP:∀q:Int,-10000<=q->q<=10000->0<=q->q%3329=sb eta l k%3329->go q w3:=by
   intro q WX hq2 hq0 hq
   refine aV q w3 ?_
   rw[ed]
   refine(H.bq 0 rfl).ld (i:=k / (2*eta)) (by omega) rfl ⟨⟨by omega,by omega⟩,by omega,?_⟩
   refine H.mu 0 rfl (i:=k / (2*eta)) (by omega) rfl λw4 H=>⟨⟨by omega,by omega⟩,aB w4 ?_⟩
   rw[aec eta he l k hk q hq]at H
   exact H
  refine⟨⟨by omega,by omega⟩,Cl (by omega) ⟨by omega,?_⟩⟩
  rw[em]
  refine aZ (λh=>?_) (λh=>?_)
  ·have h:=of_decide_eq_true h
   refine⟨⟨by omega,by omega⟩,EP _ (by omega) (by omega) (by omega) ?_⟩
   unfold sb
   rw[if_neg (by omega)]
   omega
  ·have h:=of_decide_eq_false h
   refine EP _ (by omega) (by omega) (by omega) ?_
   unfold sb
   rw[if_pos (by omega)]
 ·intro again w3 H
  refine ite_false (by rw[<- gb,iR];simp) ?_
  rw[aft eta he]at H
  exact jC.yes (H.cm 0 rfl) H.mod
theorem ajm{eta:Nat}(he:eta=2\/eta=3)(l:List B8)(i k:Nat)(hk:k<eta):sb eta l (2*eta*i+k)=(bit l (2*eta*i+k):Int)/\sb eta l (2*eta*i+(eta+k)) = -(bit l (2*eta*i+(eta+k)):Int):=by
 unfold sb
 rw[Nat.mul_add_mod,Nat.mul_add_mod]
 rw[if_pos (by rw[Nat.mod_eq_of_lt (by omega)];omega),if_neg (by rw[Nat.mod_eq_of_lt (by omega)];omega)]
 exact⟨rfl,rfl⟩
def uO(eta:Nat)(l:List B8)(i:Nat):Nat->Int
 |0=>0
 |k+1=>uO eta l i k+(bit l (2*eta*i+k):Int) - (bit l (2*eta*i+(eta+k)):Int)
theorem aiz{eta:Nat}(he:eta=2\/eta=3)(l:List B8)(i:Nat):uO eta l i eta=rM eta l (2*eta*i) (2*eta):=by
 have h:=λk hk=>ajm he l i k hk
 rcases he with rfl|rfl
 ·have h0:=h 0 (by omega)
  have h1:=h 1 (by omega)
  simp only[uO,rM,Nat.add_zero,show 2*2=4 from rfl,Nat.reduceAdd]at*
  omega
 ·have h0:=h 0 (by omega)
  have h1:=h 1 (by omega)
  have h2:=h 2 (by omega)
  simp only[uO,rM,Nat.add_zero,show 2*3=6 from rfl,Nat.reduceAdd]at*
  omega
theorem Ue(eta:Nat)(l:List B8)(i k:Nat):-(k:Int)<=uO eta l i k/\uO eta l i k<=(k:Int):=by
 induction k with
 |zero=>simp[uO]
 |succ k ih=>
  have:=Cm l (2*eta*i+k)
  have:=Cm l (2*eta*i+(eta+k))
  simp only[uO]
  omega
theorem acF(eta:Nat)(he:eta=2\/eta=3)(x:ag)(l:List B8)(hl:l.length=64*eta)(w:World)(hx:Bytes w x l):
  Ok Pr adP [.int .i64 (eta:Int),.slice x.a x.n x.c] w λv w'=>oG aU 1 w w' v (bf (lean eta l)) 0:=by
 refine aC Tryz.func270 (L:=[(7,[(6,.sl),(7,.int .i64)]),(11,[(8,.int .i64),(9,.int .i64)])]) ?_
 have aT:=hx.len
 have he3:eta<=3:=by omega
 refine ite_false (by rcases he with rfl|rfl<;>rfl) ⟨⟨by omega,by omega⟩,ite_false (by simp;omega) ?_⟩
 let f (m:Nat):List Int:=(List.range m).map λi=>rM eta l (2*eta*i) (2*eta)%3329
 refine eZ 0 256 (λi (out:ag) w'=>out.n=i/\ah w [] w' [.row aU 1 out (bf (f i))]) rfl (by omega) ⟨rfl,(ah.start w).dy aU 1⟩ ?_ ?_
 ·rintro again i out w1 _ hi ⟨k7,H⟩ aB
  refine ite_true (decide_eq_true (by omega)) ?_
  have ei:(2:Int)*(i:Int)*(eta:Int)=((2*eta*i:Nat):Int):=by rcases he with rfl|rfl<;>omega
  have hmi:2*eta*i<1536:=by rcases he with rfl|rfl<;>omega
  rw[ei]
  refine eZ 0 eta (λk (s:Int) w'=>s=uO eta l i k/\w'=w1) rfl (by omega) ⟨rfl,rfl⟩ ?_ ?_
  ·rintro gN k s _ _ hk ⟨rfl,rfl⟩ eJ
   have hb:=Ue eta l i k
   have za:=hx.av H.mod
   refine ite_true (by simp;omega) ⟨⟨by omega,by omega⟩,⟨by omega,by omega⟩,⟨by omega,by omega⟩,?_⟩
   rw[show((2*eta*i:Nat):Int)+(k:Int)=((2*eta*i+k:Nat):Int) by omega]
   refine an (Gw x l _ (by rcases he with rfl|rfl<;>omega) (by omega) _ za) ?_
   rintro _ w2 ⟨rfl,so⟩
   subst so
   have:=Cm l (2*eta*i+k)
   refine bH ⟨⟨by omega,by omega⟩,⟨by omega,by omega⟩,⟨by omega,by omega⟩,⟨by omega,by omega⟩,⟨by omega,by omega⟩,?_⟩
   rw[show((2*eta*i:Nat):Int)+(eta:Int)+(k:Int)=((2*eta*i+(eta+k):Nat):Int) by omega]
   refine an (Gw x l _ (by rcases he with rfl|rfl<;>omega) (by omega) _ za) ?_
   rintro _ w3 ⟨rfl,hw3⟩
   subst hw3
   have:=Cm l (2*eta*i+(eta+k))
   exact bH ⟨⟨by omega,by omega⟩,⟨by omega,by omega⟩,eJ _ _ ⟨rfl,rfl⟩⟩
  ·rintro gN s _ ⟨rfl,rfl⟩
   have hb:=Ue eta l i eta
   refine ite_false (by simp) ⟨⟨by omega,by omega⟩,by omega,?_⟩
   refine H.rK 0 vT rfl (by omega) λfJ w3 H IP=>⟨⟨by omega,by omega⟩,aB fJ w3 ⟨by omega,?_⟩⟩
   have e:f (i+1)=f i++[(uO eta l i eta+3329)%3329]:=by
    rw[aiz he]
    simp[f,List.range_succ]
   rw[e]
   exact H
 ·rintro again out w1 ⟨k7,H⟩
  have e:f 256=lean eta l:=by unfold lean;rfl
  rw[e]at H
  refine ite_false (by simp) ⟨out,rfl,H.cm 0 rfl,H.mod⟩
def mL(eta:Int)(n:Nat):Int:=if eta=2\/eta=3 then (if n=32 then 0 else 3) else 2
@[irreducible] def kj(eta:Int)(l:List B8)(n:B8):List Int:=if mL eta l.length=0 then lean eta.toNat (cj 136 31 (l++[n]) (64*eta)) else []
theorem abC(eta:Int)(x:ag)(l:List B8)(n:B8)(hl:l.length<=1000000)(w:World)(hx:Bytes w x l):
  Ok Pr adL [.int .i64 eta,.slice x.a x.n x.c,.int .u8 (n.toNat:Int)] w λv w'=>jC aU 1 w w' v (bf (kj eta l n)) (mL eta l.length):=by
 refine aC Tryz.func259 ?_
 have aT:=hx.len
 by_cases he:eta=2\/eta=3
 ·refine ite_false (by rcases he with rfl|rfl<;>rfl) ?_
  by_cases fe:l.length=32
  ·have ec:mL eta l.length=0:=by unfold mL;rw[if_pos he,if_pos fe]
   refine ite_false (by simp;omega) ⟨⟨by omega,by omega⟩,(ah.start w).nw λp w1 H _=>H.nw λp1 w2 H _=>?_⟩
   obtain⟨k,rfl⟩:∃k:Nat,eta=(k:Int):=⟨eta.toNat,by omega⟩
   rw[show(64:Int)*(k:Int)=((64*k:Nat):Int) by omega]
   refine an (JE _ ⟨some ⟨p1,0,none⟩,2,2⟩ [l,[n]] _ (dZ.As (H.aj 1 rfl) (by simp) (hx.av H.mod) (jQ _) (H.BW 0 (l:=[n]) rfl) (jQ _)) (zV rfl (by omega) (by simp))) ?_
   rintro _ w3 ⟨y,rfl,hy,m3⟩
   rw[show[l,[n]].flatten=l++[n] by simp]at hy
   have gR:=ot 136 31 (l++[n]) (64*k) (by omega)
   have ef:kj (k:Int) l n=lean k (cj 136 31 (l++[n]) ((64*k:Nat):Int)):=by
    unfold kj
    rw[if_pos ec,Int.toNat_natCast,show(64:Int)*(k:Int)=((64*k:Nat):Int) by omega]
   rw[ef,ec]
   generalize cj 136 31 (l++[n]) ((64*k:Nat):Int)=z at*
   have H:=H.bg m3 hy
   refine aS (an (acE k (by omega) y z (by omega) _ hy.bytes) ?_)
   rintro _ w4 ⟨u,er,rfl,hu,WY,Fx,m4⟩
   have H:=H.MX m4 hu WY Fx
   refine⟨_,rfl,u,rfl,rfl,u,er,rfl,H.cm 3 rfl,?_,Fx,H.mod⟩
   exact⟨WY.1,λb hb=>(H.own 4 _ rfl b hb).resolve_left (by simp)⟩
  ·have ec:mL eta l.length=3:=by unfold mL;rw[if_pos he,if_neg fe]
   have ef:kj eta l n=[]:=by unfold kj;rw[ec,if_neg (by decide)]
   rw[ec,ef]
   refine ite_true (by simp;omega) (an (Qm 3 (by decide) w) ?_)
   rintro e w1 ⟨h1,m1⟩
   exact jC.no h1 m1
 ·have ec:mL eta l.length=2:=by unfold mL;rw[if_neg he]
  have ef:kj eta l n=[]:=by unfold kj;rw[ec,if_neg (by decide)]
  rw[ec,ef]
  refine ite_true (by simp;omega) (an (Qm 2 (by decide) w) ?_)
  rintro e w1 ⟨h1,m1⟩
  exact jC.no h1 m1
theorem JW(eta:Int)(x:ag)(l:List B8)(n:B8)(hl:l.length<=1000000)(w:World)(hx:Bytes w x l):
  Ok Pr adD [.int .i64 eta,.slice x.a x.n x.c,.int .u8 (n.toNat:Int)] w λv w'=>oG aU 1 w w' v (bf (kj eta l n)) (mL eta l.length):=by
 refine aC Tryz.func234 ?_
 have aT:=hx.len
 by_cases he:eta=2\/eta=3
 ·refine ite_false (by rcases he with rfl|rfl<;>rfl) ?_
  by_cases fe:l.length=32
  ·have ec:mL eta l.length=0:=by unfold mL;rw[if_pos he,if_pos fe]
   refine ite_false (by simp;omega) ⟨⟨by omega,by omega⟩,?_⟩
   refine(ah.start w).oD cg hx (by omega) λy w1 H hy=>?_
   have j3:y.n=32:=by rw[hy];omega
   refine H.um 0 n cg rfl rfl (by omega) λu w2 H hu=>?_
   obtain⟨k,rfl⟩:∃k:Nat,eta=(k:Int):=⟨eta.toNat,by omega⟩
   rw[show(64:Int)*(k:Int)=((64*k:Nat):Int) by omega]
   refine an (JI _ u (l++[n]) _ (H.bytes 0 rfl) (by simp;omega)) ?_
   rintro _ w3 ⟨z,rfl,hz,m3⟩
   have gR:=ot 136 31 (l++[n]) (64*k) (by omega)
   have ef:kj (k:Int) l n=lean k (cj 136 31 (l++[n]) ((64*k:Nat):Int)):=by
    unfold kj
    rw[if_pos ec,Int.toNat_natCast,show(64:Int)*(k:Int)=((64*k:Nat):Int) by omega]
   rw[ef,ec]
   generalize cj 136 31 (l++[n]) ((64*k:Nat):Int)=zs at*
   have H:=H.bg m3 hz
   refine aS (an (acF k (by omega) z zs (by omega) _ hz.bytes) ?_)
   rintro _ w4 ⟨q,rfl,hq,m4⟩
   have H:=H.bg m4 hq
   exact⟨_,rfl,q,rfl,0,rfl,rfl,q,rfl,H.cm 2 rfl,H.mod⟩
  ·have ec:mL eta l.length=3:=by unfold mL;rw[if_pos he,if_neg fe]
   have ef:kj eta l n=[]:=by unfold kj;rw[ec,if_neg (by decide)]
   rw[ec,ef]
   exact ite_true (by simp;omega) ⟨⟨none,0,0⟩,rfl,Own.nil _ _ _ _,Mod.refl _ _⟩
 ·have ec:mL eta l.length=2:=by unfold mL;rw[if_neg he]
  have ef:kj eta l n=[]:=by unfold kj;rw[ec,if_neg (by decide)]
  rw[ec,ef]
  exact ite_true (by simp;omega) ⟨⟨none,0,0⟩,rfl,Own.nil _ _ _ _,Mod.refl _ _⟩
def cx(l:List B8)(t:Nat):Int:=(((l.getD (3*t) 0).toNat+256*((l.getD (3*t+1) 0).toNat%16):Nat):Int)
def cy(l:List B8)(t:Nat):Int:=(((l.getD (3*t+1) 0).toNat / 16+16*(l.getD (3*t+2) 0).toNat:Nat):Int)
def jK(o:List Int)(x:Int):List Int:=if x<3329/\o.length<256 then o++[x] else o
def gh(l:List B8):Nat->List Int
 |0=>[]
 |t+1=>jK (jK (gh l t) (cx l t)) (cy l t)
@[irreducible] def nU(l:List B8):List Int:=gh (cj 168 31 l 4095) 1365++List.replicate (256 - (gh (cj 168 31 l 4095) 1365).length) 0
theorem Ic{o:List Int}(h:o.length<=256)(x:Int):(jK o x).length<=256:=by
 unfold jK;split
 ·rw[List.length_append];simp;omega
 ·exact h
theorem Cn(l:List B8)(t:Nat):(gh l t).length<=256:=by
 induction t with
 |zero=>simp[gh]
 |succ t ih=>exact Ic (Ic ih _) _
theorem Tk{o:List Int}(h:o.length=256)(x:Int):jK o x=o:=by unfold jK;rw[if_neg (by omega)]
theorem Tl(l:List B8)(t k:Nat)(h:(gh l t).length=256):gh l (t+k)=gh l t:=by
 induction k with
 |zero=>rfl
 |succ k ih=>
  rw[<- Nat.add_assoc]
  show jK (jK (gh l (t+k)) _) _=_
  rw[ih,Tk h,Tk h]
theorem ahs(l:List B8)(m t:Nat)(h:3*t<=m)(hm:m<=l.length):gh (l.take m) t=gh l t:=by
 have hg:∀i,i<m->(l.take m).getD i 0=l.getD i 0:=λi hi=>by
  simp[List.getD_eq_getElem?_getD,hi]
 induction t with
 |zero=>rfl
 |succ t ih=>
  show jK (jK _ _) _=jK (jK _ _) _
  rw[ih (by omega)]
  have e1:cx (l.take m) t=cx l t:=by unfold cx;rw[hg _ (by omega),hg _ (by omega)]
  have e2:cy (l.take m) t=cy l t:=by unfold cy;rw[hg _ (by omega),hg _ (by omega)]
  rw[e1,e2]
theorem aht(a b c:B8):unpack 12 [a,b,c]=[((a.toNat+256*(b.toNat%16):Nat):Int),((b.toNat / 16+16*c.toNat:Nat):Int)]:=by
 have ha:=a.isLt
 have hb:=b.isLt
 have hc:=c.isLt
 unfold unpack
 have e:List.range (8*[a,b,c].length / 12)=[0,1]:=by
  rw[show 8*[a,b,c].length / 12=2 by simp]
  rfl
 rw[e]
 simp only[List.map_cons,List.map_nil,qZ,num]
 rw[show 2 ^ (12*0)=1 from rfl,show 2 ^ (12*1)=4096 from rfl]
 congr 1
 ·congr 1;omega
 ·congr 2;omega
theorem abD(aq:Nat)(c:List aD × Nat)(t n:Nat)(h:3*t+3<=n):
  (cz aq (cz aq c (3*t)).2 3).1=[(cz aq c n).1.getD (3*t) 0,(cz aq c n).1.getD (3*t+1) 0,(cz aq c n).1.getD (3*t+2) 0]:=by
 obtain⟨k,rfl⟩:∃k,n=3*t+(3+k):=⟨n - 3*t - 3,by omega⟩
 have h1:(cz aq c (3*t)).1.length=3*t:=PJ _ _ _
 have h2:(cz aq (cz aq c (3*t)).2 3).1.length=3:=PJ _ _ _
 rw[KA,KA]
 generalize (cz aq (cz aq c (3*t)).2 3).1=u at h2
 generalize (cz aq c (3*t)).1=v at h1
 have hg:∀i,i<3->(v++(u++(cz aq (cz aq (cz aq c (3*t)).2 3).2 k).1)).getD (3*t+i) 0=u.getD i 0:=λi hi=>by
  simp only[List.getD_eq_getElem?_getD]
  rw[List.getElem?_append_right (by omega),List.getElem?_append_left (by omega),h1,Nat.add_sub_cancel_left]
 have e0:=hg 0 (by omega)
 have e1:=hg 1 (by omega)
 have e2:=hg 2 (by omega)
 rw[Nat.add_zero]at e0
 rw[e0,e1,e2]
 match u,h2 with
 |[a,b,c],_=>rfl
theorem QB(x:ag)(l:List B8)(hl:l.length=32)(i j:B8)(w:World)(hx:Bytes w x l):
  Ok Pr adM [.slice x.a x.n x.c,.int .u8 (i.toNat:Int),.int .u8 (j.toNat:Int)] w λv w'=>jC aU 1 w w' v (bf (nU (l++[i,j]))) 0:=by
 refine aC Tryz.func260 (L:=[(7,[(9,.sl),(10,.int .i64)]),(10,[(9,.sl),(39,.int .i64)])]) ?_
 have aT:=hx.len
 refine ite_false (by simp;omega) (an (Qh 168 31 rfl w) ?_)
 rintro _ w1 ⟨b,rfl,h1,hb,m1⟩
 have H:=(ah.start w).UW m1 h1 hb
 refine VA (H.nw λp w2 H _=>H.nw λp1 w3 H _=>?_)
 have o1:off [b] x:=Sl.aim hx (by omega) λc hc=>by rw[List.mem_singleton.1 hc];exact hb
 have o2:off [b] ⟨some ⟨p,0,none⟩,2,2⟩:=λ_ a ha hc=>by
  simp only[Option.some.injEq]at ha
  subst ha
  exact H.apart 1 0 _ _ (by omega) rfl rfl p (by simp[aA.aj]) hc
 refine ah.aji H 0 (s:=(cL,0)) rfl (by omega) (VC (by omega)) (parts:=⟨some ⟨p1,0,none⟩,2,2⟩) (ls:=[l,[i,j]]) (dZ.As (H.aj 2 rfl) (λhc=>H.apart 2 0 _ _ (by omega) rfl rfl p1 (by simp[aA.aj]) hc) (hx.av H.mod) o1 (H.BW 1 (l:=[i,j]) rfl) o2) (zV rfl (by omega) (by simp)) λw4 m4 H=>?_
 rw[show[l,[i,j]].flatten=l++[i,j] by simp]at H
 refine H.mkB (l:=0) (c:=256) vT rfl rfl (by omega) (by omega) (by omega) λo w5 H _ _=>?_
 rw[Ad,Rc]at H
 have hf:Fits 168 (eE 168 (cL,0) (l++[i,j])):=(VC (by omega)).eE _
 have ez:cj 168 31 (l++[i,j]) 4095=(cz 168 (close 168 31 (eE 168 (cL,0) (l++[i,j]))) 4095).1:=by
  rw[show(4095:Int)=((4095:Nat):Int) from rfl,K9 _ _ _ _ (by omega) (by omega),Sn 168 (by omega) (by omega) rfl]
 have Fy:nU (l++[i,j])=gh (cj 168 31 (l++[i,j]) 4095) 1365++List.replicate (256 - (gh (cj 168 31 (l++[i,j]) 4095) 1365).length) 0:=by unfold nU;rfl
 rw[Fy,ez]
 generalize eE 168 (cL,0) (l++[i,j])=s0 at*
 have h3:=λt (ht:3*t+3<=4095)=>abD 168 (close 168 31 s0) t 4095 ht
 clear Fy ez
 generalize (cz 168 (close 168 31 s0) 4095).1=z at*
 let R0 (t:Nat):List aA:=[jI b (tC 168 31 s0 (3*t)).1 168 (tC 168 31 s0 (3*t)).2 31 (wX (3*t)),.aj p [.int .u8 (i.toNat:Int),.int .u8 (j.toNat:Int)] aE,.aj p1 [.slice x.a x.n x.c,.slice (some ⟨p,0,none⟩) 2 2] jh]
 let fl (o:List Int):List Value:=bf (o++List.replicate (256 - o.length) 0)
 refine lV (λ(out:ag) (bg:Int) w'=>∃t:Nat,t<=1365/\bg=3+3*(t:Int)/\out=⟨some ⟨o,0,none⟩,(gh z t).length,256⟩/\ah w [] w' (R0 t++[.aj o (fl (gh z t)) aU])) (λ_ bg _=>(5000 - bg).toNat)
  ⟨0,by omega,by omega,rfl,H⟩ ?_
 rintro again out bg w6 ⟨t,ht,rfl,rfl,H⟩ aB
 have Fz:=Cn z t
 refine aZ (λhc=>?_) (λhc=>?_)
 ·simp only[Bool.and_eq_true,decide_eq_true_eq]at hc
  refine an (PK (by omega) (by omega) (cW:=wX (3*t)) (ajj (aK:=31) (by omega) hf (3*t)) b 3 (by omega) (by omega) _ (H.aj 0 rfl)) ?_
  rintro _ w7 ⟨y,rfl,hy,h7,m7⟩
  rw[ago]at hy h7
  have e1:(cz 168 (cz 168 (close 168 31 s0) (3*t)).2 3).2=tC 168 31 s0 (3*(t+1)):=by
   unfold tC
   rw[if_neg (by omega),Nat.mul_add,KA]
  have e2:true=wX (3*(t+1)):=by unfold wX;simp
  rw[h3 t (by omega)]at hy
  rw[e1,e2]at h7
  have H:=H.ajh (r':=jI b (tC 168 31 s0 (3*(t+1))).1 168 (tC 168 31 s0 (3*(t+1))).2 31 (wX (3*(t+1)))) (n:=.row aE 1 y (aG [z.getD (3*t) 0,z.getD (3*t+1) 0,z.getD (3*t+2) 0])) 0 rfl m7 (λc hc=>hc) h7 (λc hc=>hc) hy.lo (λb hb=>(Own.yb hy b hb).1)
  change ah w [] w7 (R0 (t+1)++[.aj o (fl (gh z t)) aU,.row aE 1 y (aG [z.getD (3*t) 0,z.getD (3*t+1) 0,z.getD (3*t+2) 0])])at H
  refine aS (an (Ga 12 (by omega) (by omega) y _ (by simp) _ hy.bytes) ?_)
  rintro _ w8 ⟨u,rfl,hu,m8⟩
  have H:=H.bg m8 hu
  rw[aht]at H hu
  have C8:=hu.bq.len
  let pq (q:Nat):List Int:=match q with|0=>gh z t|1=>jK (gh z t) (cx z t)|_=>gh z (t+1)
  have hpq:∀q,(pq q).length<=256:=λq=>match q with
   |0=>Fz
   |1=>Ic Fz _
   |q+2=>Cn z (t+1)
  have q9:∀q,q<2->pq (q+1)=jK (pq q) ([cx z t,cy z t].getD q 0):=λq hq=>match q,hq with
   |0,_=>rfl
   |1,_=>rfl
  refine aS ?_
  refine eZ 0 2 (λq (out:ag) w'=>out=⟨some ⟨o,0,none⟩,(pq q).length,256⟩/\ah w [] w' (R0 (t+1)++[.aj o (fl (pq q)) aU,.row aE 1 y (aG [z.getD (3*t) 0,z.getD (3*t+1) 0,z.getD (3*t+2) 0]),.row aU 1 u (bf [cx z t,cy z t])])) rfl (by omega) ⟨rfl,H⟩ ?_ ?_
  ·rintro gN q out w9 _ hq ⟨rfl,H⟩ eJ
   have hl:=hpq q
   refine ite_true (decide_eq_true (by rw[<- C8];simp;omega)) ((H.bq 5 rfl).ld (by simpa using hq) rfl ?_)
   have hp:=q9 q hq
   unfold jK at hp
   generalize [cx z t,cy z t].getD q 0=v at*
   refine aZ (λhc=>?_) (λhc=>?_)
   ·simp only[Bool.and_eq_true,decide_eq_true_eq]at hc
    rw[if_pos (by omega)]at hp
    refine H.nw λp2 bP H _=>?_
    have bZ:=(H.aj 6 rfl).sl 1 1 1 (by simp) (by omega)
    have wO:(pq q).length+1<=256:=by omega
    refine H.akQ (x:=⟨some ⟨p2,0,none⟩,1,1⟩) (n:=(pq q).length) (c:=256) 3 vT rfl (by simp only[fl,Rb,List.length_append,List.length_replicate];omega) wO bZ (by simp[dQ]) λbQ H=>⟨⟨by omega,by omega⟩,eJ _ bQ ⟨?_,?_⟩⟩
    ·rw[hp,List.length_append];rfl
    ·have e:(fl (pq q)).take ((pq q).length*1)++[Value.int .i64 v].take (1*1)++(fl (pq q)).drop ((pq q).length*1+([Value.int .i64 v].take (1*1)).length)=fl (pq (q+1)):=by
      simp only[fl,hp,Nat.mul_one,Sq,agm,List.take_succ_cons,List.take_zero,List.length_cons,List.length_nil]
      rw[show[Value.int .i64 v]=bf [v] from rfl,<- Dy,<- Dy]
      congr 1
      rw[List.take_append_of_le_length (Nat.le_refl _),List.take_length,List.drop_append,List.drop_of_length_le (by omega),List.nil_append,Nat.add_sub_cancel_left,List.drop_replicate,List.length_append]
      simp only[List.length_cons,List.length_nil]
      congr 2
     rw[e]at H
     exact H.take 6
   ·rw[if_neg (λh=>by simp only[Bool.and_eq_false_iff,decide_eq_false_iff_not]at hc;omega)]at hp
    refine⟨⟨by omega,by omega⟩,eJ _ w9 ⟨by rw[hp],?_⟩⟩
    rw[hp];exact H
  ·rintro gN out w9 ⟨rfl,H⟩
   refine ite_false (decide_eq_false (by rw[<- C8];simp)) ⟨⟨by omega,by omega⟩,?_⟩
   exact aB _ _ w9 ⟨t+1,by omega,by omega,rfl,H.take 4⟩ (by omega)
 ·have akW:gh z 1365=gh z t:=by
   simp only[Bool.and_eq_false_iff,decide_eq_false_iff_not]at hc
   rcases hc with hc|hc
   ·rw[show t=1365 by omega]
   ·obtain⟨k,hk⟩:∃k,1365=t+k:=⟨1365 - t,by omega⟩
    rw[hk];exact Tl z t k (by have:¬(((gh z t).length:Int)<256):=hc;omega)
  rw[akW]
  generalize gh z t=e at*
  have hu:Pr.underlying aU=some (.int .i64):=by kernel_rfl
  refine⟨⟨by show -9223372036854775808<=(256:Int) - (e.length:Int);omega,by show(256:Int) - (e.length:Int)<=9223372036854775807;omega⟩,?_⟩
  have hlen:(fl e).length=256:=by simp only[fl,Rb,List.length_append,List.length_replicate];omega
  refine H.akU (n:=e.length) (c:=256) (m:=256 - e.length) 3 vT hu Ad rfl rfl (by show(256:Int) - (e.length:Int)=_;omega) hlen (by omega) (by omega) (by omega) λw7 H=>?_
  have ee:(fl e).take e.length++List.replicate (256 - e.length) (Value.int .i64 0)++(fl e).drop (e.length+(256 - e.length))=fl e:=by
   rw[List.drop_of_length_le (by omega),List.append_nil]
   simp only[fl]
   rw[Sq,List.take_append_of_le_length (Nat.le_refl _),List.take_length,Dy]
   congr 1
   simp[bf,i64]
  rw[ee]at H
  rw[show e.length+(256 - e.length)=256 by omega]
  have H:=ah.qI (L:=R0 t++[.aj o (fl e) aU]) H 3 1 256 256 rfl (by omega) (by omega) (by simp only[maxLen];omega)
  rw[List.take_of_length_le (by omega)]at H
  exact jC.yes (y:=⟨some ⟨o,0,none⟩,256,256⟩) (H.cm 3 rfl) H.mod
theorem QC(T:Nat)(x:ag)(l:List B8)(hl:l.length=3*T)(hT:T<=1000000)(w:World)(hx:Bytes w x l):
  Ok Pr adS [.slice x.a x.n x.c] w λv w'=>∃y:ag,v=.slice y.a y.n y.c/\Own w' w.heap.size aU 1 y (bf (gh l T))/\Mod [] w w':=by
 refine aC Tryz.func292 (J:=[(9,[(3,.sl)])]) (L:=[(3,[(3,.sl),(4,.int .i64)])]) (N:=[5,6]) ?_
 have aT:=hx.len
 refine lV (λ(out:ag) (k:Int) w'=>∃t:Nat,t<=T/\k=((3*t:Nat):Int)/\ah w [] w' [.row aU 1 out (bf (gh l t))]) (λ_ k _=>3*T+3 - k.toNat) ⟨0,by omega,rfl,(ah.start w).dy aU 1⟩ ?_
 rintro again out k w1 ⟨t,ht,rfl,H⟩ aB
 have Fz:=Cn l t
 have k7:=(H.bq 0 rfl).len
 refine⟨⟨by omega,by omega⟩,aZ (λhc=>?_) (λhc=>?_)⟩
 ·have hc:=of_decide_eq_true hc
  have b0:=(l.getD (3*t) 0).isLt
  have b1:=(l.getD (3*t+1) 0).isLt
  have b2:=(l.getD (3*t+2) 0).isLt
  have za:=hx.av H.mod
  have H1:=H.drew
  have NU:=hx.av H1.mod
  have H2:=H1.drew
  have zb:=hx.av H2.mod
  refine NU.ld (by omega) ⟨⟨by omega,by omega⟩,⟨by omega,by omega⟩,?_⟩
  rw[show((3*t:Nat):Int)+1=((3*t+1:Nat):Int) by omega,show((3*t:Nat):Int)+2=((3*t+2:Nat):Int) by omega]
  refine NU.ld (by omega) ⟨⟨by omega,by omega⟩,by omega,⟨by omega,by omega⟩,⟨by omega,by omega⟩,?_⟩
  unfold lt
  refine⟨⟨by omega,by omega⟩,zb.ld (by omega) ⟨⟨by omega,by omega⟩,⟨by omega,by rw[show IntKind.max .i64=9223372036854775807 by decide];omega⟩,⟨by omega,by omega⟩,zb.ld (by omega) ⟨⟨by omega,by omega⟩,⟨by omega,by omega⟩,⟨by omega,by omega⟩,?_⟩⟩⟩
  rw[show(((l.getD (3*t) 0).toNat:Nat):Int)+256*((((l.getD (3*t+1) 0).toNat:Nat):Int)%16)=cx l t by unfold cx;omega,show(((l.getD (3*t+1) 0).toNat:Nat):Int) / 16+16*(((l.getD (3*t+2) 0).toNat:Nat):Int)=cy l t by unfold cy;omega]
  have C9:gh l (t+1)=jK (jK (gh l t) (cx l t)) (cy l t):=rfl
  generalize cx l t=u at*
  generalize cy l t=v at*
  refine fo λgo aV=>?_
  have rest:∀(ET:ag) (o:List Int) (w2:World),o=jK (gh l t) u->ah w [] w2 [.row aU 1 ET (bf o)]->go ET w2:=by
   intro ET o w2 ho H
   refine aV ET w2 ?_
   have hle:o.length<=256:=by rw[ho];exact Ic Fz _
   have hn:=(H.bq 0 rfl).len
   rw[<- ho]at C9
   unfold jK at C9
   refine aZ (λhc=>?_) (λhc=>?_)
   ·simp only[Bool.and_eq_true,decide_eq_true_eq]at hc
    rw[if_pos (by omega)]at C9
    refine H.rK 0 vT rfl (by omega) λfJ w3 H IP=>⟨⟨by omega,by omega⟩,aB _ _ w3 ⟨t+1,by omega,by omega,?_⟩ (by omega)⟩
    rw[C9];exact H
   ·rw[if_neg (λh=>by simp only[Bool.and_eq_false_iff,decide_eq_false_iff_not]at hc;omega)]at C9
    refine⟨⟨by omega,by omega⟩,aB _ _ w2 ⟨t+1,by omega,by omega,?_⟩ (by omega)⟩
    rw[C9];exact H
  refine aZ (λhc=>?_) (λhc=>?_)
  ·simp only[Bool.and_eq_true,decide_eq_true_eq]at hc
   refine H2.rK 0 vT rfl (by omega) λfJ w3 H IP=>rest fJ _ w3 ?_ H
   unfold jK;rw[if_pos (by omega)]
  ·refine rest out _ _ ?_ H2
   unfold jK;rw[if_neg (λh=>by simp only[Bool.and_eq_false_iff,decide_eq_false_iff_not]at hc;omega)]
 ·have hc:=of_decide_eq_false hc
  obtain rfl:t=T:=by omega
  exact⟨out,rfl,H.cm 0 rfl,H.mod⟩
theorem QD(x:ag)(l:List B8)(hl:l.length=32)(i j:B8)(w:World)(hx:Bytes w x l):
  Ok Pr adN [.slice x.a x.n x.c,.int .u8 (i.toNat:Int),.int .u8 (j.toNat:Int)] w λv w'=>oG aU 1 w w' v (bf (nU (l++[i,j]))) 0:=by
 refine aC Tryz.func267 (J:=[(7,[(9,.sl)])]) (L:=[(7,[(9,.sl)])]) ?_
 have aT:=hx.len
 have elt:=cg
 refine ite_false (by simp;omega) ?_
 refine(ah.start w).oD cg hx (by omega) λy w1 H hy=>H.nw λp w2 H _=>?_
 refine H.iX (x:=⟨some ⟨p,0,none⟩,2,2⟩) 0 cg rfl (H.BW 1 (l:=[i,j]) rfl) (by show y.n+2<=_;omega) λu w3 H hu=>?_
 have Fy:nU (l++[i,j])=gh (cj 168 31 (l++[i,j]) 4095) 1365++List.replicate (256 - (gh (cj 168 31 (l++[i,j]) 4095) 1365).length) 0:=by unfold nU;rfl
 have M4:=afs 168 31 (l++[i,j]) 840 4095 (by omega) (by omega)
 have gR:=ot 168 31 (l++[i,j]) 4095 (by omega)
 rw[show((4095:Nat):Int)=4095 from rfl]at M4 gR
 rw[show((840:Nat):Int)=840 from rfl]at M4
 rw[Fy]
 clear Fy
 refine an (Pc 840 u (l++[i,j]) _ (H.bytes 0 rfl) (by simp;omega)) ?_
 rintro _ w4 ⟨a,rfl,ha,m4⟩
 rw[<- M4]at ha
 have H:=H.bg m4 ha
 have sh2:=λ(u:ag) (w:World) (hu:Bytes w u (l++[i,j]))=>Pc 4095 u (l++[i,j]) w hu (by simp;omega)
 generalize cj 168 31 (l++[i,j]) 4095=z at*
 obtain⟨e,he⟩:∃e,e=gh z 1365:=⟨_,rfl⟩
 have bO:e.length<=256:=by rw[he];exact Cn z 1365
 rw[<- he]
 refine aS (an (QC 280 a (z.take 840) (by rw[List.length_take];omega) (by omega) _ ha.bytes) ?_)
 rintro _ w5 ⟨c,rfl,hc,m5⟩
 rw[ahs z 840 280 (by omega) (by omega)]at hc
 have H:=H.bg m5 hc
 have Fz:=Cn z 280
 have ze:=hc.bq.len
 refine aS (fo λgo aV=>?_)
 have rest:∀(out:ag) (w6:World),ah w [] w6 [.row aU 1 out (bf e)]->go out w6:=by
  intro out w6 H
  refine aV out w6 ?_
  have FA:=(H.bq 0 rfl).len
  refine qA (λ(out:ag) w'=>∃k,e.length+k<=256/\out.n=e.length+k/\ah w [] w' [.row aU 1 out (bf (e++List.replicate k 0))]) (λout _=>256 - out.n) ⟨0,by omega,by omega,by simpa using H⟩ ?_
  rintro again out w7 ⟨k,hk,k7,H⟩ aB
  refine aZ (λhc=>?_) (λhc=>?_)
  ·have hc:=of_decide_eq_true hc
   refine H.rK 0 vT rfl (by omega) λfJ w3 H IP=>aB fJ w3 ⟨k+1,by omega,by omega,?_⟩ (by omega)
   rw[List.replicate_succ',<- List.append_assoc]
   exact H
  ·have hc:=of_decide_eq_false hc
   have:256 - e.length=k:=by omega
   rw[this]
   exact⟨out,rfl,H.cm 0 rfl,H.mod⟩
 have one:∀ {w':World} {L:List aA} {r:aA} (k:Nat),ah w [] w' L->L[k]? = some r->ah w [] w' [r]:=λ{w' L r} k H hk=>
  ⟨H.mod,λj s hs=>by
   match j with
   |0=>simp at hs;subst hs;exact H.ok k _ hk
   |j+1=>simp at hs,λj s hs=>by
   match j with
   |0=>simp at hs;subst hs;exact H.own k _ hk
   |j+1=>simp at hs,λi j s t wU hs ht=>by
   match i,j with
   |0,0=>exact absurd rfl wU
   |0,j+1=>simp at ht
   |i+1,_=>simp at hs⟩
 refine aZ (λbB=>?_) (λbB=>?_)
 ·refine H.oD cg (hx.av H.mod) (by omega) λy2 w6 H lJ=>H.nw λp2 w7 H _=>?_
  refine H.iX (x:=⟨some ⟨p2,0,none⟩,2,2⟩) 4 cg rfl (H.BW 5 (l:=[i,j]) rfl) (by show y2.n+2<=_;omega) λu2 w8 H yT=>?_
  refine an (sh2 u2 _ (H.bytes 4 rfl)) ?_
  rintro _ w9 ⟨a2,rfl,k8,m9⟩
  have H:=H.bg m9 k8
  refine aS (an (QC 1365 a2 z (by omega) (by omega) _ k8.bytes) ?_)
  rintro _ bP ⟨c2,rfl,tG,o9⟩
  rw[<- he]at tG
  have H:=H.bg o9 tG
  exact aS (rest c2 bP (one 7 H rfl))
 ·have bB:=of_decide_eq_false bB
  have:gh z 1365=gh z 280:=by
   obtain⟨k,hk⟩:∃k,1365=280+k:=⟨1085,rfl⟩
   rw[hk]
   exact Tl z 280 k (by omega)
  refine rest c w5 ?_
  rw[he,this]
  exact one 3 H rfl
def pg(f:Nat->Int):List Int:=(List.range 256).map f
theorem vH(f:Nat->Int):(pg f).length=256:=by simp[pg]
theorem lW(f:Nat->Int){i:Nat}(h:i<256):(pg f).getD i 0=f i:=by
 unfold pg
 rw[List.getD_eq_getElem?_getD,List.getElem?_map,List.getElem?_range h];rfl
theorem abE{A:Type}(l:List A)(i:Nat)(h:i<l.length)(a d:A):(l.set i a).getD i d=a:=by
 rw[List.getD_eq_getElem?_getD,List.getElem?_set_self h];rfl
theorem getD_set_ne{A:Type}(l:List A){i:Nat}(h:i≠j)(a d:A):(l.set i a).getD j d=l.getD j d:=by
 rw[List.getD_eq_getElem?_getD,List.getD_eq_getElem?_getD,List.getElem?_set_ne h]
theorem Ie{l m:List Int}(hl:l.length=256)(hm:m.length=256)(h:∀i,i<256->l.getD i 0=m.getD i 0):l=m:=by
 refine List.ext_getElem (by omega) λi h1 h2=>?_
 have:=h i (by omega)
 rw[List.getD_eq_getElem?_getD,List.getD_eq_getElem?_getD,List.getElem?_eq_getElem h1,List.getElem?_eq_getElem h2]at this
 exact this
def fP(p:Nat->Bool)(old new:List Int):List Int:=pg λi=>if p i=true then new.getD i 0 else old.getD i 0
theorem nk(p:Nat->Bool)(old new:List Int):(fP p old new).length=256:=vH _
theorem nq{p:Nat->Bool}{new:List Int}{i:Nat}(h:i<256)(hp:p i=false):(fP p old new).getD i 0=old.getD i 0:=by
 unfold fP;rw[lW _ h,hp];rfl
theorem Uf{p:Nat->Bool}{new:List Int}{i:Nat}(h:i<256)(hp:p i=true):(fP p old new).getD i 0=new.getD i 0:=by
 unfold fP;rw[lW _ h,hp];rfl
theorem vQ{p:Nat->Bool}{new:List Int}(hl:old.length=256)(h:∀i,i<256->p i=false):fP p old new=old:=
 Ie (nk _ _ _) hl λi hi=>nq hi (h i hi)
theorem vU{p:Nat->Bool}{new:List Int}(hl:new.length=256)(h:∀i,i<256->p i=true):fP p old new=new:=
 Ie (nk _ _ _) hl λi hi=>Uf hi (h i hi)
theorem xS{p p':Nat->Bool}{new:List Int}(h:∀i,i<256->p i=p' i):fP p old new=fP p' old new:=
 Ie (nk _ _ _) (nk _ _ _) λi hi=>by unfold fP;rw[lW _ hi,lW _ hi,h i hi]
theorem B7{p p':Nat->Bool}{new:List Int}{i:Nat}{a:Int}(hi:i<256)(ha:a=new.getD i 0)(hp:∀k,k<256->p' k=(p k||k == i)):(fP p old new).set i a=fP p' old new:=by
 refine Ie (by rw[List.length_set];exact nk _ _ _) (nk _ _ _) λk hk=>?_
 have hl:=nk p old new
 by_cases h:i=k
 ·subst h
  rw[abE _ _ (by omega),Uf hk (by rw[hp i hk];simp),ha]
 ·rw[getD_set_ne _ h]
  unfold fP
  rw[lW _ hk,lW _ hk,hp k hk,show(k == i)=false by simp;omega,Bool.or_false]
theorem DS{p p':Nat->Bool}{old new:List Int}{i:Nat}{a b:Int}(hi:i<256)(hj:j<256)(ha:a=new.getD i 0)(hb:b=new.getD j 0)(hp:∀k,k<256->p' k=(p k||k == j||k == i)):
  ((fP p old new).set j b).set i a=fP p' old new:=by
 rw[B7 (p':=λk=>p k||k == j) hj hb (λk _=>rfl)]
 exact B7 hi ha hp
def uG:List Int:=List.replicate 256 0
theorem Ug{n:Nat}(h:n∈[1,2,4,8,16,32,64,128]):n=1\/n=2\/n=4\/n=8\/n=16\/n=32\/n=64\/n=128:=by simpa using h
theorem places{n b:Nat}(hn:n∈[1,2,4,8,16,32,64,128])(hb:b<128 / n)(h1:2*n*b<=j)(h2:j<2*n*b+n):
  j / n%2=0/\(j+n) / n%2=1/\j / (2*n)=b/\(j+n) / (2*n)=b/\j+n<256:=by
 rcases Ug hn with rfl|rfl|rfl|rfl|rfl|rfl|rfl|rfl<;>(simp only[Nat.reduceMul,Nat.reduceDiv]at*;omega)
def kR(w w':World)(v:Value)(l:List Int):Prop:=∃y:ag,v=.slice y.a y.n y.c/\Own w' w.heap.size aU 1 y (bf l)/\Mod [] w w'
theorem OW(x:ag)(l:List Int)(hl:l.length<=1000000)(w:World)(hx:cl w x l):Ok Pr X6 [.slice x.a x.n x.c] w λv w'=>kR w w' v l:=by
 refine aC Tryz.func253 ?_
 have aT:=hx.len
 refine aZ (λhc=>?_) (λhc=>?_)
 ·have h0:l=[]:=by
   rcases Nat.eq_zero_or_pos l.length with h|h
   ·exact List.eq_nil_of_length_eq_zero h
   ·have:=hx.some (by omega)
    rw[Option.isNone_iff_eq_none.1 hc]at this
    cases this
  rw[h0]
  exact⟨⟨none,0,0⟩,rfl,Own.nil _ _ _ _,Mod.refl _ _⟩
 ·refine(ah.start w).nw λp w1 H _=>?_
  have H:=H.qI 0 1 0 0 rfl rfl (Nat.le_refl _) (by decide)
  refine H.V5 (s:=⟨some ⟨p,0,none⟩,0,0⟩) (vs:=[]) 0 ou rfl (hx.av H.mod) (by show 0+x.n<=_;omega) λy w2 H _=>?_
  exact⟨y,rfl,H.cm 0 rfl,H.mod⟩
theorem Dj(x:ag)(l:List B8)(hl:l.length<=1000000)(w:World)(hx:Bytes w x l):Ok Pr OR [.slice x.a x.n x.c] w λv w'=>iN w w' v l:=by
 refine aC Tryz.func75 ?_
 have aT:=hx.len
 refine aZ (λhc=>?_) (λhc=>?_)
 ·have h0:l=[]:=by
   rcases Nat.eq_zero_or_pos l.length with h|h
   ·exact List.eq_nil_of_length_eq_zero h
   ·have:=Bytes.some hx (by omega)
    rw[Option.isNone_iff_eq_none.1 hc]at this
    cases this
  rw[h0]
  exact⟨⟨none,0,0⟩,rfl,Own.nil _ _ _ _,Mod.refl _ _⟩
 ·refine(ah.start w).nw λp w1 H _=>?_
  have H:=H.qI 0 1 0 0 rfl rfl (Nat.le_refl _) (by decide)
  refine H.iX (s:=⟨some ⟨p,0,none⟩,0,0⟩) (vs:=[]) 0 cg rfl (hx.av H.mod) (by show 0+x.n<=_;omega) λy w2 H _=>?_
  exact⟨y,rfl,H.cm 0 rfl,H.mod⟩
theorem Wa{m k:Nat}(hm:m<9223372036854775808):nF .i64 (shr .i64 (m:Int) (k:Int)) 1=((m / 2 ^ k%2:Nat):Int):=by
 rw[yC hm,show(1:Int)=((1:Nat):Int) from rfl,ER (Nat.lt_of_le_of_lt (Nat.div_le_self _ _) hm) (by omega),Nat.and_one_is_mod]
theorem nJ{n b:Nat}(hn:n∈[1,2,4,8,16,32,64,128]):(2*n*b<256↔b<128 / n)/\(b<=128 / n->2*n*b<=256)/\128 / n<=128/\2*n*(128 / n)=256/\n<=128/\1<=n/\256 / n=2*(128 / n):=by
 rcases Ug hn with rfl|rfl|rfl|rfl|rfl|rfl|rfl|rfl<;>(refine⟨⟨λh=>?_,λh=>?_⟩,λh=>?_,?_,?_,?_,?_,?_⟩<;>omega)
theorem Uh{k:Nat}(h:k<8):2 ^ k∈[1,2,4,8,16,32,64,128]:=by
 have:k=0\/k=1\/k=2\/k=3\/k=4\/k=5\/k=6\/k=7:=by omega
 rcases this with rfl|rfl|rfl|rfl|rfl|rfl|rfl|rfl<;>decide
def dn(s n j:Nat)(i:Nat):Bool:=decide (i<s\/(s<=i/\i<j)\/(s+n<=i/\i<j+n))
theorem Hf(s n:Nat)(h1:1<=n)(i:Nat):dn s n s i=decide (i<s):=by
 unfold dn
 rw[decide_eq_decide];omega
theorem Ig(s n:Nat)(i:Nat):dn s n (s+n) i=decide (i<s+2*n):=by
 unfold dn
 rw[decide_eq_decide];omega
theorem LG{s n:Nat}(h1:s<=j)(h2:j<s+n)(i:Nat):dn s n (j+1) i=(dn s n j i||i == j+n||i == j):=by
 unfold dn
 rw[Bool.eq_iff_iff]
 simp only[Bool.or_eq_true,decide_eq_true_eq,beq_iff_eq]
 omega
theorem Iz{s n:Nat}(h1:s<=j)(h2:j<s+n):dn s n j j=false/\dn s n j (j+n)=false:=by
 unfold dn
 rw[decide_eq_false_iff_not,decide_eq_false_iff_not];omega
theorem D3(x:Int)(h:0<=x):Int.tmod x 3329=x%3329:=Int.tmod_eq_emod_of_nonneg h
theorem Ui(x:Int)(h:x<0):Int.tmod x 3329 = -((-x)%3329):=by
 have e:Int.tmod (-(-x)) 3329 = -(Int.tmod (-x) 3329):=Int.neg_tmod (-x) 3329
 rw[Int.neg_neg]at e
 rw[e,D3 (-x) (by omega)]
theorem BI(x:Int)(w:World):Ok Pr agc [.int .i64 x] w λv w'=>v=.int .i64 (x%3329)/\w'=w:=by
 refine aC Tryz.func284 (m:=⟨true,false⟩) (N:=[0]) ?_
 rcases Int.lt_or_le x 0 with h|h
 ·have e:=Ui x h
  generalize Int.tmod x 3329=t at*
  refine aZ (λhc=>?_) (λhc=>?_)
  ·have hc:=of_decide_eq_true hc
   refine⟨⟨by omega,by omega⟩,nD ⟨?_,rfl⟩⟩
   rw[show t+3329=x%3329 by omega]
  ·have hc:=of_decide_eq_false hc
   refine⟨?_,rfl⟩
   rw[show t=x%3329 by omega]
 ·have e:=D3 x h
  generalize Int.tmod x 3329=t at*
  refine aZ (λhc=>?_) (λhc=>?_)
  ·have hc:=of_decide_eq_true hc
   omega
  ·exact⟨by rw[e],rfl⟩
theorem xL(x:Int)(w:World):Ok Pr aga [.int .i64 x] w λv w'=>v=.int .i64 (x%3329)/\w'=w:=by
 refine aC Tryz.func273 (m:=⟨true,false⟩) ?_
 rcases Int.lt_or_le x 0 with h|h
 ·have e:=Ui x h
  generalize Int.tmod x 3329=t at*
  have e2:=D3 (t+3329) (by omega)
  rw[e2]
  refine⟨⟨by omega,by omega⟩,?_,rfl⟩
  rw[show(t+3329)%3329=x%3329 by omega]
 ·have e:=D3 x h
  generalize Int.tmod x 3329=t at*
  have e2:=D3 (t+3329) (by omega)
  rw[e2]
  refine⟨⟨by omega,by omega⟩,?_,rfl⟩
  rw[show(t+3329)%3329=x%3329 by omega]
theorem aed(a b:Int)(w:World):Ok Pr RF [.int .i64 a,.int .i64 b] w λv w'=>v=.int .i64 ((a+b)%3329)/\w'=w:=by
 refine aC Tryz.func261 ?_
 refine an (BI a w) ?_
 rintro _ w1 ⟨rfl,hw⟩
 subst hw
 refine bH (an (BI b _) ?_)
 rintro _ w2 ⟨rfl,hw⟩
 subst hw
 refine bH ⟨⟨by omega,by omega⟩,by omega,?_,rfl⟩
 rw[show(a%3329+b%3329)%3329=(a+b)%3329 by omega]
theorem aee(a b:Int)(w:World):Ok Pr RE [.int .i64 a,.int .i64 b] w λv w'=>v=.int .i64 ((a - b)%3329)/\w'=w:=by
 refine aC Tryz.func252 ?_
 refine an (BI a w) ?_
 rintro _ w1 ⟨rfl,hw⟩
 subst hw
 refine bH ⟨⟨by omega,by omega⟩,an (BI b _) ?_⟩
 rintro _ w2 ⟨rfl,hw⟩
 subst hw
 refine bH ⟨⟨by omega,by omega⟩,by omega,?_,rfl⟩
 rw[show(a%3329+3329 - b%3329)%3329=(a - b)%3329 by omega]
theorem Re(a b:Int)(w:World):Ok Pr ae7 [.int .i64 a,.int .i64 b] w λv w'=>v=.int .i64 ((a+b)%3329)/\w'=w:=by
 refine aC Tryz.func237 ?_
 refine an (xL a w) ?_
 rintro _ w1 ⟨rfl,hw⟩
 subst hw
 refine bH (an (xL b _) ?_)
 rintro _ w2 ⟨rfl,hw⟩
 subst hw
 refine bH ⟨⟨by omega,by omega⟩,an (xL _ _) ?_⟩
 rintro _ w3 ⟨rfl,hw⟩
 subst hw
 refine bH ⟨?_,rfl⟩
 rw[show(a%3329+b%3329)%3329=(a+b)%3329 by omega]
theorem aef(a b:Int)(w:World):Ok Pr afc [.int .i64 a,.int .i64 b] w λv w'=>v=.int .i64 ((a - b)%3329)/\w'=w:=by
 refine aC Tryz.func275 ?_
 refine an (xL a w) ?_
 rintro _ w1 ⟨rfl,hw⟩
 subst hw
 refine bH (an (xL b _) ?_)
 rintro _ w2 ⟨rfl,hw⟩
 subst hw
 refine bH ⟨⟨by omega,by omega⟩,an (xL _ _) ?_⟩
 rintro _ w3 ⟨rfl,hw⟩
 subst hw
 refine bH ⟨?_,rfl⟩
 rw[show(a%3329 - b%3329)%3329=(a - b)%3329 by omega]
theorem Tm(a b k:Nat):b ^ k%3329=(b*b%3329) ^ (k / 2)*b ^ (k%2)%3329:=by
 rw[Nat.mul_mod,<- Nat.pow_mod,<- Nat.mul_mod,<- Nat.pow_two,<- Nat.pow_mul,<- Nat.pow_add,Nat.div_add_mod]
theorem Sv(a b k:Nat)(h:k%2=0):a*(b*b%3329) ^ (k / 2)%3329=a*b ^ k%3329:=by
 rw[Nat.mul_mod a (b ^ k),Tm a b,h,Nat.pow_zero,Nat.mul_one,<- Nat.mul_mod]
theorem Sw(a b k:Nat)(h:k%2=1):a*b%3329*(b*b%3329) ^ (k / 2)%3329=a*b ^ k%3329:=by
 rw[Nat.mul_mod a (b ^ k),Tm a b,h,Nat.pow_one,<- Nat.mul_mod,Nat.mod_mul_mod,Nat.mul_assoc,Nat.mul_comm b]
theorem aeg(n:Nat)(hn:n<256)(w:World):Ok Pr afe [.int .i64 17,.int .i64 (n:Int)] w λv w'=>v=.int .i64 ((17 ^ n%3329:Nat):Int)/\w'=w:=by
 refine aC Tryz.func285 (J:=[(9,[(5,.int .i64)])]) (L:=[(5,[(0,.int .i64),(1,.int .i64),(5,.int .i64)])]) ?_
 refine ite_false (decide_eq_false (by omega)) (an (BI 17 w) ?_)
 rintro _ w1 ⟨rfl,hw⟩
 subst hw
 refine bH ?_
 refine DQ (λ(x:Int) (n1:Int) (out:Int) w'=>∃k a b:Nat,n1=(k:Int)/\out=(a:Int)/\x=(b:Int)/\k<256/\a<3329/\b<3329/\a*b ^ k%3329=17 ^ n%3329/\w'=w1) (λ_ n1 _ _=>n1.toNat)
  ⟨n,1,17,rfl,rfl,rfl,hn,by omega,by omega,by rw[Nat.one_mul],rfl⟩ ?_
 rintro again _ _ _ w2 ⟨k,a,b,rfl,rfl,rfl,hk,ha,hb,he,hw⟩ aB
 subst hw
 refine aZ (λhc=>?_) (λhc=>?_)
 ·have hc:=of_decide_eq_true hc
  have hbb:b*b<=3329*3329:=Nat.mul_le_mul (by omega) (by omega)
  have FB:a*b<=3329*3329:=Nat.mul_le_mul (by omega) (by omega)
  refine fo λgo aV=>⟨by omega,?_⟩
  have next:∀(a':Nat),a'<3329->a'*(b*b%3329) ^ (k / 2)%3329=a*b ^ k%3329->go (a':Int) w2:=by
   intro a' NZ N0
   refine aV _ _ ?_
   rw[show(b:Int)*(b:Int)=((b*b:Nat):Int) by rw[Int.natCast_mul]]
   refine⟨⟨by omega,by omega⟩,by omega,⟨by omega,by rw[show IntKind.max .i64=9223372036854775807 by decide];omega⟩,?_⟩
   exact aB _ _ _ _ ⟨k / 2,a',b*b%3329,by omega,rfl,by omega,by omega,NZ,Nat.mod_lt _ (by omega),N0.trans he,rfl⟩ (by omega)
  rcases Nat.mod_two_eq_zero_or_one k with h|h
  ·exact ite_false (decide_eq_false (by omega)) (next a ha (Sv a b k h))
  ·refine ite_true (decide_eq_true (by omega)) ?_
   rw[show(a:Int)*(b:Int)=((a*b:Nat):Int) by rw[Int.natCast_mul]]
   refine⟨⟨by omega,by omega⟩,by omega,?_⟩
   have:=next (a*b%3329) (Nat.mod_lt _ (by omega)) (Sw a b k h)
   rw[show((a*b:Nat):Int)%3329=((a*b%3329:Nat):Int) by omega]
   exact this
 ·have hc:=of_decide_eq_false hc
  obtain rfl:k=0:=by omega
  rw[Nat.pow_zero,Nat.mul_one,Nat.mod_eq_of_lt ha]at he
  exact⟨by rw[he],rfl⟩
theorem Rf(n:Nat)(hn:n<256)(w:World):Ok Pr aff [.int .i64 17,.int .i64 (n:Int)] w λv w'=>v=.int .i64 ((17 ^ n%3329:Nat):Int)/\w'=w:=by
 refine aC Tryz.func289 (J:=[(7,[(5,.int .i64)])]) (L:=[(4,[(1,.int .i64),(5,.int .i64),(6,.int .i64)])]) ?_
 refine ite_false (decide_eq_false (by omega)) (an (xL 17 w) ?_)
 rintro _ w1 ⟨rfl,hw⟩
 subst hw
 refine bH ?_
 refine DQ (λ(n1:Int) (out:Int) (x:Int) w'=>∃k a b:Nat,n1=(k:Int)/\out=(a:Int)/\x=(b:Int)/\k<256/\a<3329/\b<3329/\a*b ^ k%3329=17 ^ n%3329/\w'=w1) (λn1 _ _ _=>n1.toNat)
  ⟨n,1,17,rfl,rfl,rfl,hn,by omega,by omega,by rw[Nat.one_mul],rfl⟩ ?_
 rintro again _ _ _ w2 ⟨k,a,b,rfl,rfl,rfl,hk,ha,hb,he,hw⟩ aB
 subst hw
 refine aZ (λhc=>?_) (λhc=>?_)
 ·have hc:=of_decide_eq_true hc
  have hbb:b*b<=3329*3329:=Nat.mul_le_mul (by omega) (by omega)
  have FB:a*b<=3329*3329:=Nat.mul_le_mul (by omega) (by omega)
  refine fo λgo aV=>⟨by omega,?_⟩
  have next:∀(a':Nat),a'<3329->a'*(b*b%3329) ^ (k / 2)%3329=a*b ^ k%3329->go (a':Int) w2:=by
   intro a' NZ N0
   refine aV _ _ ?_
   rw[show(b:Int)*(b:Int)=((b*b:Nat):Int) by rw[Int.natCast_mul]]
   refine⟨⟨by omega,by omega⟩,by omega,⟨by omega,by rw[show IntKind.max .i64=9223372036854775807 by decide];omega⟩,?_⟩
   exact aB _ _ _ _ ⟨k / 2,a',b*b%3329,by omega,rfl,by omega,by omega,NZ,Nat.mod_lt _ (by omega),N0.trans he,rfl⟩ (by omega)
  rcases Nat.mod_two_eq_zero_or_one k with h|h
  ·exact ite_false (decide_eq_false (by omega)) (next a ha (Sv a b k h))
  ·refine ite_true (decide_eq_true (by omega)) ?_
   rw[show(a:Int)*(b:Int)=((a*b:Nat):Int) by rw[Int.natCast_mul]]
   refine⟨⟨by omega,by omega⟩,by omega,?_⟩
   have:=next (a*b%3329) (Nat.mod_lt _ (by omega)) (Sw a b k h)
   rw[show((a*b:Nat):Int)%3329=((a*b%3329:Nat):Int) by omega]
   exact this
 ·have hc:=of_decide_eq_false hc
  obtain rfl:k=0:=by omega
  rw[Nat.pow_zero,Nat.mul_one,Nat.mod_eq_of_lt ha]at he
  exact⟨by rw[he],rfl⟩
def sq(m:Nat):Nat:=up (λo i=>2*o+m / 2 ^ i%2) 0 7
theorem U0:∀m:Fin 128,sq m.val<128:=by decide +kernel
def zr(m:Nat):Int:=((17 ^ sq m%3329:Nat):Int)
def zq(m:Nat):Int:=((17 ^ (2*sq m+1)%3329:Nat):Int)
theorem El(m:Nat):0<=zr m/\zr m<3329:=by
 unfold zr
 have:=Nat.mod_lt (17 ^ sq m) (show 0<3329 by omega)
 omega
theorem U1(m:Nat):0<=zq m/\zq m<3329:=by
 unfold zq
 have:=Nat.mod_lt (17 ^ (2*sq m+1)) (show 0<3329 by omega)
 omega
theorem akf(m:Nat):17*zr m%3329*zr m%3329=zq m:=by
 unfold zr zq
 generalize sq m=k
 have e:17*(17 ^ k%3329)%3329*(17 ^ k%3329)%3329=17 ^ (2*k+1)%3329:=by
  simp only[Nat.mod_mul_mod,Nat.mul_mod_mod]
  congr 1
  rw[Nat.pow_succ,Nat.two_mul,Nat.pow_add]
  generalize 17 ^ k=p
  rw[Nat.mul_comm 17 p,Nat.mul_assoc,Nat.mul_comm 17 p,<- Nat.mul_assoc]
 rw[<- e]
 generalize 17 ^ k%3329=p
 simp only[Int.natCast_emod,Int.natCast_mul]
 rfl
theorem Kh(m:Nat)(hm:m<128)(w:World):Ok Pr adI [.int .i64 (m:Int)] w λv w'=>v=.int .i64 (zr m)/\w'=w:=by
 refine aC Tryz.func254 (L:=[(3,[(3,.int .i64),(5,.int .i64)])]) (N:=[3]) ?_
 refine eZ 0 7 (λk (o:Int) w'=>(∃n:Nat,o=(n:Int)/\n=up (λo i=>2*o+m / 2 ^ i%2) 0 k/\n<2 ^ k)/\w'=w) rfl (by omega) ⟨⟨0,rfl,rfl,by decide⟩,rfl⟩ ?_ ?_
 ·rintro again k _ _ _ hk ⟨⟨n,rfl,hn,bB⟩,rfl⟩ aB
  have hb:2 ^ k<=2 ^ 7:=Nat.pow_le_pow_right (by omega) (by omega)
  have h8:(2:Nat) ^ 7=128:=by decide
  have rS:=Nat.mod_lt (m / 2 ^ k) (show 0<2 by omega)
  refine ite_true (decide_eq_true (by omega)) ⟨⟨by omega,by omega⟩,fG (by omega) ?_⟩
  rw[Wa (by omega)]
  refine⟨⟨by omega,by omega⟩,nD ⟨⟨by omega,by omega⟩,aB _ _ ⟨⟨2*n+m / 2 ^ k%2,by omega,?_,?_⟩,rfl⟩⟩⟩
  ·rw[iw,<- hn]
  ·rw[Nat.pow_succ];omega
 ·rintro again _ _ ⟨⟨n,rfl,hn,bB⟩,rfl⟩
  refine ite_false (by decide) (an (aeg n (by omega) _) ?_)
  rintro _ w1 ⟨rfl,hw⟩
  subst hw
  refine bH ⟨?_,rfl⟩
  rw[hn];rfl
theorem PM(m:Nat)(hm:m<128)(w:World):Ok Pr abi [.int .i64 7,.int .i64 (m:Int)] w λv w'=>v=.int .i64 (sq m:Int)/\w'=w:=by
 refine aC Tryz.func290 (L:=[(3,[(5,.int .i64),(6,.int .i64)])]) (N:=[5]) ?_
 refine eZ 0 7 (λk (o:Int) w'=>(∃n:Nat,o=(n:Int)/\n=up (λo i=>2*o+m / 2 ^ i%2) 0 k/\n<2 ^ k)/\w'=w) rfl (by omega) ⟨⟨0,rfl,rfl,by decide⟩,rfl⟩ ?_ ?_
 ·rintro again k _ _ _ hk ⟨⟨n,rfl,hn,bB⟩,rfl⟩ aB
  have hb:2 ^ k<=2 ^ 7:=Nat.pow_le_pow_right (by omega) (by omega)
  have h8:(2:Nat) ^ 7=128:=by decide
  have rS:=Nat.mod_lt (m / 2 ^ k) (show 0<2 by omega)
  refine ite_true (decide_eq_true (by omega)) ⟨⟨by omega,by omega⟩,fG (by omega) ?_⟩
  rw[Wa (by omega)]
  refine⟨⟨by omega,by omega⟩,nD ⟨⟨by omega,by omega⟩,aB _ _ ⟨⟨2*n+m / 2 ^ k%2,by omega,?_,?_⟩,rfl⟩⟩⟩
  ·rw[iw,<- hn]
  ·rw[Nat.pow_succ];omega
 ·rintro again _ _ ⟨⟨n,rfl,hn,bB⟩,rfl⟩
  refine ite_false (by decide) ⟨?_,rfl⟩
  rw[hn];rfl
theorem QE(m:Nat)(hm:m<128)(w:World):Ok Pr adQ [.int .i64 (m:Int)] w λv w'=>v=.int .i64 (zr m)/\w'=w:=by
 refine aC Tryz.func271 ?_
 refine an (PM m hm w) ?_
 rintro _ w1 ⟨rfl,hw⟩
 subst hw
 have:=U0 ⟨m,hm⟩
 simp only at this
 refine bH (an (Rf (sq m) (by omega) _) ?_)
 rintro _ w2 ⟨rfl,hw⟩
 subst hw
 exact bH ⟨rfl,rfl⟩
def uY(d:Nat)(x:Int):Nat:=((x%3329).toNat*2 ^ (d+1)+3329) / 6658%2 ^ d
def lK(d:Nat)(y:Nat):Int:=((3329*(y%2 ^ d)*2+2 ^ d) / 2 ^ (d+1):Nat)
theorem vV{d:Nat}(hd:d<=11):1<=2 ^ d/\2 ^ d<=2048/\2 ^ (d+1)=2*2 ^ d:=
 ⟨Nat.pow_pos (by omega),Nat.pow_le_pow_right (show 0<2 by omega) hd,by rw[Nat.pow_succ,Nat.mul_comm]⟩
theorem Hv{d:Nat}(hd:d<=11):shl .i64 1 (d:Int)=((2 ^ d:Nat):Int):=by
 have h:=vV hd
 rw[show(1:Int)=((1:Nat):Int) from rfl,wB (by omega) (by omega),Nat.one_mul]
theorem Ll{n d:Nat}(hn:n<9223372036854775808)(hd:d<=11):nF .i64 (n:Int) (((2 ^ d:Nat):Int) - 1)=((n%2 ^ d:Nat):Int):=by
 have h:=vV hd
 rw[show((2 ^ d:Nat):Int) - 1=((2 ^ d - 1:Nat):Int) by omega,ER hn (by omega),Nat.and_two_pow_sub_one_eq_mod]
theorem aiA{d y:Nat}(hd:d<=11)(h1:1<=d):0<=lK d y/\lK d y<3329:=by
 obtain⟨h2,h3,h4⟩:=vV hd
 unfold lK
 refine⟨Int.natCast_nonneg _,?_⟩
 have hy:=Nat.mod_lt y (show 0<2 ^ d by omega)
 have:(3329*(y%2 ^ d)*2+2 ^ d) / 2 ^ (d+1)<3329:=by
  rw[Nat.div_lt_iff_lt_mul (by omega),h4]
  have h5:2<=2 ^ d:=by
   have:=Nat.pow_le_pow_right (show 0<2 by omega) h1
   omega
  generalize 2 ^ d=q at*
  omega
 omega
theorem ajn{d:Nat}(x:Int):uY d x<2 ^ d:=Nat.mod_lt _ (Nat.pow_pos (by omega))
theorem aap(d:Nat)(h1:1<=d)(hd:d<=11)(x:Int)(w:World):Ok Pr abf [.int .i64 (d:Int),.int .i64 x] w λv w'=>v=.int .i64 (uY d x:Int)/\Mod [] w w':=by
 obtain⟨h2,h3,h4⟩:=vV hd
 refine aC Tryz.func257 ?_
 refine ite_false (by rw[decide_eq_false (show ¬(d:Int)<1 by omega),decide_eq_false (show ¬11<(d:Int) by omega)];rfl) ⟨⟨by omega,by omega⟩,fG (by omega) ?_⟩
 rw[Hv hd]
 refine⟨⟨by omega,by omega⟩,an (BI x _) ?_⟩
 rintro _ w1 ⟨rfl,hw⟩
 subst hw
 obtain⟨t,ht⟩:∃t:Nat,x%3329=(t:Int):=⟨(x%3329).toNat,by omega⟩
 have ht2:t<3329:=by omega
 have htb:t*2 ^ (d+1)<=3329*4096:=Nat.mul_le_mul (by omega) (by omega)
 rw[ht]
 refine bH (fG (by omega) ?_)
 rw[show(d:Int)+1=((d+1:Nat):Int) by omega,wB (by omega) (by omega)]
 have e:uY d x=(t*2 ^ (d+1)+3329) / 6658%2 ^ d:=by unfold uY;rw[ht];rfl
 rw[e]
 generalize t*2 ^ (d+1)=T at*
 refine⟨⟨by omega,by omega⟩,⟨by omega,by rw[show IntKind.max .i64=9223372036854775807 by decide];omega⟩,?_,Mod.drew _ _⟩
 rw[show((T:Int)+3329) / 6658=(((T+3329) / 6658:Nat):Int) by omega,Ll (by omega) hd]
theorem Pu(d:Nat)(h1:1<=d)(hd:d<=11)(y:Nat)(hy:y<9223372036854775808)(w:World):Ok Pr aad [.int .i64 (d:Int),.int .i64 (y:Int)] w λv w'=>v=.int .i64 (lK d y)/\Mod [] w w':=by
 obtain⟨h2,h3,h4⟩:=vV hd
 refine aC Tryz.func250 ?_
 refine ite_false (by rw[decide_eq_false (show ¬(d:Int)<1 by omega),decide_eq_false (show ¬11<(d:Int) by omega)];rfl) (fG (by omega) ?_)
 rw[Hv hd]
 refine⟨⟨by omega,by omega⟩,?_⟩
 rw[Ll hy hd]
 have hm:=Nat.mod_lt y (show 0<2 ^ d by omega)
 have e:lK d y=(((3329*(y%2 ^ d)*2+2 ^ d) / 2 ^ (d+1):Nat):Int):=rfl
 rw[e]
 generalize y%2 ^ d=m at*
 refine⟨⟨by omega,by omega⟩,fG (by omega) ?_⟩
 rw[show 3329*(m:Int)=((3329*m:Nat):Int) by omega,show shl .i64 ((3329*m:Nat):Int) 1=((3329*m*2 ^ 1:Nat):Int) from wB (k:=1) (by omega) (by omega)]
 rw[Nat.pow_one]
 refine⟨⟨by omega,by omega⟩,⟨by omega,by omega⟩,fG (by omega) ⟨?_,Mod.drew _ _⟩⟩
 rw[show(d:Int)+1=((d+1:Nat):Int) by omega,show((3329*m*2:Nat):Int)+((2 ^ d:Nat):Int)=((3329*m*2+2 ^ d:Nat):Int) by omega,yC (by omega)]
theorem aaq(d:Nat)(h1:1<=d)(hd:d<=11)(x:Int)(w:World):Ok Pr abh [.int .i64 (d:Int),.int .i64 x] w λv w'=>v=.int .i64 (uY d x:Int)/\Mod [] w w':=by
 obtain⟨h2,h3,h4⟩:=vV hd
 refine aC Tryz.func272 ?_
 refine ite_false (by rw[decide_eq_false (show ¬(d:Int)<1 by omega),decide_eq_false (show ¬11<(d:Int) by omega)];rfl) (fG (by omega) (fG (by omega) (an (xL x _) ?_)))
 rintro _ w1 ⟨rfl,hw⟩
 subst hw
 obtain⟨t,ht⟩:∃t:Nat,x%3329=(t:Int):=⟨(x%3329).toNat,by omega⟩
 have ht2:t<3329:=by omega
 have htb:t*2 ^ (d+1)<=3329*4096:=Nat.mul_le_mul (by omega) (by omega)
 have e:uY d x=(t*2 ^ (d+1)+3329) / 6658%2 ^ d:=by unfold uY;rw[ht];rfl
 rw[ht,e,Hv hd]
 have e2:2*(t:Int)*((2 ^ d:Nat):Int)=((t*2 ^ (d+1):Nat):Int):=by
  rw[h4,show 2*(t:Int)=((2*t:Nat):Int) by omega,<- Int.natCast_mul]
  congr 1
  rw[Nat.mul_comm 2 t,Nat.mul_assoc]
 refine bH ⟨⟨by omega,by omega⟩,?_⟩
 rw[e2]
 generalize t*2 ^ (d+1)=T at*
 refine⟨⟨by omega,by omega⟩,⟨by omega,by omega⟩,⟨by omega,by rw[show IntKind.max .i64=9223372036854775807 by decide];omega⟩,?_⟩
 refine Cl (by omega) ⟨by omega,?_,Mod.drew _ _⟩
 rw[show((T:Int)+3329) / 6658=(((T+3329) / 6658:Nat):Int) by omega,<- Int.natCast_emod]
theorem ZJ(d:Nat)(h1:1<=d)(hd:d<=11)(y:Nat)(hy:y<9223372036854775808)(w:World):Ok Pr aae [.int .i64 (d:Int),.int .i64 (y:Int)] w λv w'=>v=.int .i64 (lK d y)/\Mod [] w w':=by
 obtain⟨h2,h3,h4⟩:=vV hd
 refine aC Tryz.func274 ?_
 refine ite_false (by rw[decide_eq_false (show ¬(d:Int)<1 by omega),decide_eq_false (show ¬11<(d:Int) by omega)];rfl) (fG (by omega) ?_)
 rw[Hv hd]
 refine⟨⟨by omega,by omega⟩,?_⟩
 rw[Ll hy hd]
 have hm:=Nat.mod_lt y (show 0<2 ^ d by omega)
 have e:lK d y=(((3329*(y%2 ^ d)*2+2 ^ d) / 2 ^ (d+1):Nat):Int):=rfl
 rw[e]
 generalize y%2 ^ d=m at*
 refine⟨⟨by omega,by omega⟩,fG (by omega) ⟨⟨by omega,by omega⟩,⟨by omega,by omega⟩,fG (by omega) ⟨?_,Mod.drew _ _⟩⟩⟩
 rw[show(d:Int)+1=((d+1:Nat):Int) by omega,show 6658*(m:Int)+((2 ^ d:Nat):Int)=((3329*m*2+2 ^ d:Nat):Int) by omega,yC (by omega)]
theorem Ih{q:Nat}(hq:q<8):2 ^ (7 - q)∈[1,2,4,8,16,32,64,128]/\2 ^ (8 - (q+1))=2 ^ (7 - q)/\2 ^ (8 - q)=2*2 ^ (7 - q)/\2 ^ q=128 / 2 ^ (7 - q)/\2 ^ (q+1)=2*(128 / 2 ^ (7 - q)):=by
 have:q=0\/q=1\/q=2\/q=3\/q=4\/q=5\/q=6\/q=7:=by omega
 rcases this with rfl|rfl|rfl|rfl|rfl|rfl|rfl|rfl<;>decide
theorem Tn{s n:Nat}(h1:s<=j)(h2:j<s+n)(i:Nat):dn s n (j+1) i=(dn s n j i||i == j||i == j+n):=by
 rw[LG h1 h2,Bool.or_assoc,Bool.or_assoc,Bool.or_comm (i == j+n)]
theorem gl(z A B:Int):z*(B+8380417 - A)%8380417=z*(B - A)%8380417:=by
 have e:z*(B+8380417 - A)=z*(B - A)+z*8380417:=by grind
 rw[e,Int.add_mul_emod_self_right]
theorem vR{A:Type}{l:List A}{i:Nat}(hi:i<l.length)(d:A):l.getD i d∈l:=by
 rw[List.getD_eq_getElem?_getD,List.getElem?_eq_getElem hi];exact List.getElem_mem hi
structure Pq(l:List Int):Prop where
 len:l.length=256
 N1:∀x∈l,0<=x/\x<3329
def qR(x:Int):Bool:=decide (x<0)||decide (3329<=x)
def l9(l:List Int):Bool:=decide (l.length=256)&&!(l.any qR)
theorem KQ{x:Int}:qR x=false↔0<=x/\x<3329:=by
 unfold qR
 rw[Bool.or_eq_false_iff,decide_eq_false_iff_not,decide_eq_false_iff_not]
 omega
theorem To{l:List Int}:l9 l=true↔Pq l:=by
 unfold l9
 rw[Bool.and_eq_true,decide_eq_true_eq,Bool.not_eq_true',List.any_eq_false]
 constructor
 ·rintro⟨h1,h2⟩
  exact⟨h1,λx hx=>KQ.1 (by simpa using h2 x hx)⟩
 ·rintro⟨h1,h2⟩
  exact⟨h1,λx hx=>by rw[KQ.2 (h2 x hx)];decide⟩
theorem Pq.may{l:List Int}(h:Pq l):l9 l=true:=To.2 h
theorem afu:jB Pr Qv=true:=by kernel_rfl
theorem Y6(w:World):LF w (.func (.func Qv) ⟨[]⟩ ⟨[]⟩) qR:=λx w' m=>by
 refine zP afu ?_
 refine aC Tryz.func283 ?_
 exact⟨rfl,Mod.refl _ _⟩
theorem zE(x:ag)(l:List Int)(hl:l.length<=1000000000)(w:World)(hx:cl w x l):Ok Pr RD [.slice x.a x.n x.c] w λv w'=>v=.bool (l9 l)/\Mod [] w w':=by
 refine aC Tryz.func249 ?_
 have aT:=hx.len
 refine aZ (λhc=>?_) (λhc=>?_)
 ·have hc:=of_decide_eq_true hc
  refine an (XT _ qR x l hl w hx (Y6 w)) ?_
  rintro _ w1 ⟨rfl,m⟩
  refine aN ⟨?_,m⟩
  unfold l9
  rw[decide_eq_true (show l.length=256 by omega)];rfl
 ·have hc:=of_decide_eq_false hc
  refine⟨?_,Mod.refl _ _⟩
  unfold l9
  rw[decide_eq_false (show ¬l.length=256 by omega)];rfl
theorem Co{f:Nat->Int}(h:∀i,i<256->0<=f i/\f i<3329):Pq (pg f):=by
 refine⟨vH f,λx hx=>?_⟩
 unfold pg at hx
 obtain⟨i,hi,rfl⟩:=List.mem_map.1 hx
 exact h i (List.mem_range.1 hi)
theorem Pq.get{l:List Int}(h:Pq l){i:Nat}(hi:i<256):0<=l.getD i 0/\l.getD i 0<3329:=by
 have hl:i<l.length:=by have:=h.len;omega
 rw[List.getD_eq_getElem?_getD,List.getElem?_eq_getElem hl]
 exact h.N1 _ (List.getElem_mem hl)
theorem CF(x:Int):0<=x%3329/\x%3329<3329:=⟨by omega,by omega⟩
def kB(f g:List Int):List Int:=pg λi=>(f.getD i 0+g.getD i 0)%3329
def Au(f g:List Int):List Int:=pg λi=>(f.getD i 0 - g.getD i 0)%3329
def qS(f g:List Int):List Int:=pg λi=>
 if i%2=0 then (f.getD i 0*g.getD i 0+f.getD (i+1) 0*g.getD (i+1) 0%3329*zq (i / 2))%3329 else (f.getD (i - 1) 0*g.getD i 0+f.getD i 0*g.getD (i - 1) 0)%3329
theorem B9(f g:List Int):Pq (kB f g):=Co λi _=>CF _
theorem LH(f g:List Int):Pq (Au f g):=Co λi _=>CF _
theorem LJ(f g:List Int):Pq (qS f g):=Co λi _=>by split<;>exact CF _
def iH(n:Nat)(l:List Int):List Int:=pg λi=>
 if i / n%2=0 then (l.getD i 0+zr (128 / n+i / (2*n))*l.getD (i+n) 0)%3329 else (l.getD (i - n) 0 - zr (128 / n+i / (2*n))*l.getD i 0)%3329
def js(n:Nat)(l:List Int):List Int:=pg λi=>
 if i / n%2=0 then (l.getD i 0+l.getD (i+n) 0)%3329 else zr (256 / n - 1 - i / (2*n))*(l.getD i 0 - l.getD (i - n) 0)%3329
theorem Em(n:Nat)(l:List Int):Pq (iH n l):=Co λi _=>by split<;>exact CF _
theorem Ii(n:Nat)(l:List Int):Pq (js n l):=Co λi _=>by split<;>exact CF _
def nL(l:List Int):List Int:=pg λi=>l.getD i 0*3303%3329
def yD:Nat->List Int->List Int
 |0,l=>l
 |k+1,l=>yD k (iH (2 ^ (k+1)) l)
def yE:Nat->List Int->List Int
 |0,l=>nL l
 |r+1,l=>yE r (js (2 ^ (7 - r)) l)
@[irreducible] def oI(l:List Int):List Int:=yD 7 l
@[irreducible] def kS(l:List Int):List Int:=yE 7 l
theorem L9(l:List Int):yD 7 l=oI l:=by unfold oI;rfl
theorem Ma(l:List Int):yE 7 l=kS l:=by unfold kS;rfl
theorem Uj:∀(k:Nat) {l:List Int},Pq l->Pq (yD k l)
 |0,_,h=>h
 |k+1,_,_=>Uj k (Em _ _)
theorem Uk:∀(k:Nat) (l:List Int),Pq (yE k l)
 |0,l=>(Co λi _=>CF _:Pq (nL l))
 |k+1,_=>Uk k _
theorem ahu{l:List Int}(h:Pq l):Pq (oI l):=by rw[<- L9];exact Uj 7 h
theorem BX(l:List Int):Pq (kS l):=by rw[<- Ma];exact Uk 7 l
theorem Lm:Pq uG:=⟨by simp[uG],λx hx=>by rw[List.eq_of_mem_replicate hx];omega⟩
def kX(fs gs:List (List Int)):List Int:=(fs.zip gs).foldl (λs p=>kB s (qS p.1 p.2)) uG
theorem qB{a b:Int}(ha:0<=a/\a<3329)(hb:0<=b/\b<3329):0<=a*b/\a*b<=11078912:=by
 refine⟨Int.mul_nonneg ha.1 hb.1,?_⟩
 have h1:a*b<=3328*b:=Int.mul_le_mul_of_nonneg_right (by omega) hb.1
 omega
theorem Ul{n:Nat}{l:List Int}{i:Nat}(hi:i<256)(h:i / n%2=0):(iH n l).getD i 0=(l.getD i 0+zr (128 / n+i / (2*n))*l.getD (i+n) 0)%3329:=by
 unfold iH;rw[lW _ hi,if_pos h]
theorem Tp{n:Nat}{l:List Int}{i:Nat}(hi:i<256)(h:i / n%2=1):(iH n l).getD i 0=(l.getD (i - n) 0 - zr (128 / n+i / (2*n))*l.getD i 0)%3329:=by
 unfold iH;rw[lW _ hi,if_neg (by omega)]
theorem Um{n:Nat}{l:List Int}{i:Nat}(hi:i<256)(h:i / n%2=0):(js n l).getD i 0=(l.getD i 0+l.getD (i+n) 0)%3329:=by
 unfold js;rw[lW _ hi,if_pos h]
theorem Tq{n:Nat}{l:List Int}{i:Nat}(hi:i<256)(h:i / n%2=1):(js n l).getD i 0=zr (256 / n - 1 - i / (2*n))*(l.getD i 0 - l.getD (i - n) 0)%3329:=by
 unfold js;rw[lW _ hi,if_neg (by omega)]
theorem acG(x:ag)(l:List Int)(hl:Pq l)(w:World)(hx:cl w x l):Ok Pr adJ [.slice x.a x.n x.c] w λv w'=>kR w w' v (oI l):=by
 refine aC Tryz.func256 (L:=[(6,[(3,.int .i64),(4,.int .i64)]),(9,[(3,.int .i64),(5,.int .i64)]),(14,[(7,.int .i64)])]) ?_
 have wC:=hl.len
 refine an (zE x l (by omega) w hx) ?_
 rintro _ w1 ⟨rfl,m1⟩
 rw[hl.may]
 refine aN (ite_false rfl (an (OW x l (by omega) _ (hx.av m1)) ?_))
 rintro _ w2 ⟨y,rfl,hy,m2⟩
 have H:=((ah.start w).frame m1).bg m2 hy
 refine aS ?_
 have j3:y.n=256:=by have:=(H.bq 0 rfl).len;omega
 refine lV (λ(m:Int) (oO:Int) w'=>∃(k:Nat) (l':List Int),k<=7/\oO=((2 ^ k:Nat):Int)/\m=((2 ^ (7 - k):Nat):Int)/\Pq l'/\yD k l'=oI l/\
   ah w [] w' [.row aU 1 y (bf l')]) (λ_ oO _=>oO.toNat) ⟨7,l,by omega,by decide,by decide,hl,L9 l,H⟩ ?_
 rintro again _ _ w4 ⟨k,l',hk,rfl,rfl,j4,jj,H⟩ aB
 refine aZ (λhc=>?_) (λhc=>?_)
 ·have hc:=of_decide_eq_true hc
  obtain⟨k,rfl⟩:∃j,k=j+1:=⟨k - 1,by
   rcases Nat.eq_zero_or_pos k with h|h
   ·rw[h]at hc;exact absurd hc (by decide)
   ·omega⟩
  have hn:=Uh (show k+1<8 by omega)
  have eM:2 ^ (7 - (k+1))=128 / 2 ^ (k+1)/\2 ^ (7 - k)=2*(128 / 2 ^ (k+1))/\2 ^ k=2 ^ (k+1) / 2/\2 ^ k<2 ^ (k+1):=by
   have:k=0\/k=1\/k=2\/k=3\/k=4\/k=5\/k=6:=by omega
   rcases this with rfl|rfl|rfl|rfl|rfl|rfl|rfl<;>decide
  change yD k (iH (2 ^ (k+1)) l')=oI l at jj
  rw[eM.1]
  have oP:∀w',ah w [] w' [.row aU 1 y (bf (iH (2 ^ (k+1)) l'))]->again ((2*(128 / 2 ^ (k+1)):Nat):Int) ((2 ^ (k+1) / 2:Nat):Int) w':=λw' H=>by
   rw[<- eM.2.1,<- eM.2.2.1]
   refine aB _ _ w' ⟨k,iH (2 ^ (k+1)) l',by omega,rfl,rfl,Em _ _,jj,H⟩ ?_
   omega
  have tw:2<=2 ^ (k+1):=by
   have:=Nat.pow_le_pow_right (show 0<2 by omega) (show 1<=k+1 by omega)
   omega
  clear aB jj eM hc
  generalize 2 ^ (k+1)=n at*
  obtain⟨-,-,A8,lN,wO,oW,-⟩:=nJ (b:=0) hn
  obtain⟨M,hM⟩:∃M,M=128 / n:=⟨_,rfl⟩
  rw[<- hM]at A8 lN oP⊢
  have M5:M<=64:=by
   have h:=Nat.mul_le_mul_right M tw
   rw[Nat.mul_assoc]at lN
   omega
  have N3:1<=M:=by
   rcases Nat.eq_zero_or_pos M with h|h
   ·rw[h,Nat.mul_zero]at lN;omega
   ·exact h
  refine lV (λ(m:Int) (start:Int) w'=>∃b:Nat,b<=M/\m=((M+b:Nat):Int)/\start=((2*n*b:Nat):Int)/\
    ah w [] w' [.row aU 1 y (bf (fP (λi=>decide (i<2*n*b)) l' (iH n l')))]) (λ_ start _=>256 - start.toNat) ⟨0,by omega,by omega,by omega,?_⟩ ?_
  ·rw[vQ j4.len (λi _=>decide_eq_false (by omega))];exact H
  ·rintro gN _ _ w5 ⟨b,hb,rfl,rfl,H⟩ eJ
   obtain⟨fc,s7,-⟩:=nJ (b:=b) hn
   rw[<- hM]at fc s7
   refine aZ (λhc=>?_) (λhc=>?_)
   ·have hc:=of_decide_eq_true hc
    have N4:b<M:=fc.1 (by omega)
    have l6:2*n*(b+1)=2*n*b+2*n:=Nat.mul_succ _ _
    have hle:2*n*(b+1)<=256:=(nJ (b:=b+1) hn).2.1 (by omega)
    have pl:∀j,2*n*b<=j->j<2*n*b+n->j / n%2=0/\(j+n) / n%2=1/\j / (2*n)=b/\(j+n) / (2*n)=b/\j+n<256:=λj h1 h2=>places hn (by omega) h1 h2
    have Aj:∀w',ah w [] w' [.row aU 1 y (bf (fP (λi=>decide (i<2*n*b+2*n)) l' (iH n l')))]->gN ((M+b+1:Nat):Int) ((2*n*b+2*n:Nat):Int) w':=λw' H=>by
     refine eJ _ _ w' ⟨b+1,by omega,by omega,by rw[l6],?_⟩ (by omega)
     rw[l6];exact H
    clear eJ oP fc s7
    rw[l6]at hle
    generalize 2*n*b=s at*
    have em:((M+b:Nat):Int)+1=((M+b+1:Nat):Int):=by omega
    rw[em]
    have A9:M+b<128:=by omega
    have hz:=El (M+b)
    refine an (Kh (M+b) A9 _) ?_
    rintro _ wr ⟨rfl,wW⟩
    subst wW
    refine bH ⟨⟨by omega,by omega⟩,?_⟩
    refine bG s (s+n) (λj w'=>ah w [] w' [.row aU 1 y (bf (fP (dn s n j) l' (iH n l')))]) rfl (by omega) ?_ ?_ ?_
    ·rw[xS (λi _=>Hf s n oW i)];exact H
    ·intro vZ j w6 mX pn H wD
     obtain⟨p1,p2,p3,p4,p5⟩:=pl j mX pn
     obtain⟨d1,d2⟩:=Iz mX pn
     have H:=H
     have Hd:=H
     have hlen:=nk (dn s n j) l' (iH n l')
     have wZ:(j:Int)+(n:Int)=((j+n:Nat):Int):=by omega
     have ra:=j4.get (i:=j) (by omega)
     have rb:=j4.get (i:=j+n) p5
     have o1:=Ul (n:=n) (l:=l') (i:=j) (by omega) p1
     have o2:=Tp (n:=n) (l:=l') (i:=j+n) p5 p2
     rw[p3,<- hM]at o1
     rw[p4,<- hM,Nat.add_sub_cancel]at o2
     have hP:=qB hz rb
     refine⟨⟨by omega,by omega⟩,ite_true (decide_eq_true (by omega)) ?_⟩
     rw[wZ]
     refine⟨⟨by omega,by omega⟩,(Hd.bq 0 rfl).ld (i:=j+n) (by omega) rfl ?_⟩
     rw[nq p5 d2]
     obtain⟨Q,hQ⟩:∃Q,Q=zr (M+b)*l'.getD (j+n) 0:=⟨_,rfl⟩
     rw[<- hQ]at hP o1 o2⊢
     refine⟨⟨by omega,by omega⟩,by omega,⟨by omega,by omega⟩,(Hd.bq 0 rfl).ld (i:=j) (by omega) rfl ?_⟩
     rw[nq (by omega) d1]
     obtain⟨A,hA⟩:∃A,A=l'.getD j 0:=⟨_,rfl⟩
     rw[<- hA]at ra o1 o2⊢
     refine⟨⟨by omega,by omega⟩,⟨by omega,by omega⟩,by omega,Hd.mu 0 (i:=j+n) rfl (by omega) rfl λw7 H7=>?_⟩
     have Jg:((fP (dn s n j) l' (iH n l')).set (j+n) ((A+3329 - Q%3329)%3329)).length=256:=by rw[List.length_set];exact hlen
     refine(H7.bq 0 rfl).ld (i:=j) (by omega) rfl ?_
     rw[getD_set_ne _ (by omega),nq (by omega) d1,<- hA]
     refine⟨⟨by omega,by omega⟩,by omega,H7.mu 0 (i:=j) rfl (by omega) rfl λw8 H8=>⟨⟨by omega,by omega⟩,wD w8 ?_⟩⟩
     have e:=DS (p:=dn s n j) (p':=dn s n (j+1)) (old:=l') (new:=iH n l') (i:=j) (j:=j+n) (a:=(A+Q%3329)%3329) (b:=(A+3329 - Q%3329)%3329) (by omega) p5
      (by rw[o1];omega) (by rw[o2];omega) (λk _=>LG mX pn k)
     rw[<- e]
     exact H8
    ·intro vZ w6 H
     rw[xS (λi _=>Ig s n i)]at H
     refine⟨⟨by omega,by omega⟩,ite_false (decide_eq_false (by omega)) ⟨⟨by omega,by omega⟩,⟨by omega,by omega⟩,?_⟩⟩
     have e:(s:Int)+2*(n:Int)=((s+2*n:Nat):Int):=by omega
     rw[e]
     exact Aj w6 H
   ·have hc:=of_decide_eq_false hc
    obtain rfl:b=M:=by
     rcases Nat.lt_or_ge b M with h|h
     ·have:=fc.2 h;omega
     ·omega
    rw[lN]at H
    rw[vU (Em _ _).len (λi hi=>decide_eq_true hi)]at H
    refine⟨⟨by omega,by rw[show IntKind.max .i64=9223372036854775807 by decide];omega⟩,?_⟩
    rw[show b+b=2*b by omega,show((n:Nat):Int) / 2=((n / 2:Nat):Int) by omega]
    exact oP w5 H
 ·have hc:=of_decide_eq_false hc
  have h0:k=0:=by
   rcases Nat.eq_zero_or_pos k with h|h
   ·exact h
   ·have:=Nat.pow_le_pow_right (show 0<2 by omega) (show 1<=k from h)
    omega
  subst h0
  change l'=oI l at jj
  rw[jj]at H
  exact⟨y,rfl,H.cm 0 rfl,H.mod⟩
theorem akg(z A B:Int):z*(B+3329 - A)%3329=z*(B - A)%3329:=by
 have e:z*(B+3329 - A)=z*(B - A)+z*3329:=by grind
 rw[e,Int.add_mul_emod_self_right]
theorem Ki(x:ag)(l:List Int)(hl:Pq l)(w:World)(hx:cl w x l):Ok Pr adB [.slice x.a x.n x.c] w λv w'=>kR w w' v (kS l):=by
 refine aC Tryz.func213 (L:=[(6,[(3,.int .i64),(4,.int .i64)]),(9,[(3,.int .i64),(5,.int .i64)]),(14,[(7,.int .i64)]),(20,[(72,.int .i64)])]) ?_
 have wC:=hl.len
 refine an (zE x l (by omega) w hx) ?_
 rintro _ w1 ⟨rfl,m1⟩
 rw[hl.may]
 refine aN (ite_false rfl (an (OW x l (by omega) _ (hx.av m1)) ?_))
 rintro _ w2 ⟨y,rfl,hy,m2⟩
 have H:=((ah.start w).frame m1).bg m2 hy
 refine aS ?_
 have j3:y.n=256:=by have:=(H.bq 0 rfl).len;omega
 refine lV (λ(m:Int) (oO:Int) w'=>∃(r:Nat) (l':List Int),r<=7/\oO=((2 ^ (8 - r):Nat):Int)/\m=((2 ^ r - 1:Nat):Int)/\Pq l'/\yE r l'=kS l/\
   ah w [] w' [.row aU 1 y (bf l')]) (λ_ oO _=>1000 - oO.toNat) ⟨7,l,by omega,by decide,by decide,hl,Ma l,H⟩ ?_
 rintro again _ _ w4 ⟨r,l',hr,rfl,rfl,j4,jj,H⟩ aB
 refine aZ (λhc=>?_) (λhc=>?_)
 ·have hc:=of_decide_eq_true hc
  obtain⟨q,rfl⟩:∃j,r=j+1:=⟨r - 1,by
   rcases Nat.eq_zero_or_pos r with h|h
   ·rw[h]at hc;exact absurd hc (by decide)
   ·omega⟩
  obtain⟨hn,e1,e2,e3,e4⟩:=Ih (q:=q) (by omega)
  change yE q (js (2 ^ (7 - q)) l')=kS l at jj
  rw[e1]at aB
  rw[e1,e4]
  have oP:∀w',ah w [] w' [.row aU 1 y (bf (js (2 ^ (7 - q)) l'))]->again ((128 / 2 ^ (7 - q) - 1:Nat):Int) ((2*2 ^ (7 - q):Nat):Int) w':=λw' H=>by
   rw[<- e2,<- e3]
   refine aB _ _ w' ⟨q,js (2 ^ (7 - q)) l',by omega,rfl,rfl,Ii _ _,jj,H⟩ ?_
   have:=(nJ (b:=0) hn).2.2.2.2
   omega
  have tw:2<=2 ^ (7 - q):=by
   have:=Nat.pow_le_pow_right (show 0<2 by omega) (show 1<=7 - q by omega)
   omega
  clear aB jj e1 e2 e3 e4 hc
  generalize 2 ^ (7 - q)=n at*
  obtain⟨-,-,A8,lN,wO,oW,FC⟩:=nJ (b:=0) hn
  obtain⟨M,hM⟩:∃M,M=128 / n:=⟨_,rfl⟩
  rw[<- hM]at A8 lN FC oP⊢
  have M5:M<=64:=by
   have h:=Nat.mul_le_mul_right M tw
   rw[Nat.mul_assoc]at lN
   omega
  have N3:1<=M:=by
   rcases Nat.eq_zero_or_pos M with h|h
   ·rw[h,Nat.mul_zero]at lN;omega
   ·exact h
  refine lV (λ(m:Int) (start:Int) w'=>∃b:Nat,b<=M/\m=((2*M - 1 - b:Nat):Int)/\start=((2*n*b:Nat):Int)/\
    ah w [] w' [.row aU 1 y (bf (fP (λi=>decide (i<2*n*b)) l' (js n l')))]) (λ_ start _=>256 - start.toNat) ⟨0,by omega,by omega,by omega,?_⟩ ?_
  ·rw[vQ j4.len (λi _=>decide_eq_false (by omega))];exact H
  ·rintro gN _ _ w5 ⟨b,hb,rfl,rfl,H⟩ eJ
   obtain⟨fc,s7,-⟩:=nJ (b:=b) hn
   rw[<- hM]at fc s7
   refine aZ (λhc=>?_) (λhc=>?_)
   ·have hc:=of_decide_eq_true hc
    have N4:b<M:=fc.1 (by omega)
    have l6:2*n*(b+1)=2*n*b+2*n:=Nat.mul_succ _ _
    have hle:2*n*(b+1)<=256:=(nJ (b:=b+1) hn).2.1 (by omega)
    have pl:∀j,2*n*b<=j->j<2*n*b+n->j / n%2=0/\(j+n) / n%2=1/\j / (2*n)=b/\(j+n) / (2*n)=b/\j+n<256:=λj h1 h2=>places hn (by omega) h1 h2
    have Aj:∀w',ah w [] w' [.row aU 1 y (bf (fP (λi=>decide (i<2*n*b+2*n)) l' (js n l')))]->gN ((2*M - 1 - b - 1:Nat):Int) ((2*n*b+2*n:Nat):Int) w':=λw' H=>by
     refine eJ _ _ w' ⟨b+1,by omega,by omega,by rw[l6],?_⟩ (by omega)
     rw[l6];exact H
    clear eJ oP fc s7
    rw[l6]at hle
    generalize 2*n*b=s at*
    have em:((2*M - 1 - b:Nat):Int) - 1=((2*M - 1 - b - 1:Nat):Int):=by omega
    rw[em]
    have A9:2*M - 1 - b<128:=by omega
    have hz:=El (2*M - 1 - b)
    refine an (Kh (2*M - 1 - b) A9 _) ?_
    rintro _ wr ⟨rfl,wW⟩
    subst wW
    refine bH ⟨⟨by omega,by omega⟩,?_⟩
    refine bG s (s+n) (λj w'=>ah w [] w' [.row aU 1 y (bf (fP (dn s n j) l' (js n l')))]) rfl (by omega) ?_ ?_ ?_
    ·rw[xS (λi _=>Hf s n oW i)];exact H
    ·intro vZ j w6 mX pn H wD
     obtain⟨p1,p2,p3,p4,p5⟩:=pl j mX pn
     obtain⟨d1,d2⟩:=Iz mX pn
     have H:=H
     have hlen:=nk (dn s n j) l' (js n l')
     have wZ:(j:Int)+(n:Int)=((j+n:Nat):Int):=by omega
     have ra:=j4.get (i:=j) (by omega)
     have rb:=j4.get (i:=j+n) p5
     have o1:=Um (n:=n) (l:=l') (i:=j) (by omega) p1
     have o2:=Tq (n:=n) (l:=l') (i:=j+n) p5 p2
     rw[p4,FC,Nat.add_sub_cancel]at o2
     refine⟨⟨by omega,by omega⟩,ite_true (decide_eq_true (by omega)) ((H.bq 0 rfl).ld (i:=j) (by omega) rfl ?_)⟩
     rw[nq (by omega) d1,wZ]
     obtain⟨A,hA⟩:∃A,A=l'.getD j 0:=⟨_,rfl⟩
     rw[<- hA]at ra o1 o2⊢
     refine⟨⟨by omega,by omega⟩,(H.bq 0 rfl).ld (i:=j+n) (by omega) rfl ?_⟩
     rw[nq p5 d2]
     obtain⟨B,hB⟩:∃B,B=l'.getD (j+n) 0:=⟨_,rfl⟩
     rw[<- hB]at rb o1 o2⊢
     refine⟨⟨by omega,by omega⟩,by omega,H.mu 0 (i:=j) rfl (by omega) rfl λw7 H7=>?_⟩
     have Hd:=H7
     have Jg:((fP (dn s n j) l' (js n l')).set j ((A+B)%3329)).length=256:=by rw[List.length_set];exact hlen
     refine⟨⟨by omega,by omega⟩,⟨by omega,by omega⟩,(Hd.bq 0 rfl).ld (i:=j+n) (by omega) rfl ?_⟩
     rw[getD_set_ne _ (by omega),nq p5 d2,<- hB]
     have hP:0<=zr (2*M - 1 - b)*(B+3329 - A)/\zr (2*M - 1 - b)*(B+3329 - A)<=22157824:=by
      refine⟨Int.mul_nonneg hz.1 (by omega),?_⟩
      have h1:zr (2*M - 1 - b)*(B+3329 - A)<=3328*(B+3329 - A):=Int.mul_le_mul_of_nonneg_right (by omega) (by omega)
      omega
     have ht:=akg (zr (2*M - 1 - b)) A B
     rw[<- ht]at o2
     obtain⟨Q,hQ⟩:∃Q,Q=zr (2*M - 1 - b)*(B+3329 - A):=⟨_,rfl⟩
     rw[<- hQ]at hP o2⊢
     refine⟨⟨by omega,by omega⟩,⟨by omega,by omega⟩,⟨by omega,by omega⟩,by omega,Hd.mu 0 (i:=j+n) rfl (by omega) rfl λw8 H8=>⟨⟨by omega,by omega⟩,wD w8 ?_⟩⟩
     have e:=DS (p:=dn s n j) (p':=dn s n (j+1)) (old:=l') (new:=js n l') (i:=j+n) (j:=j) (a:=Q%3329) (b:=(A+B)%3329) p5 (by omega)
      o2.symm o1.symm (λk _=>Tn mX pn k)
     rw[<- e]
     exact H8
    ·intro vZ w6 H
     rw[xS (λi _=>Ig s n i)]at H
     refine⟨⟨by omega,by omega⟩,ite_false (decide_eq_false (by omega)) ⟨⟨by omega,by omega⟩,⟨by omega,by omega⟩,?_⟩⟩
     have e:(s:Int)+2*(n:Int)=((s+2*n:Nat):Int):=by omega
     rw[e]
     exact Aj w6 H
   ·have hc:=of_decide_eq_false hc
    obtain rfl:b=M:=by
     rcases Nat.lt_or_ge b M with h|h
     ·have:=fc.2 h;omega
     ·omega
    rw[lN]at H
    rw[vU (Ii _ _).len (λi hi=>decide_eq_true hi)]at H
    refine⟨⟨by omega,by omega⟩,?_⟩
    rw[show 2*b - 1 - b=b - 1 by omega,show((n:Nat):Int)*2=((2*n:Nat):Int) by omega]
    exact oP w5 H
 ·have hc:=of_decide_eq_false hc
  have h0:r=0:=by
   rcases Nat.eq_zero_or_pos r with h|h
   ·exact h
   ·obtain⟨q,rfl⟩:∃j,r=j+1:=⟨r - 1,by omega⟩
    obtain⟨hn,e1,-⟩:=Ih (q:=q) (by omega)
    rw[e1]at hc
    have:=(nJ (b:=0) hn).2.2.2.2.1
    omega
  subst h0
  change nL l'=kS l at jj
  rw[<- jj]
  refine bG 0 256 (λi w'=>ah w [] w' [.row aU 1 y (bf (fP (λk=>decide (k<i)) l' (nL l')))]) rfl (by omega) ?_ ?_ ?_
  ·rw[vQ j4.len (λi _=>decide_eq_false (by omega))];exact H
  ·intro Mb i w5 _ hi H M6
   have hlen:=nk (λk=>decide (k<i)) l' (nL l')
   have ra:=j4.get hi
   have o1:(nL l').getD i 0=l'.getD i 0*3303%3329:=lW _ hi
   refine ite_true (decide_eq_true (by omega)) ((H.bq 0 rfl).ld (i:=i) (by omega) rfl ?_)
   rw[nq (p:=λk=>decide (k<i)) hi (decide_eq_false (by omega))]
   generalize l'.getD i 0=A at*
   refine⟨⟨by omega,by omega⟩,by omega,H.mu 0 (i:=i) rfl (by omega) rfl λw6 H=>⟨⟨by omega,by omega⟩,M6 w6 ?_⟩⟩
   have e:=B7 (p:=λk=>decide (k<i)) (p':=λk=>decide (k<i+1)) (old:=l') (new:=nL l') (i:=i) (a:=A*3303%3329) hi o1.symm (λk _=>by
    rw[Bool.eq_iff_iff];simp only[Bool.or_eq_true,decide_eq_true_eq,beq_iff_eq];omega)
   rw[<- e]
   exact H
  ·intro Mb w5 H
   rw[vU (new:=nL l') (show(nL l').length=256 from vH _) (λi hi=>decide_eq_true hi)]at H
   exact ite_false (decide_eq_false (by omega)) ⟨y,rfl,H.cm 0 rfl,H.mod⟩
def akh(g:Value)(p:Int->Int->Int):Prop:=∀(a b:Int) (w:World),(0<=a/\a<3329)->(0<=b/\b<3329)->qH Pr g [.int .i64 a,.int .i64 b] w λv w'=>v=.int .i64 (p a b)/\w'=w
theorem QF(g:Value)(p:Int->Int->Int)(hg:akh g p)(x y:ag)(l m:List Int)(hl:Pq l)(hm:Pq m)(w:World)(hx:cl w x l)(hy:cl w y m):
  Ok Pr adH [.slice x.a x.n x.c,.slice y.a y.n y.c,g] w λv w'=>kR w w' v (pg λi=>p (l.getD i 0) (m.getD i 0)):=by
 refine aC Tryz.func251 (J:=[(3,[])]) (L:=[(5,[(20,.int .i64)])]) ?_
 have h1:=hl.len
 have h2:=hm.len
 refine gi λgo aV=>an (zE x l (by omega) w hx) ?_
 rintro _ w1 ⟨rfl,m1⟩
 rw[hl.may]
 refine aN (ite_false rfl (an (zE y m (by omega) _ (hy.av m1)) ?_))
 rintro _ w2 ⟨rfl,m2⟩
 rw[hm.may]
 refine aN (ite_false rfl (aV w2 ?_))
 refine((ah.start w).frame (m1.trans m2)).Fs ou Ad (n:=256) rfl rfl (by omega) λz w3 H uV=>?_
 obtain⟨N,hN⟩:∃N,N=pg λi=>p (l.getD i 0) (m.getD i 0):=⟨_,rfl⟩
 rw[<- hN]
 have zf:N.length=256:=by rw[hN];exact vH _
 refine bG 0 256 (λi w'=>ah w [] w' [.row aU 1 z (bf (fP (λk=>decide (k<i)) uG N))]) rfl (by omega) ?_ ?_ ?_
 ·rw[vQ Lm.len (λi _=>decide_eq_false (by omega))];exact H
 ·intro again i w4 _ hi H aB
  have hlen:=nk (λk=>decide (k<i)) uG N
  have Hd:=H.drew
  have ra:=hl.get hi
  have rb:=hm.get hi
  have o1:N.getD i 0=p (l.getD i 0) (m.getD i 0):=by rw[hN];exact lW _ hi
  refine ite_true (decide_eq_true (by omega)) ((hx.av Hd.mod).ld (i:=i) (by omega) rfl ((hy.av Hd.mod).ld (i:=i) (by omega) rfl (DI (hg _ _ _ ra rb) ?_)))
  rintro _ w5 ⟨rfl,hw⟩
  subst hw
  refine bH (Hd.mu 0 (i:=i) rfl (by omega) rfl λw6 H=>⟨⟨by omega,by omega⟩,aB w6 ?_⟩)
  have e:=B7 (p:=λk=>decide (k<i)) (p':=λk=>decide (k<i+1)) (old:=uG) (new:=N) (i:=i) (a:=p (l.getD i 0) (m.getD i 0)) hi o1.symm (λk _=>by
   rw[Bool.eq_iff_iff];simp only[Bool.or_eq_true,decide_eq_true_eq,beq_iff_eq];omega)
  rw[<- e]
  exact H
 ·intro again w4 H
  rw[vU zf (λi hi=>decide_eq_true hi)]at H
  exact ite_false (decide_eq_false (by omega)) ⟨z,rfl,H.cm 0 rfl,H.mod⟩
theorem ahv:jB Pr RF=true:=by kernel_rfl
theorem ahw:jB Pr RE=true:=by kernel_rfl
theorem DA(x y:ag)(l m:List Int)(hl:Pq l)(hm:Pq m)(w:World)(hx:cl w x l)(hy:cl w y m):Ok Pr ae3 [.slice x.a x.n x.c,.slice y.a y.n y.c] w λv w'=>kR w w' v (kB l m):=by
 refine aC Tryz.func219 ?_
 refine an (QF _ (λa b=>(a+b)%3329) (λa b w h1 h2=>?_) x y l m hl hm w hx hy) ?_
 ·exact zP ahv (aed a b w)
 ·rintro _ w1 ⟨z,rfl,hz,m1⟩
  exact aS ⟨z,rfl,hz,m1⟩
theorem aeh(x y:ag)(l m:List Int)(hl:Pq l)(hm:Pq m)(w:World)(hx:cl w x l)(hy:cl w y m):Ok Pr aeY [.slice x.a x.n x.c,.slice y.a y.n y.c] w λv w'=>kR w w' v (Au l m):=by
 refine aC Tryz.func212 ?_
 refine an (QF _ (λa b=>(a - b)%3329) (λa b w h1 h2=>?_) x y l m hl hm w hx hy) ?_
 ·exact zP ahw (aee a b w)
 ·rintro _ w1 ⟨z,rfl,hz,m1⟩
  exact aS ⟨z,rfl,hz,m1⟩
theorem Sx{f g:List Int}{i:Nat}(h:i<128):(qS f g).getD (2*i) 0=(f.getD (2*i) 0*g.getD (2*i) 0+f.getD (2*i+1) 0*g.getD (2*i+1) 0%3329*zq i)%3329:=by
 unfold qS;rw[lW _ (by omega),if_pos (by omega),show 2*i / 2=i by omega]
theorem Tr{f g:List Int}{i:Nat}(h:i<128):(qS f g).getD (2*i+1) 0=(f.getD (2*i) 0*g.getD (2*i+1) 0+f.getD (2*i+1) 0*g.getD (2*i) 0)%3329:=by
 unfold qS;rw[lW _ (by omega),if_neg (by omega),show 2*i+1 - 1=2*i by omega]
theorem abF(x y:ag)(l m:List Int)(hl:Pq l)(hm:Pq m)(w:World)(hx:cl w x l)(hy:cl w y m):Ok Pr acn [.slice x.a x.n x.c,.slice y.a y.n y.c] w λv w'=>kR w w' v (qS l m):=by
 refine aC Tryz.func255 (J:=[(3,[])]) (L:=[(5,[(22,.int .i64)])]) (N:=[8]) ?_
 have h1:=hl.len
 have h2:=hm.len
 refine gi λgo aV=>an (zE x l (by omega) w hx) ?_
 rintro _ w1 ⟨rfl,m1⟩
 rw[hl.may]
 refine aN (ite_false rfl (an (zE y m (by omega) _ (hy.av m1)) ?_))
 rintro _ w2 ⟨rfl,m2⟩
 rw[hm.may]
 refine aN (ite_false rfl (aV w2 ?_))
 refine((ah.start w).frame (m1.trans m2)).Fs ou Ad (n:=256) rfl rfl (by omega) λz w3 H uV=>?_
 obtain⟨N,hN⟩:∃N,N=qS l m:=⟨_,rfl⟩
 rw[<- hN]
 have zf:N.length=256:=by rw[hN];exact vH _
 refine bG 0 128 (λi w'=>ah w [] w' [.row aU 1 z (bf (fP (λk=>decide (k<2*i)) uG N))]) rfl (by omega) ?_ ?_ ?_
 ·rw[vQ Lm.len (λi _=>decide_eq_false (by omega))];exact H
 ·intro again i w4 _ hi H aB
  have hlen:=nk (λk=>decide (k<2*i)) uG N
  refine ite_true (decide_eq_true (by omega)) (an (Kh i hi _) ?_)
  rintro _ w5 ⟨rfl,hw⟩
  subst hw
  have hz:=El i
  have wM:0<=17*zr i%3329*zr i/\17*zr i%3329*zr i<=11078912:=qB ⟨by omega,by omega⟩ hz
  refine bH ⟨⟨by omega,by omega⟩,by omega,⟨by omega,by omega⟩,wM.1,nD ?_⟩
  rw[akf i]
  have hq:=U1 i
  have o1:=Sx (f:=l) (g:=m) hi
  have o2:=Tr (f:=l) (g:=m) hi
  rw[<- hN]at o1 o2
  have ra:=hl.get (i:=2*i) (by omega)
  have rb:=hl.get (i:=2*i+1) (by omega)
  have rc:=hm.get (i:=2*i) (by omega)
  have rd:=hm.get (i:=2*i+1) (by omega)
  have Hd:=H.drew
  have e2:2*(i:Int)=((2*i:Nat):Int):=by omega
  have e3:((2*i:Nat):Int)+1=((2*i+1:Nat):Int):=by omega
  rw[e2,e3]
  refine⟨⟨by omega,by omega⟩,(hx.av Hd.mod).ld (i:=2*i) (by omega) rfl ⟨⟨by omega,by omega⟩,⟨by omega,by omega⟩,(hx.av Hd.mod).ld (i:=2*i+1) (by omega) rfl ⟨⟨by omega,by omega⟩,(hy.av Hd.mod).ld (i:=2*i) (by omega) rfl ⟨⟨by omega,by omega⟩,⟨by omega,by omega⟩,(hy.av Hd.mod).ld (i:=2*i+1) (by omega) rfl ?_⟩⟩⟩⟩
  obtain⟨a,ha⟩:∃a,a=l.getD (2*i) 0:=⟨_,rfl⟩
  obtain⟨b,hb⟩:∃b,b=l.getD (2*i+1) 0:=⟨_,rfl⟩
  obtain⟨c,hc⟩:∃c,c=m.getD (2*i) 0:=⟨_,rfl⟩
  obtain⟨d,hd⟩:∃d,d=m.getD (2*i+1) 0:=⟨_,rfl⟩
  rw[<- ha,<- hb,<- hc,<- hd]at o1 o2
  rw[<- ha,<- hb,<- hc,<- hd]
  rw[<- ha]at ra
  rw[<- hb]at rb
  rw[<- hc]at rc
  rw[<- hd]at rd
  have pac:=qB ra rc
  have pbd:=qB rb rd
  have pad:=qB ra rd
  have pbc:=qB rb rc
  have pz:0<=b*d%3329*zq i/\b*d%3329*zq i<=11078912:=qB ⟨by omega,by omega⟩ hq
  refine⟨⟨by omega,by omega⟩,⟨by omega,by omega⟩,⟨by omega,by omega⟩,by omega,⟨by omega,by omega⟩,⟨by omega,by omega⟩,by omega,Hd.mu 0 (i:=2*i) rfl (by omega) rfl λw6 H=>⟨⟨by omega,by omega⟩,⟨by omega,by omega⟩,⟨by omega,by omega⟩,⟨by omega,by omega⟩,⟨by omega,by omega⟩,by omega,H.mu 0 (i:=2*i+1) rfl (by rw[List.length_set];omega) rfl λw7 H=>⟨⟨by omega,by omega⟩,aB w7 ?_⟩⟩⟩
  have e:=DS (p:=λk=>decide (k<2*i)) (p':=λk=>decide (k<2*(i+1))) (old:=uG) (new:=N) (i:=2*i+1) (j:=2*i) (by omega) (by omega) o2.symm o1.symm (λk _=>by
   rw[Bool.eq_iff_iff];simp only[Bool.or_eq_true,decide_eq_true_eq,beq_iff_eq];omega)
  rw[<- e]
  exact H
 ·intro again w4 H
  rw[vU zf (λi hi=>decide_eq_true (by omega))]at H
  exact ite_false (decide_eq_false (by omega)) ⟨z,rfl,H.cm 0 rfl,H.mod⟩
def s8(fs gs:List (List Int))(i:Nat):List Int:=((fs.zip gs).take i).foldl (λs p=>kB s (qS p.1 p.2)) uG
theorem Sy(fs gs:List (List Int))(i:Nat)(h1:i<fs.length)(h2:i<gs.length):s8 fs gs (i+1)=kB (s8 fs gs i) (qS (fs.getD i []) (gs.getD i [])):=by
 unfold s8
 rw[ZI _ _ _ _ (by rw[List.length_zip];omega) ([],[])]
 rw[show(fs.zip gs).getD i ([],[])=(fs.getD i [],gs.getD i []) by
  simp[List.getD_eq_getElem?_getD,List.zip,List.getElem?_zipWith,h1,h2]]
theorem Lo(fs gs:List (List Int))(h:fs.length=gs.length):s8 fs gs fs.length=kX fs gs:=by
 unfold s8 kX
 rw[List.take_of_length_le (by rw[List.length_zip];omega)]
theorem LK(fs gs:List (List Int))(i:Nat):Pq (s8 fs gs i):=by
 unfold s8
 generalize (fs.zip gs).take i=ps
 have:∀(ps:List (List Int × List Int)) (s:List Int),Pq s->Pq (ps.foldl (λs p=>kB s (qS p.1 p.2)) s):=by
  intro ps
  induction ps with
  |nil=>exact λs h=>h
  |cons p r ih=>exact λs _=>ih _ (B9 _ _)
 exact this ps _ Lm
theorem xX(fs gs:List (List Int))(h:fs.length=gs.length):Pq (kX fs gs):=by rw[<- Lo fs gs h];exact LK _ _ _
theorem Gx(x y:ag)(fs gs:List (List Int))(hl:fs.length=gs.length)(h0:0<fs.length)(h1:fs.length<=1000000)(hf:∀l∈fs,Pq l)(hg:∀l∈gs,Pq l)(w:World)(hx:dj w x fs)(hy:dj w y gs):
  Ok Pr aeZ [.slice x.a x.n x.c,.slice y.a y.n y.c] w λv w'=>kR w w' v (kX fs gs):=by
 refine aC Tryz.func214 (L:=[(5,[(5,.sl),(20,.int .i64)])]) ?_
 have aT:=hx.len
 have gb:=hy.len
 refine ite_false (by rw[decide_eq_true (show((x.n:Nat):Int)=((y.n:Nat):Int) by omega),decide_eq_false (show ¬((x.n:Nat):Int)=0 by omega)];rfl) ?_
 refine(ah.start w).Fs ou Ad (n:=256) rfl rfl (by omega) λz w1 H uV=>?_
 refine eZ 0 fs.length (λi (s:ag) w'=>ah w [] w' [.row aU 1 s (bf (s8 fs gs i))]) rfl (by omega) H ?_ ?_
 ·intro again i s w2 _ hi H aB
  have Hd:=H.drew
  refine ite_true (decide_eq_true (by omega)) ((hx.av Hd.mod).ld (i:=i) hi rfl λa ha=>(hy.av Hd.mod).ld (i:=i) (by omega) rfl λb hb=>?_)
  rw[Sy fs gs i hi (by omega)]at aB
  have pa:=hf _ (vR hi [])
  have pb:=hg _ (vR (l:=gs) (i:=i) (by omega) [])
  have ps:=LK fs gs i
  generalize fs.getD i []=A at*
  generalize gs.getD i []=B at*
  generalize s8 fs gs i=D at*
  refine an (abF a b A B pa pb _ ha hb) ?_
  rintro _ w3 ⟨t,rfl,ht,m3⟩
  have H:=Hd.bg m3 ht
  refine aS (an (DA s t D _ ps (LJ _ _) _ (H.bq 0 rfl) (H.bq 1 rfl)) ?_)
  rintro _ w4 ⟨u,rfl,hu,m4⟩
  have H:=H.bg m4 hu
  exact aS ⟨⟨by omega,by omega⟩,aB u w4 (H.only 2 rfl)⟩
 ·intro again s w2 H
  rw[Lo fs gs hl]at H
  exact ite_false (decide_eq_false (by omega)) ⟨s,rfl,H.cm 0 rfl,H.mod⟩
theorem vF(x:ag)(l:List Int)(hl:l.length<=1000000000)(w:World)(hx:cl w x l):Ok Pr afb [.slice x.a x.n x.c] w λv w'=>v=.bool (l9 l)/\Mod [] w w':=by
 refine aC Tryz.func265 (L:=[(2,[(3,.int .i64)])]) ?_
 have aT:=hx.len
 by_cases wC:l.length=256
 ·refine bG 0 256 (λi w'=>(l.take i).any qR=false/\w'=w) rfl (by omega) ⟨rfl,rfl⟩ ?_ ?_
  ·rintro again i _ _ hi ⟨hn,rfl⟩ aB
   refine ite_true (by rw[decide_eq_true (show(i:Int)<((x.n:Nat):Int) by omega),decide_eq_true (show((x.n:Nat):Int)=256 by omega)];rfl) (hx.ld (i:=i) (by omega) rfl ?_)
   have hs:=vv qR l i (by omega) 0
   have bad:qR (l.getD i 0)=true->Value.bool false=.bool (l9 l):=λh=>by
    unfold l9
    rw[vw qR l i (by omega) 0 h,decide_eq_true wC];rfl
   have mN:qR (l.getD i 0)=false->(l.take (i+1)).any qR=false:=λh=>by rw[hs,hn,h];rfl
   obtain⟨A,hA⟩:∃A,A=l.getD i 0:=⟨_,rfl⟩
   rw[<- hA]at bad mN⊢
   refine aZ (λhc=>?_) (λhc=>(hx.ld (i:=i) (by omega) rfl ?_))
   ·have hc:=of_decide_eq_true hc
    exact⟨bad (by unfold qR;rw[decide_eq_true hc];rfl),Mod.refl _ _⟩
   ·have hc:=of_decide_eq_false hc
    rw[<- hA]
    refine aZ (λtG=>?_) (λtG=>?_)
    ·have tG:=of_decide_eq_true tG
     exact⟨bad (by unfold qR;rw[decide_eq_true tG,Bool.or_true]),Mod.refl _ _⟩
    ·have tG:=of_decide_eq_false tG
     exact⟨⟨by omega,by omega⟩,aB _ ⟨mN (KQ.2 (by omega)),rfl⟩⟩
  ·rintro again _ ⟨hn,rfl⟩
   rw[List.take_of_length_le (by omega)]at hn
   refine ite_false (by rw[decide_eq_false (show ¬((256:Nat):Int)<((x.n:Nat):Int) by omega)];rfl) ⟨?_,Mod.refl _ _⟩
   unfold l9
   rw[hn,decide_eq_true wC,decide_eq_true (show((x.n:Nat):Int)=256 by omega)];rfl
 ·refine qA (λi w'=>w'=w) (λ_ _=>0) rfl ?_
  rintro again i _ rfl aB
  have gP:¬((x.n:Nat):Int)=256:=by omega
  refine ite_false (by rw[decide_eq_false gP,Bool.and_false]) ⟨?_,Mod.refl _ _⟩
  unfold l9
  rw[decide_eq_false wC,decide_eq_false gP];rfl
theorem QG(x:ag)(l:List Int)(hl:Pq l)(w:World)(hx:cl w x l):Ok Pr adF [.slice x.a x.n x.c] w λv w'=>kR w w' v (oI l):=by
 refine aC Tryz.func239 (L:=[(6,[(4,.int .i64),(5,.int .i64)]),(9,[(4,.int .i64),(6,.int .i64)]),(14,[(8,.int .i64)])]) ?_
 have wC:=hl.len
 refine an (vF x l (by omega) w hx) ?_
 rintro _ w1 ⟨rfl,m1⟩
 rw[hl.may]
 have aT:=hx.len
 refine aN (ite_false rfl (((ah.start w).frame m1).UZ ou (hx.av m1) (by omega) λy w2 H _=>?_))
 have j3:y.n=256:=by have:=(H.bq 0 rfl).len;omega
 refine lV (λ(m:Int) (oO:Int) w'=>∃(k:Nat) (l':List Int),k<=7/\oO=((2 ^ k:Nat):Int)/\m=((2 ^ (7 - k):Nat):Int)/\Pq l'/\yD k l'=oI l/\
   ah w [] w' [.row aU 1 y (bf l')]) (λ_ oO _=>oO.toNat) ⟨7,l,by omega,by decide,by decide,hl,L9 l,H⟩ ?_
 rintro again _ _ w4 ⟨k,l',hk,rfl,rfl,j4,jj,H⟩ aB
 refine aZ (λhc=>?_) (λhc=>?_)
 ·have hc:=of_decide_eq_true hc
  obtain⟨k,rfl⟩:∃j,k=j+1:=⟨k - 1,by
   rcases Nat.eq_zero_or_pos k with h|h
   ·rw[h]at hc;exact absurd hc (by decide)
   ·omega⟩
  have hn:=Uh (show k+1<8 by omega)
  have eM:2 ^ (7 - (k+1))=128 / 2 ^ (k+1)/\2 ^ (7 - k)=2*(128 / 2 ^ (k+1))/\2 ^ k=2 ^ (k+1) / 2/\2 ^ k<2 ^ (k+1):=by
   have:k=0\/k=1\/k=2\/k=3\/k=4\/k=5\/k=6:=by omega
   rcases this with rfl|rfl|rfl|rfl|rfl|rfl|rfl<;>decide
  change yD k (iH (2 ^ (k+1)) l')=oI l at jj
  rw[eM.1]
  have oP:∀w',ah w [] w' [.row aU 1 y (bf (iH (2 ^ (k+1)) l'))]->again ((2*(128 / 2 ^ (k+1)):Nat):Int) ((2 ^ (k+1) / 2:Nat):Int) w':=λw' H=>by
   rw[<- eM.2.1,<- eM.2.2.1]
   refine aB _ _ w' ⟨k,iH (2 ^ (k+1)) l',by omega,rfl,rfl,Em _ _,jj,H⟩ ?_
   omega
  have tw:2<=2 ^ (k+1):=by
   have:=Nat.pow_le_pow_right (show 0<2 by omega) (show 1<=k+1 by omega)
   omega
  clear aB jj eM hc
  generalize 2 ^ (k+1)=n at*
  obtain⟨-,-,A8,lN,wO,oW,-⟩:=nJ (b:=0) hn
  obtain⟨M,hM⟩:∃M,M=128 / n:=⟨_,rfl⟩
  rw[<- hM]at A8 lN oP⊢
  have M5:M<=64:=by
   have h:=Nat.mul_le_mul_right M tw
   rw[Nat.mul_assoc]at lN
   omega
  have N3:1<=M:=by
   rcases Nat.eq_zero_or_pos M with h|h
   ·rw[h,Nat.mul_zero]at lN;omega
   ·exact h
  refine lV (λ(m:Int) (start:Int) w'=>∃b:Nat,b<=M/\m=((M+b:Nat):Int)/\start=((2*n*b:Nat):Int)/\
    ah w [] w' [.row aU 1 y (bf (fP (λi=>decide (i<2*n*b)) l' (iH n l')))]) (λ_ start _=>256 - start.toNat) ⟨0,by omega,by omega,by omega,?_⟩ ?_
  ·rw[vQ j4.len (λi _=>decide_eq_false (by omega))];exact H
  ·rintro gN _ _ w5 ⟨b,hb,rfl,rfl,H⟩ eJ
   obtain⟨fc,s7,-⟩:=nJ (b:=b) hn
   rw[<- hM]at fc s7
   refine aZ (λhc=>?_) (λhc=>?_)
   ·have hc:=of_decide_eq_true hc
    have N4:b<M:=fc.1 (by omega)
    have l6:2*n*(b+1)=2*n*b+2*n:=Nat.mul_succ _ _
    have hle:2*n*(b+1)<=256:=(nJ (b:=b+1) hn).2.1 (by omega)
    have pl:∀j,2*n*b<=j->j<2*n*b+n->j / n%2=0/\(j+n) / n%2=1/\j / (2*n)=b/\(j+n) / (2*n)=b/\j+n<256:=λj h1 h2=>places hn (by omega) h1 h2
    have Aj:∀w',ah w [] w' [.row aU 1 y (bf (fP (λi=>decide (i<2*n*b+2*n)) l' (iH n l')))]->gN ((M+b+1:Nat):Int) ((2*n*b+2*n:Nat):Int) w':=λw' H=>by
     refine eJ _ _ w' ⟨b+1,by omega,by omega,by rw[l6],?_⟩ (by omega)
     rw[l6];exact H
    clear eJ oP fc s7
    rw[l6]at hle
    generalize 2*n*b=s at*
    have em:((M+b:Nat):Int)+1=((M+b+1:Nat):Int):=by omega
    rw[em]
    have A9:M+b<128:=by omega
    have hz:=El (M+b)
    refine an (QE (M+b) A9 _) ?_
    rintro _ wr ⟨rfl,wW⟩
    subst wW
    refine bH ⟨⟨by omega,by omega⟩,?_⟩
    refine bG s (s+n) (λj w'=>ah w [] w' [.row aU 1 y (bf (fP (dn s n j) l' (iH n l')))]) rfl (by omega) ?_ ?_ ?_
    ·rw[xS (λi _=>Hf s n oW i)];exact H
    ·intro vZ j w6 mX pn H wD
     obtain⟨p1,p2,p3,p4,p5⟩:=pl j mX pn
     obtain⟨d1,d2⟩:=Iz mX pn
     have H:=H
     have Hd:=H
     have hlen:=nk (dn s n j) l' (iH n l')
     have wZ:(j:Int)+(n:Int)=((j+n:Nat):Int):=by omega
     have ra:=j4.get (i:=j) (by omega)
     have rb:=j4.get (i:=j+n) p5
     have o1:=Ul (n:=n) (l:=l') (i:=j) (by omega) p1
     have o2:=Tp (n:=n) (l:=l') (i:=j+n) p5 p2
     rw[p3,<- hM]at o1
     rw[p4,<- hM,Nat.add_sub_cancel]at o2
     have hP:=qB hz rb
     refine⟨⟨by omega,by omega⟩,ite_true (decide_eq_true (by omega)) ?_⟩
     rw[wZ]
     refine⟨⟨by omega,by omega⟩,(Hd.bq 0 rfl).ld (i:=j+n) (by omega) rfl ?_⟩
     rw[nq p5 d2]
     obtain⟨Q,hQ⟩:∃Q,Q=zr (M+b)*l'.getD (j+n) 0:=⟨_,rfl⟩
     rw[<- hQ]at hP o1 o2⊢
     refine⟨⟨by omega,by omega⟩,by omega,⟨by omega,by omega⟩,(Hd.bq 0 rfl).ld (i:=j) (by omega) rfl ?_⟩
     rw[nq (by omega) d1]
     obtain⟨A,hA⟩:∃A,A=l'.getD j 0:=⟨_,rfl⟩
     rw[<- hA]at ra o1 o2⊢
     refine⟨⟨by omega,by omega⟩,⟨by omega,by omega⟩,by omega,Hd.mu 0 (i:=j+n) rfl (by omega) rfl λw7 H7=>?_⟩
     have Jg:((fP (dn s n j) l' (iH n l')).set (j+n) ((A - Q%3329+3329)%3329)).length=256:=by rw[List.length_set];exact hlen
     refine(H7.bq 0 rfl).ld (i:=j) (by omega) rfl ?_
     rw[getD_set_ne _ (by omega),nq (by omega) d1,<- hA]
     refine⟨⟨by omega,by omega⟩,by omega,H7.mu 0 (i:=j) rfl (by omega) rfl λw8 H8=>⟨⟨by omega,by omega⟩,wD w8 ?_⟩⟩
     have e:=DS (p:=dn s n j) (p':=dn s n (j+1)) (old:=l') (new:=iH n l') (i:=j) (j:=j+n) (a:=(A+Q%3329)%3329) (b:=(A - Q%3329+3329)%3329) (by omega) p5
      (by rw[o1];omega) (by rw[o2];omega) (λk _=>LG mX pn k)
     rw[<- e]
     exact H8
    ·intro vZ w6 H
     rw[xS (λi _=>Ig s n i)]at H
     refine⟨⟨by omega,by omega⟩,ite_false (decide_eq_false (by omega)) ⟨⟨by omega,by omega⟩,⟨by omega,by omega⟩,?_⟩⟩
     have e:(s:Int)+2*(n:Int)=((s+2*n:Nat):Int):=by omega
     rw[e]
     exact Aj w6 H
   ·have hc:=of_decide_eq_false hc
    obtain rfl:b=M:=by
     rcases Nat.lt_or_ge b M with h|h
     ·have:=fc.2 h;omega
     ·omega
    rw[lN]at H
    rw[vU (Em _ _).len (λi hi=>decide_eq_true hi)]at H
    refine⟨⟨by omega,by rw[show IntKind.max .i64=9223372036854775807 by decide];omega⟩,?_⟩
    rw[show b+b=2*b by omega,show((n:Nat):Int) / 2=((n / 2:Nat):Int) by omega]
    exact oP w5 H
 ·have hc:=of_decide_eq_false hc
  have h0:k=0:=by
   rcases Nat.eq_zero_or_pos k with h|h
   ·exact h
   ·have:=Nat.pow_le_pow_right (show 0<2 by omega) (show 1<=k from h)
    omega
  subst h0
  change l'=oI l at jj
  rw[jj]at H
  exact⟨y,rfl,H.cm 0 rfl,H.mod⟩
theorem aki(z A B:Int):z*(B - A+3329)%3329=z*(B - A)%3329:=by
 have e:z*(B - A+3329)=z*(B - A)+z*3329:=by grind
 rw[e,Int.add_mul_emod_self_right]
theorem Kj(x:ag)(l:List Int)(hl:Pq l)(w:World)(hx:cl w x l):Ok Pr adE [.slice x.a x.n x.c] w λv w'=>kR w w' v (kS l):=by
 refine aC Tryz.func235 (L:=[(6,[(4,.int .i64),(5,.int .i64)]),(9,[(4,.int .i64),(6,.int .i64)]),(14,[(8,.int .i64)]),(20,[(10,.int .i64)])]) ?_
 have wC:=hl.len
 refine an (vF x l (by omega) w hx) ?_
 rintro _ w1 ⟨rfl,m1⟩
 rw[hl.may]
 have aT:=hx.len
 refine aN (ite_false rfl (((ah.start w).frame m1).UZ ou (hx.av m1) (by omega) λy w2 H _=>?_))
 have j3:y.n=256:=by have:=(H.bq 0 rfl).len;omega
 refine lV (λ(m:Int) (oO:Int) w'=>∃(r:Nat) (l':List Int),r<=7/\oO=((2 ^ (8 - r):Nat):Int)/\m=((2 ^ r - 1:Nat):Int)/\Pq l'/\yE r l'=kS l/\
   ah w [] w' [.row aU 1 y (bf l')]) (λ_ oO _=>1000 - oO.toNat) ⟨7,l,by omega,by decide,by decide,hl,Ma l,H⟩ ?_
 rintro again _ _ w4 ⟨r,l',hr,rfl,rfl,j4,jj,H⟩ aB
 refine aZ (λhc=>?_) (λhc=>?_)
 ·have hc:=of_decide_eq_true hc
  obtain⟨q,rfl⟩:∃j,r=j+1:=⟨r - 1,by
   rcases Nat.eq_zero_or_pos r with h|h
   ·rw[h]at hc;exact absurd hc (by decide)
   ·omega⟩
  obtain⟨hn,e1,e2,e3,e4⟩:=Ih (q:=q) (by omega)
  change yE q (js (2 ^ (7 - q)) l')=kS l at jj
  rw[e1]at aB
  rw[e1,e4]
  have oP:∀w',ah w [] w' [.row aU 1 y (bf (js (2 ^ (7 - q)) l'))]->again ((128 / 2 ^ (7 - q) - 1:Nat):Int) ((2*2 ^ (7 - q):Nat):Int) w':=λw' H=>by
   rw[<- e2,<- e3]
   refine aB _ _ w' ⟨q,js (2 ^ (7 - q)) l',by omega,rfl,rfl,Ii _ _,jj,H⟩ ?_
   have:=(nJ (b:=0) hn).2.2.2.2
   omega
  have tw:2<=2 ^ (7 - q):=by
   have:=Nat.pow_le_pow_right (show 0<2 by omega) (show 1<=7 - q by omega)
   omega
  clear aB jj e1 e2 e3 e4 hc
  generalize 2 ^ (7 - q)=n at*
  obtain⟨-,-,A8,lN,wO,oW,FC⟩:=nJ (b:=0) hn
  obtain⟨M,hM⟩:∃M,M=128 / n:=⟨_,rfl⟩
  rw[<- hM]at A8 lN FC oP⊢
  have M5:M<=64:=by
   have h:=Nat.mul_le_mul_right M tw
   rw[Nat.mul_assoc]at lN
   omega
  have N3:1<=M:=by
   rcases Nat.eq_zero_or_pos M with h|h
   ·rw[h,Nat.mul_zero]at lN;omega
   ·exact h
  refine lV (λ(m:Int) (start:Int) w'=>∃b:Nat,b<=M/\m=((2*M - 1 - b:Nat):Int)/\start=((2*n*b:Nat):Int)/\
    ah w [] w' [.row aU 1 y (bf (fP (λi=>decide (i<2*n*b)) l' (js n l')))]) (λ_ start _=>256 - start.toNat) ⟨0,by omega,by omega,by omega,?_⟩ ?_
  ·rw[vQ j4.len (λi _=>decide_eq_false (by omega))];exact H
  ·rintro gN _ _ w5 ⟨b,hb,rfl,rfl,H⟩ eJ
   obtain⟨fc,s7,-⟩:=nJ (b:=b) hn
   rw[<- hM]at fc s7
   refine aZ (λhc=>?_) (λhc=>?_)
   ·have hc:=of_decide_eq_true hc
    have N4:b<M:=fc.1 (by omega)
    have l6:2*n*(b+1)=2*n*b+2*n:=Nat.mul_succ _ _
    have hle:2*n*(b+1)<=256:=(nJ (b:=b+1) hn).2.1 (by omega)
    have pl:∀j,2*n*b<=j->j<2*n*b+n->j / n%2=0/\(j+n) / n%2=1/\j / (2*n)=b/\(j+n) / (2*n)=b/\j+n<256:=λj h1 h2=>places hn (by omega) h1 h2
    have Aj:∀w',ah w [] w' [.row aU 1 y (bf (fP (λi=>decide (i<2*n*b+2*n)) l' (js n l')))]->gN ((2*M - 1 - b - 1:Nat):Int) ((2*n*b+2*n:Nat):Int) w':=λw' H=>by
     refine eJ _ _ w' ⟨b+1,by omega,by omega,by rw[l6],?_⟩ (by omega)
     rw[l6];exact H
    clear eJ oP fc s7
    rw[l6]at hle
    generalize 2*n*b=s at*
    have em:((2*M - 1 - b:Nat):Int) - 1=((2*M - 1 - b - 1:Nat):Int):=by omega
    rw[em]
    have A9:2*M - 1 - b<128:=by omega
    have hz:=El (2*M - 1 - b)
    refine an (QE (2*M - 1 - b) A9 _) ?_
    rintro _ wr ⟨rfl,wW⟩
    subst wW
    refine bH ⟨⟨by omega,by omega⟩,?_⟩
    refine bG s (s+n) (λj w'=>ah w [] w' [.row aU 1 y (bf (fP (dn s n j) l' (js n l')))]) rfl (by omega) ?_ ?_ ?_
    ·rw[xS (λi _=>Hf s n oW i)];exact H
    ·intro vZ j w6 mX pn H wD
     obtain⟨p1,p2,p3,p4,p5⟩:=pl j mX pn
     obtain⟨d1,d2⟩:=Iz mX pn
     have H:=H
     have hlen:=nk (dn s n j) l' (js n l')
     have wZ:(j:Int)+(n:Int)=((j+n:Nat):Int):=by omega
     have ra:=j4.get (i:=j) (by omega)
     have rb:=j4.get (i:=j+n) p5
     have o1:=Um (n:=n) (l:=l') (i:=j) (by omega) p1
     have o2:=Tq (n:=n) (l:=l') (i:=j+n) p5 p2
     rw[p4,FC,Nat.add_sub_cancel]at o2
     refine⟨⟨by omega,by omega⟩,ite_true (decide_eq_true (by omega)) ((H.bq 0 rfl).ld (i:=j) (by omega) rfl ?_)⟩
     rw[nq (by omega) d1,wZ]
     obtain⟨A,hA⟩:∃A,A=l'.getD j 0:=⟨_,rfl⟩
     rw[<- hA]at ra o1 o2⊢
     refine⟨⟨by omega,by omega⟩,(H.bq 0 rfl).ld (i:=j+n) (by omega) rfl ?_⟩
     rw[nq p5 d2]
     obtain⟨B,hB⟩:∃B,B=l'.getD (j+n) 0:=⟨_,rfl⟩
     rw[<- hB]at rb o1 o2⊢
     refine⟨⟨by omega,by omega⟩,by omega,H.mu 0 (i:=j) rfl (by omega) rfl λw7 H7=>?_⟩
     have Hd:=H7
     have Jg:((fP (dn s n j) l' (js n l')).set j ((A+B)%3329)).length=256:=by rw[List.length_set];exact hlen
     refine⟨⟨by omega,by omega⟩,⟨by omega,by omega⟩,(Hd.bq 0 rfl).ld (i:=j+n) (by omega) rfl ?_⟩
     rw[getD_set_ne _ (by omega),nq p5 d2,<- hB]
     have hP:0<=zr (2*M - 1 - b)*(B - A+3329)/\zr (2*M - 1 - b)*(B - A+3329)<=22157824:=by
      refine⟨Int.mul_nonneg hz.1 (by omega),?_⟩
      have h1:zr (2*M - 1 - b)*(B - A+3329)<=3328*(B - A+3329):=Int.mul_le_mul_of_nonneg_right (by omega) (by omega)
      omega
     have ht:=aki (zr (2*M - 1 - b)) A B
     rw[<- ht]at o2
     obtain⟨Q,hQ⟩:∃Q,Q=zr (2*M - 1 - b)*(B - A+3329):=⟨_,rfl⟩
     rw[<- hQ]at hP o2⊢
     refine⟨⟨by omega,by omega⟩,⟨by omega,by omega⟩,⟨by omega,by omega⟩,by omega,Hd.mu 0 (i:=j+n) rfl (by omega) rfl λw8 H8=>⟨⟨by omega,by omega⟩,wD w8 ?_⟩⟩
     have e:=DS (p:=dn s n j) (p':=dn s n (j+1)) (old:=l') (new:=js n l') (i:=j+n) (j:=j) (a:=Q%3329) (b:=(A+B)%3329) p5 (by omega)
      o2.symm o1.symm (λk _=>Tn mX pn k)
     rw[<- e]
     exact H8
    ·intro vZ w6 H
     rw[xS (λi _=>Ig s n i)]at H
     refine⟨⟨by omega,by omega⟩,ite_false (decide_eq_false (by omega)) ⟨⟨by omega,by omega⟩,⟨by omega,by omega⟩,?_⟩⟩
     have e:(s:Int)+2*(n:Int)=((s+2*n:Nat):Int):=by omega
     rw[e]
     exact Aj w6 H
   ·have hc:=of_decide_eq_false hc
    obtain rfl:b=M:=by
     rcases Nat.lt_or_ge b M with h|h
     ·have:=fc.2 h;omega
     ·omega
    rw[lN]at H
    rw[vU (Ii _ _).len (λi hi=>decide_eq_true hi)]at H
    refine⟨⟨by omega,by omega⟩,?_⟩
    rw[show 2*b - 1 - b=b - 1 by omega,show 2*((n:Nat):Int)=((2*n:Nat):Int) by omega]
    exact oP w5 H
 ·have hc:=of_decide_eq_false hc
  have h0:r=0:=by
   rcases Nat.eq_zero_or_pos r with h|h
   ·exact h
   ·obtain⟨q,rfl⟩:∃j,r=j+1:=⟨r - 1,by omega⟩
    obtain⟨hn,e1,-⟩:=Ih (q:=q) (by omega)
    rw[e1]at hc
    have:=(nJ (b:=0) hn).2.2.2.2.1
    omega
  subst h0
  change nL l'=kS l at jj
  rw[<- jj]
  refine bG 0 256 (λi w'=>ah w [] w' [.row aU 1 y (bf (fP (λk=>decide (k<i)) l' (nL l')))]) rfl (by omega) ?_ ?_ ?_
  ·rw[vQ j4.len (λi _=>decide_eq_false (by omega))];exact H
  ·intro Mb i w5 _ hi H M6
   have hlen:=nk (λk=>decide (k<i)) l' (nL l')
   have ra:=j4.get hi
   have o1:(nL l').getD i 0=l'.getD i 0*3303%3329:=lW _ hi
   refine ite_true (decide_eq_true (by omega)) ((H.bq 0 rfl).ld (i:=i) (by omega) rfl ?_)
   rw[nq (p:=λk=>decide (k<i)) hi (decide_eq_false (by omega))]
   generalize l'.getD i 0=A at*
   refine⟨⟨by omega,by omega⟩,by omega,H.mu 0 (i:=i) rfl (by omega) rfl λw6 H=>⟨⟨by omega,by omega⟩,M6 w6 ?_⟩⟩
   have e:=B7 (p:=λk=>decide (k<i)) (p':=λk=>decide (k<i+1)) (old:=l') (new:=nL l') (i:=i) (a:=A*3303%3329) hi o1.symm (λk _=>by
    rw[Bool.eq_iff_iff];simp only[Bool.or_eq_true,decide_eq_true_eq,beq_iff_eq];omega)
   rw[<- e]
   exact H
  ·intro Mb w5 H
   rw[vU (new:=nL l') (show(nL l').length=256 from vH _) (λi hi=>decide_eq_true hi)]at H
   exact ite_false (decide_eq_false (by omega)) ⟨y,rfl,H.cm 0 rfl,H.mod⟩
theorem Gy(x y:ag)(l m:List Int)(hl:Pq l)(hm:Pq m)(w:World)(hx:cl w x l)(hy:cl w y m):Ok Pr ae4 [.slice x.a x.n x.c,.slice y.a y.n y.c] w λv w'=>kR w w' v (kB l m):=by
 refine aC Tryz.func229 (J:=[(5,[])]) (L:=[(3,[(5,.sl),(6,.int .i64)])]) ?_
 have h1:=hl.len
 have h2:=hm.len
 obtain⟨N,hN⟩:∃N,N=kB l m:=⟨_,rfl⟩
 rw[<- hN]
 have zf:N.length=256:=by rw[hN];exact vH _
 refine eZ 0 256 (λi (o:ag) w'=>ah w [] w' [.row aU 1 o (bf (N.take i))]) rfl (by omega) (by simpa[bf]using (ah.start w).dy aU 1) ?_ ?_
 ·intro again i o w3 _ hi H aB
  have hn:=(H.bq 0 rfl).len
  rw[List.length_take,Nat.min_eq_left (by omega)]at hn
  refine gi λgo aV=>ite_true (decide_eq_true (by omega)) (an (vF x l (by omega) _ (hx.av H.mod)) ?_)
  rintro _ w4 ⟨rfl,m1⟩
  rw[hl.may]
  have H:=H.frame m1
  refine aN (ite_true rfl (an (vF y m (by omega) _ (hy.av H.mod)) ?_))
  rintro _ w5 ⟨rfl,m2⟩
  rw[hm.may]
  have H:=(H.frame m2).drew
  have o1:N.getD i 0=(l.getD i 0+m.getD i 0)%3329:=by rw[hN];exact lW _ hi
  refine aN (ite_true rfl (aV w5 ((hx.av H.mod).ld (i:=i) (by omega) rfl ((hy.av H.mod).ld (i:=i) (by omega) rfl (an (Re _ _ _) ?_)))))
  rintro _ w6 ⟨rfl,hw⟩
  subst hw
  rw[<- o1]
  refine bH (H.rK 0 ou rfl (by omega) λo' w7 H _=>⟨⟨by omega,by omega⟩,aB o' w7 ?_⟩)
  rw[ic _ _ (by omega) 0]
  exact H
 ·intro again o w3 H
  rw[List.take_of_length_le (by omega)]at H
  exact gi λgo aV=>ite_false (decide_eq_false (by omega)) ⟨o,rfl,H.cm 0 rfl,H.mod⟩
theorem aei(x y:ag)(l m:List Int)(hl:Pq l)(hm:Pq m)(w:World)(hx:cl w x l)(hy:cl w y m):Ok Pr ae9 [.slice x.a x.n x.c,.slice y.a y.n y.c] w λv w'=>kR w w' v (Au l m):=by
 refine aC Tryz.func241 (J:=[(3,[])]) (L:=[(5,[(5,.sl),(6,.int .i64)])]) ?_
 have h1:=hl.len
 have h2:=hm.len
 refine gi λgo aV=>an (vF x l (by omega) w hx) ?_
 rintro _ w1 ⟨rfl,m1⟩
 rw[hl.may]
 refine aN (ite_false rfl (an (vF y m (by omega) _ (hy.av m1)) ?_))
 rintro _ w2 ⟨rfl,m2⟩
 rw[hm.may]
 refine aN (ite_false rfl (aV w2 ?_))
 obtain⟨N,hN⟩:∃N,N=Au l m:=⟨_,rfl⟩
 rw[<- hN]
 have zf:N.length=256:=by rw[hN];exact vH _
 refine eZ 0 256 (λi (o:ag) w'=>ah w [] w' [.row aU 1 o (bf (N.take i))]) rfl (by omega) (by simpa[bf]using ((ah.start w).frame (m1.trans m2)).dy aU 1) ?_ ?_
 ·intro again i o w3 _ hi H aB
  have hn:=(H.bq 0 rfl).len
  rw[List.length_take,Nat.min_eq_left (by omega)]at hn
  have H:=H.drew
  have o1:N.getD i 0=(l.getD i 0 - m.getD i 0)%3329:=by rw[hN];exact lW _ hi
  refine ite_true (decide_eq_true (by omega)) ((hx.av H.mod).ld (i:=i) (by omega) rfl ((hy.av H.mod).ld (i:=i) (by omega) rfl (an (aef _ _ _) ?_)))
  rintro _ w6 ⟨rfl,hw⟩
  subst hw
  rw[<- o1]
  refine bH (H.rK 0 ou rfl (by omega) λo' w7 H _=>⟨⟨by omega,by omega⟩,aB o' w7 ?_⟩)
  rw[ic _ _ (by omega) 0]
  exact H
 ·intro again o w3 H
  rw[List.take_of_length_le (by omega)]at H
  exact ite_false (decide_eq_false (by omega)) ⟨o,rfl,H.cm 0 rfl,H.mod⟩
theorem _root_.Go.Ev.ah.akj{P:Program}{w0 w:World}{S:List Nat}{L:List aA}(H:ah w0 S w L)(k:Nat){t ty e t1:TypeId}{s:ag}{vs:List Int}{n m:Int}{K:ag->World->Prop}(bO:ew P t e 1 8)(hk:L[k]? = some (.row e 1 s (bf vs)))
  (hm:s.n<=10000000000) (h:∀s' w',ah w0 S w' (L.set k (.row e 1 s' (bf (vs++[n,m]))))->s'.n=s.n+2->K s' w'):Ev.nw t1 [.int .i64 n,.int .i64 m] w λp w5=>jc P [t,t] ty [.slice s.a s.n s.c,.slice (some p) 2 2] w5 K:=by
 refine H.nw λb w5 H5 _=>?_
 have br:k<L.length:=(List.getElem?_eq_some_iff.1 hk).1
 have NK:(L++[aA.aj b [.int .i64 n,.int .i64 m] t1])[k]? = some (.row e 1 s (bf vs)):=by rw[List.getElem?_append_left br];exact hk
 have NL:=H5.aj (cs:=[.int .i64 n,.int .i64 m]) (b:=b) (t:=t1) L.length (by simp)
 have bZ:cl w5 ⟨some ⟨b,0,none⟩,2,2⟩ [n,m]:=NL.sl 1 2 2 (by simp) (Nat.le_refl _)
 refine H5.V5 (x:=⟨some ⟨b,0,none⟩,2,2⟩) k bO NK bZ (by show s.n+2<=_;omega) λs' w' H' hn=>h s' w' ?_ hn
 have:=H'.take L.length
 rw[List.set_append_left _ _ br,List.take_append_of_le_length (by simp),List.take_of_length_le (by simp)]at this
 exact this
theorem abG(x y:ag)(l m:List Int)(hl:Pq l)(hm:Pq m)(w:World)(hx:cl w x l)(hy:cl w y m):Ok Pr aco [.slice x.a x.n x.c,.slice y.a y.n y.c] w λv w'=>kR w w' v (qS l m):=by
 refine aC Tryz.func266 (J:=[(3,[])]) (L:=[(5,[(5,.sl),(6,.int .i64)])]) ?_
 have h1:=hl.len
 have h2:=hm.len
 refine gi λgo aV=>an (vF x l (by omega) w hx) ?_
 rintro _ w1 ⟨rfl,m1⟩
 rw[hl.may]
 refine aN (ite_false rfl (an (vF y m (by omega) _ (hy.av m1)) ?_))
 rintro _ w2 ⟨rfl,m2⟩
 rw[hm.may]
 refine aN (ite_false rfl (aV w2 ?_))
 obtain⟨N,hN⟩:∃N,N=qS l m:=⟨_,rfl⟩
 rw[<- hN]
 have zf:N.length=256:=by rw[hN];exact vH _
 refine eZ 0 128 (λi (o:ag) w'=>ah w [] w' [.row aU 1 o (bf (N.take (2*i)))]) rfl (by omega) (by simpa[bf]using ((ah.start w).frame (m1.trans m2)).dy aU 1) ?_ ?_
 ·intro again i o w4 _ hi H aB
  have hn:=(H.bq 0 rfl).len
  rw[List.length_take,Nat.min_eq_left (by omega)]at hn
  have Fv:=U0 ⟨i,hi⟩
  simp only at Fv
  refine ite_true (decide_eq_true (by omega)) (an (PM i hi _) ?_)
  rintro _ w5 ⟨rfl,hw⟩
  subst hw
  have gZ:2*((sq i:Nat):Int)+1=((2*sq i+1:Nat):Int):=by omega
  refine bH ⟨⟨by omega,by omega⟩,⟨by omega,by omega⟩,?_⟩
  rw[gZ]
  refine an (Rf (2*sq i+1) (by omega) _) ?_
  rintro _ w6 ⟨rfl,hw⟩
  subst hw
  have hq:=U1 i
  have hz:((17 ^ (2*sq i+1)%3329:Nat):Int)=zq i:=rfl
  rw[hz]
  have o1:=Sx (f:=l) (g:=m) hi
  have o2:=Tr (f:=l) (g:=m) hi
  rw[<- hN]at o1 o2
  have ra:=hl.get (i:=2*i) (by omega)
  have rb:=hl.get (i:=2*i+1) (by omega)
  have rc:=hm.get (i:=2*i) (by omega)
  have rd:=hm.get (i:=2*i+1) (by omega)
  have Hd:=H.drew
  have e2:2*(i:Int)=((2*i:Nat):Int):=by omega
  have e3:((2*i:Nat):Int)+1=((2*i+1:Nat):Int):=by omega
  rw[e2,e3]
  refine bH ⟨⟨by omega,by omega⟩,(hx.av Hd.mod).ld (i:=2*i) (by omega) rfl ⟨⟨by omega,by omega⟩,⟨by omega,by omega⟩,(hx.av Hd.mod).ld (i:=2*i+1) (by omega) rfl ⟨⟨by omega,by omega⟩,(hy.av Hd.mod).ld (i:=2*i) (by omega) rfl ⟨⟨by omega,by omega⟩,⟨by omega,by omega⟩,(hy.av Hd.mod).ld (i:=2*i+1) (by omega) rfl ?_⟩⟩⟩⟩
  obtain⟨a,ha⟩:∃a,a=l.getD (2*i) 0:=⟨_,rfl⟩
  obtain⟨b,hb⟩:∃b,b=l.getD (2*i+1) 0:=⟨_,rfl⟩
  obtain⟨c,hc⟩:∃c,c=m.getD (2*i) 0:=⟨_,rfl⟩
  obtain⟨d,hd⟩:∃d,d=m.getD (2*i+1) 0:=⟨_,rfl⟩
  rw[<- ha,<- hb,<- hc,<- hd]at o1 o2
  rw[<- ha,<- hb,<- hc,<- hd]
  rw[<- ha]at ra
  rw[<- hb]at rb
  rw[<- hc]at rc
  rw[<- hd]at rd
  have pac:=qB ra rc
  have pbd:=qB rb rd
  have pad:=qB ra rd
  have pbc:=qB rb rc
  have pz:0<=b*d%3329*zq i/\b*d%3329*zq i<=11078912:=qB ⟨by omega,by omega⟩ hq
  rw[Int.mul_comm (zq i)]
  refine⟨⟨by omega,by omega⟩,⟨by omega,by omega⟩,by omega,⟨by omega,by omega⟩,⟨by omega,by omega⟩,by omega,⟨by omega,by omega⟩,⟨by omega,by omega⟩,⟨by omega,by omega⟩,by omega,?_⟩
  rw[<- o1,<- o2]
  refine Hd.akj 0 ou rfl (by omega) λo' w7 H _=>⟨⟨by omega,by omega⟩,aB o' w7 ?_⟩
  rw[show 2*(i+1)=2*i+1+1 by omega,ic _ _ (by omega) 0,ic _ _ (by omega) 0,List.append_assoc]
  exact H
 ·intro again o w4 H
  rw[List.take_of_length_le (by omega)]at H
  exact ite_false (decide_eq_false (by omega)) ⟨o,rfl,H.cm 0 rfl,H.mod⟩
theorem Gz(x y:ag)(fs gs:List (List Int))(hl:fs.length=gs.length)(h0:0<fs.length)(h1:fs.length<=1000000)(hf:∀l∈fs,Pq l)(hg:∀l∈gs,Pq l)(w:World)(hx:dj w x fs)(hy:dj w y gs):
  Ok Pr ae5 [.slice x.a x.n x.c,.slice y.a y.n y.c] w λv w'=>kR w w' v (kX fs gs):=by
 refine aC Tryz.func230 (L:=[(5,[(5,.sl),(6,.int .i64)])]) ?_
 have aT:=hx.len
 have gb:=hy.len
 refine ite_false (by rw[decide_eq_true (show((x.n:Nat):Int)=((y.n:Nat):Int) by omega),decide_eq_false (show ¬((x.n:Nat):Int)=0 by omega)];rfl) ?_
 refine(ah.start w).Fs ou Ad (n:=256) rfl rfl (by omega) λz w1 H uV=>?_
 refine eZ 0 fs.length (λi (s:ag) w'=>ah w [] w' [.row aU 1 s (bf (s8 fs gs i))]) rfl (by omega) H ?_ ?_
 ·intro again i s w2 _ hi H aB
  have Hd:=H.drew
  refine ite_true (decide_eq_true (by omega)) ((hx.av Hd.mod).ld (i:=i) hi rfl λa ha=>(hy.av Hd.mod).ld (i:=i) (by omega) rfl λb hb=>?_)
  rw[Sy fs gs i hi (by omega)]at aB
  have pa:=hf _ (vR hi [])
  have pb:=hg _ (vR (l:=gs) (i:=i) (by omega) [])
  have ps:=LK fs gs i
  generalize fs.getD i []=A at*
  generalize gs.getD i []=B at*
  generalize s8 fs gs i=D at*
  refine an (abG a b A B pa pb _ ha hb) ?_
  rintro _ w3 ⟨t,rfl,ht,m3⟩
  have H:=Hd.bg m3 ht
  have AE:=(H.bq 1 rfl).len
  rw[(LJ A B).len]at AE
  have Ak:=(H.bq 1 rfl).some (by omega)
  refine aS (ite_false (by rw[Option.isNone_eq_false_iff];exact Ak) (an (Gy s t D _ ps (LJ _ _) _ (H.bq 0 rfl) (H.bq 1 rfl)) ?_))
  rintro _ w4 ⟨u,rfl,hu,m4⟩
  have H:=H.bg m4 hu
  exact aS ⟨⟨by omega,by omega⟩,aB u w4 (H.only 2 rfl)⟩
 ·intro again s w2 H
  rw[Lo fs gs hl]at H
  exact ite_false (decide_eq_false (by omega)) ⟨s,rfl,H.cm 0 rfl,H.mod⟩
end Go.Proofs.YtgjoehgomjgckaaGreatDoor
end
section
set_option linter.unusedVariables false
set_option linter.unusedSimpArgs false
namespace Go.Ev
open Go
theorem afv{P:Program}{o:Oper}(hd:∀c,o.op≠.defer c){l n:Nat}{a:Act}{w:World}{next:Act->World->Prop}{Q:Exit->Act->World->Prop}(h:o.wp P a w next Q):o.wpIn (Fence.wide.inRound l) n P a w next Q:=by
 refine⟨λf _=>trivial,?_⟩
 rw[Oper.semAt_eq _ _ _ hd]
 unfold Oper.wp at h
 revert h
 generalize (execOp a.eval o).run P w=r
 intro h
 match r,h with
 |.ok (.value v) w',h=>exact h
 |.ok .skip w',h=>exact h
 |.ok (.defer d) w',h=>exact h
 |.ok (.enter f args) w',h=>exact⟨λh=>absurd h (by simp[Fence.inRound,Fence.wide]),(callsIn_wide.2 h:CallsIn Fence.wide _ _ _ _ _ _)⟩
 |.ok (.row row args) w',h=>exact⟨λh=>absurd h (by simp[Fence.inRound,Fence.wide]),λc cs _=>let ⟨v,w2,hr,hs⟩:=h c cs;⟨v,w2,hr,by rw[fenced_inRound];exact stepsIn_wide.2 hs⟩⟩
 |.halt (.panic v) w',h=>exact h
theorem DT{P:Program}{ops:Array Oper}(hd:∀(i:Nat) o,ops[i]? = some o->∀c,o.op≠.defer c){Q:Exit->Act->World->Prop}(cr:¬LetsOut Q){l n:Nat}:∀(idx:List Nat) (a:Act) (w:World),wpOps P ops Q idx a w->wpOpsIn (Fence.wide.inRound l) n P ops Q idx a w
 |[],a,w,h=>h
 |i::rest,a,w,h=>by
  unfold wpOps at h
  unfold wpOpsIn
  cases ho:ops[i]? with
  |none=>
   rw[ho]at h
   exact DT hd cr rest a w h
  |some o=>
   rw[ho]at h
   simp only at h⊢
   split
   ·rename_i hw
    rw[if_pos hw]at h
    rcases h with h|h
    ·exact afv (hd i o ho) (Oper.wp_mono (λa w h=>DT hd cr rest a w h) h)
    ·exact absurd h.2 cr
   ·rename_i hw
    rw[if_neg hw]at h
    exact⟨λf _=>trivial,DT hd cr rest _ w h⟩
variable{P:Program}{n:Nat}{ws:List Nat}{f0:Fr}{ops:Array Oper}
theorem U2[fX](hP:Good P)(yS:∀(i:Nat) o,ops[i]? = some o->∀c,o.op≠.defer c){m:Mode}{draw:Bool}{id l k:Nat}{fr:Fr}{a:Act}{w:World}{K:Fr->World->Prop}{Q:Exit->Act->World->Prop}(hQ:∀fr a w,Kn n ws f0 ⟨fr,[],[]⟩ a->K fr w->Q .normal a w)
  (hd:∀o∈ops.toList,∀d,o.dst=some d->d<n/\d∈ws) (hk:Kn n ws f0 ⟨fr,[],[]⟩ a) (h:wL P m ops draw fr w K):(Code.region id ops draw).wpIn (Fence.wide.inRound l) k P Q a w:=by
 have cr:¬LetsOut (Q0 λa w=>Q .normal a w):=λ⟨a,w,h⟩=>h.elim
 unfold wL at h
 cases draw with
 |false=>
  have h1:wpList P ops (Q0 λa w=>Q .normal a w) ops.toList a w:=Eh (Q:=Q0 λa w=>Q .normal a w) hP hd (λfr a w h1 h2=>hQ fr a w h1 h2) _ _ a w hd hk h
  have h2:(Code.region id ops false).wpIn (Fence.wide.inRound l) k P (Q0 λa w=>Q .normal a w) a w:=wpIn_region (DT yS cr _ _ _ (by rw[List.range_eq_range',<- Array.length_toList,wpOps_eq_wpList ops.toList 0 (by simp)];exact h1))
  exact wpIn_mono h2 λe a w hq=>by cases e<;>first|exact hq|exact hq.elim
 |true=>
  obtain⟨hc,h⟩:=ie h
  simp only[Bool.and_eq_true]at hc
  have hl:rV ops [] (Array.replicate ops.size false):=⟨by simp,λj hj=>(by simp[hj]),λj hj=>(by cases hj),λj o _ hm=>(by cases hm)⟩
  have h1:=HV hP (Q:=λa w=>Q .normal a w) (λfr a w h1 h2=>hQ fr a w h1 h2) hc.1 hc.2 hd _ [] [] _ a w.drew _ hl hk h
  have h2:(Code.region id ops true).wpIn (Fence.wide.inRound l) k P (Q0 λa w=>Q .normal a w) a w:=wpIn_region_draw λt=>DT yS cr _ _ _ (by
   have:=Lg h1
   rw[Array.length_toList]at this
   simp only[Region.schedule,hP.mixed,Bool.true_or,if_true]
   exact wpAny_sound ops.size t _ a _ this)
  exact wpIn_mono h2 λe a w hq=>by cases e<;>first|exact hq|exact hq.elim
end Go.Ev
end
section
set_option linter.unusedVariables false
set_option linter.unusedSimpArgs false
set_option linter.unusedVariables false
namespace Go.Ev
open Go
variable{P:Program}{n:Nat}{m:Mode}{J L:mj}
def Ij:List Oper->Bool
 |[]=>true
 |o::r=>match o.op with | .defer _=>false|_=>Ij r
theorem Sz:∀ {l:List Oper},Ij l=true->∀o∈l,∀c,o.op≠.defer c
 |[],_,o,h,_,_=>by cases h
 |x::r,h,o,ho,c,hc=>by
  simp only[Ij]at h
  rcases List.mem_cons.1 ho with rfl|h1
  ·rw[hc]at h;cases h
  ·split at h
   ·cases h
   ·exact Sz h o h1 c hc
def sV:Code->Bool
 |.skip | .exit _ | .ret | .label _=>true
 |.region _ ops _=>Ij ops.toList
 |.seq a b=>sV a&&sV b
 |.cond _ a b=>sV a&&sV b
 |.block _ a=>sV a
 |.loop a=>sV a
 |_=>false
def Hz(l i:Nat)(P:Program)(c:Code)(Q:Exit->Act->World->Prop)(a:Act)(w:World):Prop:=
 ∀(b:Frame) (k:List Item) (cs:List Frame),b.roundOf=(Fence.wide.inRound l).round->(Fence.wide.inRound l).fn b.fn->(Fence.wide.inRound l).room (cs.length+1+i)->∃e a' w',Q e a' w'/\ArrivesIn (Machine.fenced P (Fence.wide.inRound l)) P (lone (b.atR a (.code c::.inLoop c::k)) cs w) b k cs e a' w'
theorem afw{l i:Nat}{c:Code}{Q:Exit->Act->World->Prop}{a:Act}{w:World}(h:c.wpIn (Fence.wide.inRound l) i P (Exit.then (Hz l i P c Q) Q) a w):Hz l i P c Q a w:=by
 intro b k cs sg hb hr
 obtain⟨e,a₁,w₁,hq,iV⟩:=h b (.inLoop c::k) cs sg hb hr
 cases e with
 |normal=>
  obtain⟨e₂,a₂,w₂,EA,DZ⟩:=hq b k cs sg hb hr
  exact⟨e₂,a₂,w₂,EA,.of_steps (StepsIn.trans iV (.one (fenced_calm hb hr rfl) stepR_inLoop)) DZ⟩
 |exit id=>exact⟨_,a₁,w₁,hq,.pass (x:=.inLoop c) rfl (λ_ _=>.inl (by simp)) iV⟩
 |goto l=>exact⟨_,a₁,w₁,hq,.pass (x:=.inLoop c) rfl (λ_ _=>.inl (by simp)) iV⟩
 |ret=>exact⟨_,a₁,w₁,hq,.pass (x:=.inLoop c) rfl (λ_ _=>.inl (by simp)) iV⟩
 |panic ch=>exact⟨_,a₁,w₁,hq,.pass (x:=.inLoop c) rfl (λ_ _=>.inl (by simp)) iV⟩
 |outgrown=>exact⟨_,a₁,w₁,hq,.pass (x:=.inLoop c) rfl (λ_ _=>.inl (by simp)) iV⟩
theorem agr{l i:Nat}{c:Code}{Q:Exit->Act->World->Prop}{a:Act}{w:World}(h:Hz l i P c Q a w):(Code.loop c).wpIn (Fence.wide.inRound l) i P Q a w:=by
 intro b k cs sg hb hr
 obtain⟨e,a',w',hq,iV⟩:=h b k cs sg hb hr
 exact⟨e,a',w',hq,.of_steps (.one (fenced_calm hb hr rfl) stepR_loop) iV⟩
theorem uw[fX](hP:Good P){l i:Nat}:∀(c:Code),sV c=true->(∀d∈writes c,d<n)->∀ {fr:Fr} {a:Act} {w:World} {Q':kV} {Q:Exit->Act->World->Prop},KF n fr a->
  (∀e aP a' w',KF n aP a'->EM (writes c) fr aP->Q' e aP w'->Q e a' w')->dH P m J L c fr w Q'->c.wpIn (Fence.wide.inRound l) i P Q a w
 |.skip,_,_,fr,a,w,Q',Q,hk,hq,h=>wpIn_skip (hq _ _ _ _ hk (λ_ _=>rfl) h)
 |.exit id,_,_,fr,a,w,Q',Q,hk,hq,h=>wpIn_exit (hq _ _ _ _ hk (λ_ _=>rfl) h)
 |.ret,_,_,fr,a,w,Q',Q,hk,hq,h=>wpIn_ret (hq _ _ _ _ hk (λ_ _=>rfl) h)
 |.region id ops draw,hn,hw,fr,a,w,Q',Q,hk,hq,h=>by
  refine U2 (n:=n) (ws:=qL ops.toList) (f0:=fr) (m:=m) hP (λj o ho c hc=>Sz hn o (Array.mem_toList_iff.2 (Array.mem_of_getElem? ho)) c hc) (K:=λaP w'=>Q' .normal aP w') (λaP a' w' h1 h2=>hq .normal aP a' w' h1.kf (λt ht=>h1.Ao t ht) h2) (λo ho d hd=>?_) (hk.kn _) h
  have:d∈qL ops.toList:=BS.2 ⟨o,ho,hd⟩
  exact⟨hw d this,this⟩
 |.cond c x y,hn,hw,fr,a,w,Q',Q,hk,hq,h=>by
  simp only[sV,Bool.and_eq_true]at hn
  simp only[dH]at h
  split at h
  ·rename_i t ht
   have hc:=(hk.kn []).val (Sat.nil a) ht
   have hx:∀d∈writes x,d<n:=λd hd=>hw d (List.mem_append_left _ hd)
   have hy:∀d∈writes y,d<n:=λd hd=>hw d (List.mem_append_right _ hd)
   refine wpIn_cond hc ?_
   cases t with
   |true=>
    exact uw hP x hn.1 hx hk (λe aP a' w' h1 h2 h3=>hq e aP a' w' h1 (λt ht=>h2 t (λhm=>ht (List.mem_append_left _ hm))) h3) h
   |false=>
    exact uw hP y hn.2 hy hk (λe aP a' w' h1 h2 h3=>hq e aP a' w' h1 (λt ht=>h2 t (λhm=>ht (List.mem_append_right _ hm))) h3) h
  ·exact h.elim
 |.block id c,hn,hw,fr,a,w,Q',Q,hk,hq,h=>by
  refine wpIn_block (uw hP c hn hw hk (λe aP a' w' h1 h2 h3=>?_) h)
  cases e with
  |exit i=>
   simp only[zO]at h3
   simp only[Exit.inBlock]
   cases hb:Nat.beq i id with
   |true=>rw[hb]at h3;rw[if_pos (beq_eq.1 hb)];exact hq _ _ _ _ h1 h2 h3
   |false=>rw[hb]at h3;rw[if_neg (fU.1 hb)];exact hq _ _ _ _ h1 h2 h3
  |_=>exact hq _ _ _ _ h1 h2 h3
 |.seq x y,hn,hw,fr,a,w,Q',Q,hk,hq,h=>by
  simp only[sV,Bool.and_eq_true]at hn
  have hx:∀d∈writes x,d<n:=λd hd=>hw d (List.mem_append_left _ hd)
  have hy:∀d∈writes y,d<n:=λd hd=>hw d (List.mem_append_right _ hd)
  simp only[dH]at h
  refine wpIn_seq ?_
  split at h
  ·refine uw hP x hn.1 hx hk (λe aP a' w' h1 h2 h3=>?_) h
   have off:∀e,Q' e aP w'->Q e a' w':=λe h4=>hq e aP a' w' h1 (λt ht=>h2 t (λhm=>ht (List.mem_append_left _ hm))) h4
   cases e with
   |normal=>
    exact uw hP y hn.2 hy h1 (λe gq a2 w2 h4 h5 h6=>hq e gq a2 w2 h4 (λt ht=>
     (h5 t (λhm=>ht (List.mem_append_right _ hm))).trans (h2 t (λhm=>ht (List.mem_append_left _ hm)))) h6) h3
   |_=>exact off _ h3
  ·rename_i ls CT
   obtain⟨dw,h⟩:=ie h
   have dw:=xQ dw
   have h':=h (λfC w'=>∀a',KF n (fC++strip (writes x) fr) a'->y.wpIn (Fence.wide.inRound l) i P Q a' w') (xA λfC hf w' yY a' fM=>
    uw hP y hn.2 hy fM (λe gq a2 w2 h4 h5 h6=>hq e gq a2 w2 h4 (λt ht=>
     (h5 t (λhm=>ht (List.mem_append_right _ hm))).trans (zJ hf dw (λhm=>ht (List.mem_append_left _ hm)))) h6) yY)
   refine uw hP x hn.1 hx hk (λe aP a' w' h1 h2 h3=>?_) h'
   have off:∀e,Q' e aP w'->Q e a' w':=λe h4=>hq e aP a' w' h1 (λt ht=>h2 t (λhm=>ht (List.mem_append_left _ hm))) h4
   cases e with
   |normal=>exact h3 a' (uj h1 h2)
   |_=>exact off _ h3
 |.loop c,hn,hw,fr,a,w,Q',Q,hk,hq,h=>by
  simp only[dH]at h
  split at h
  ·exact h.elim
  ·rename_i ls CT
   obtain⟨dw,h⟩:=ie h
   have dw:=xQ dw
   have h':=h (λfC w'=>∀a',KF n (fC++strip (writes c) fr) a'->Hz l i P c Q a' w') (xA λfC hf w' wP a' fM=>afw (
    uw hP c hn hw fM (λe gq a2 w2 h4 h5 h6=>by
     have same:∀t,t∉writes c->look t gq=look t fr:=λt ht=>(h5 t ht).trans (zJ hf dw ht)
     have off:∀e,Q' e gq w2->Q e a2 w2:=λe h7=>hq e gq a2 w2 h4 same h7
     cases e with
     |normal=>exact h6 a2 (uj h4 same)
     |_=>exact off _ h6) wP))
   exact agr (h' a (uj hk (λ_ _=>rfl)))
 |.rangeFunc ..,_,_,_,_,_,_,_,_,_,h=>(by simp only[dH]at h)
 |.scope c,hn,_,_,_,_,_,_,_,_,_=>(by cases hn)
 |.label l,_,hw,fr,a,w,Q',Q,hk,hq,h=>by
  simp only[dH]at h
  exact wpIn_label (hq _ _ _ _ hk (λ_ _=>rfl) h)
 |.goto _,_,_,_,_,_,_,_,_,_,h=>(by simp only[dH]at h)
 |.refuse _,_,_,_,_,_,_,_,_,_,h=>(by simp only[dH]at h)
#print axioms uw
end Go.Ev
end
section
set_option linter.unusedVariables false
set_option linter.unusedSimpArgs false
set_option linter.unusedVariables false
namespace Go.Ev
open Go Go.RowKit
variable{fr:Fr}
theorem La(W:World)(l:Nat)(o:Obj):W.grownBy (W.putObj l o) (some l):=
 ⟨rfl,rfl,rfl,by simp,λk _ hk=>World.putObj_heap_other (λe=>hk (by rw[e]))⟩
def M7(P:Program){A:Type}(gf:Nat)(lb:List Value)(enc:A->Value)(Kp:World->World->Prop)(T:World->Nat->Prop)(S Sp:List A->Prop)(N:Nat)(w:World):Prop:=
 ∀(l:Nat) (J Jx:List A->World->Prop),
  (∀s W W' row,J s W->W.grownBy W' row->(∀r,row=some r->T W r)->J s W')->
  (∀s W W' row,Jx s W->W.grownBy W' row->(∀r,row=some r->T W r)->Jx s W')->
  (∀pre x W,J pre W->pre.length<N->YieldAt Fence.wide 0 P l #[enc x] W λe W'=>
   (e=.returned (.bool true)/\J (pre++[x]) W'/\Kp W W')\/(e=.returned (.bool false)/\Jx (pre++[x]) W'))->
  J [] w->CallsIn Fence.wide 1 P gf (#[.func (.yield l) #[] #[]]++⟨lb⟩) w λe W'=>(∃v,e=.returned v)/\((∃xs,S xs/\J xs W')\/(∃pre,Sp pre/\Jx pre W'))
def Ik(P:Program)(g:Value)(w:World)(round:Value->World->(World->Prop)->(World->Prop)->Prop)(done stop:World->Prop):Prop:=
 ∃gf lb,g=.func (.func gf) #[] ⟨lb⟩/\jB P gf=true/\∀(w1:World) (rec:Obj),w1=(w.alloc (.deferred (some []))).alloc rec->
  ∃(A:Type) (enc:A->Value) (Kp:World->World->Prop) (T:World->Nat->Prop) (S Sp:List A->Prop) (N:Nat) (I Ir:List A->World->Prop),
   M7 P gf lb enc Kp T S Sp N w1/\I [] w1/\
   (∀W r,T W r->r≠w.heap.size/\r≠w.heap.size+1)/\
   (∀W W' o o',Kp (W.putObj (w.heap.size+1) o) W'->Kp W (W'.putObj (w.heap.size+1) o'))/\
   (∀pre W W' row,I pre W->W.grownBy W' row->(∀r,row=some r->r=w.heap.size+1\/T W r)->I pre W')/\
   (∀pre W W' row,Ir pre W->W.grownBy W' row->(∀r,row=some r->r=w.heap.size+1\/T W r)->Ir pre W')/\
   (∀pre x W,I pre W->pre.length<N->round (enc x) W
    (λW'=>W'.heap[w.heap.size]? = W.heap[w.heap.size]?/\W'.heap[w.heap.size+1]? = W.heap[w.heap.size+1]?/\Kp W W'/\I (pre++[x]) W')
    (λW'=>W'.heap[w.heap.size]? = W.heap[w.heap.size]?/\W'.heap[w.heap.size+1]? = W.heap[w.heap.size+1]?/\Ir (pre++[x]) W'))/\
   (∀xs W,S xs->I xs W->W.heap[w.heap.size]? = some (.deferred (some []))->done W)/\
   (∀pre W,Sp pre->Ir pre W->W.heap[w.heap.size]? = some (.deferred (some []))->stop W)
def Av(D:Nat)(w:World)(K:World->Prop):Prop:=w.heap[D]? = some (.deferred (some []))/\K (w.putObj D (.deferred none))
abbrev MA:=Exit->Fr->List Nat->World->Prop
def qC:Code->Bool
 |.rangeFunc ..=>true
 |.seq a b | .cond _ a b=>qC a||qC b
 |.block _ a | .loop a | .scope a=>qC a
 |_=>false
def elemOf(p:Nat)(L:mj):Sh:=match uy (some (1000000+p)) L with|some [(_,sh)]=>sh|_=>.val
def IA:Code->Option (Nat × Nat)
 |.region _ ops false=>(match ops.toList with
  |[o]=>(match o.op,o.dst,o.guard with | .assign (.tmp t),some d,none=>some (d,t)|_,_,_=>none)
  |_=>none)
 |_=>none
def uo:Code->List Nat
 |.rangeFunc _ ps a b=>ps.toList++(writes a++writes b)
 |.seq a b | .cond _ a b=>uo a++uo b
 |.block _ a | .loop a | .scope a=>uo a
 |.region _ ops _=>qL ops.toList
 |_=>[]
def rj(P:Program)(m:Mode)(J L:mj):Code->Fr->List Nat->World->MA->Prop
 |.seq a b,fr,ds,w,Q=>cond (qC a)
   (match uy (keyOf b) J with
    |none=>rj P m J L a fr ds w λe aP mY w'=>match e with | .normal=>rj P m J L b aP mY w' Q|e=>Q e aP mY w'
    |some _=>False)
   (cond (qC b)
    (match uy (keyOf b) J with
     |none=>dH P m J L a fr w λe aP w'=>match e with | .normal=>rj P m J L b aP ds w' Q|e=>Q e aP ds w'
     |some ls=>cond (ym ls (writes a)) (∀K:Fr->World->Prop,(Ah ls λaP=>∀w',rj P m J L b (aP++strip (writes a) fr) ds w' Q->K aP w')->dH P m J L a fr w λe aP w'=>match e with | .normal=>K (carry aP ls) w'|e=>Q e aP ds w') False)
    (dH P m J L (.seq a b) fr w λe aP w'=>Q e aP ds w'))
 |.block id a,fr,ds,w,Q=>cond (qC a)
   (rj P m J L a fr ds w λe aP mY w'=>match e with | .exit i=>cond (Nat.beq i id) (Q .normal aP mY w') (Q (.exit i) aP mY w')|e=>Q e aP mY w')
   (dH P m J L (.block id a) fr w λe aP w'=>Q e aP ds w')
 |.rangeFunc g ps assign body,fr,ds,w,Q=>(match ds,ps.toList,(⟨fr,[],[]⟩:St).val [] g,IA assign with
  |[],[p],some gv,some (d,t)=>cond (Nat.beq t p&&sV body)
    (Ik P gv w (λv W K Kr=>rF (elemOf p L) v λx=>dH P m J L body ((d,some x)::(p,some x)::fr) W λe _ W'=>match e with | .normal=>K W' | .ret=>Kr W'|_=>False)
     (λW=>Q .normal fr [w.heap.size] W) (λW=>Q .ret fr [w.heap.size] W)) False
  |_,_,_,_=>False)
 |c,fr,ds,w,Q=>cond (qC c) False (dH P m J L c fr w λe aP w'=>Q e aP ds w')
def VG(P:Program)(fn:Func)(R:Value->World->Prop):MA:=λe fr ds w=>match e with
 |.normal | .ret=>(match ds with
  |[]=>qD P fr w fn.results.toList (HU R w)
  |[D]=>Av D w λw'=>qD P fr w' fn.results.toList (HU R w')
  |_=>False)
 |_=>False
@[irreducible] def M8(P:Program)(m:Mode)(J L:mj)(fn:Func)(args:List Value)(w:World)(R:Value->World->Prop):Prop:=
 match fn.body with
 |some c=>cond (Cy fn.ntmps (uo c)) (rj P m J L c (qM 0 args) [] w (VG P fn R)) False
 |none=>False
variable{P:Program}{n:Nat}{m:Mode}{J L:mj}
abbrev pE(ds:List Nat):fX:=⟨ds.map λD=>{ target:=.collected D,args:=#[] }⟩
abbrev KX(n:Nat)(ds:List Nat)(fr:Fr)(a:Act):Prop:=@KF (pE ds) n fr a
theorem xE:∀ {c:Code},∀d∈writes c,d∈uo c
 |.region _ _ _,d,h=>h
 |.seq a b,d,h=>by
  rcases List.mem_append.1 h with h|h
  ·exact List.mem_append_left _ (xE d h)
  ·exact List.mem_append_right _ (xE d h)
 |.cond _ a b,d,h=>by
  rcases List.mem_append.1 h with h|h
  ·exact List.mem_append_left _ (xE d h)
  ·exact List.mem_append_right _ (xE d h)
 |.block _ a,d,h=>xE (c:=a) d h
 |.loop a,d,h=>xE (c:=a) d h
 |.scope a,d,h=>xE (c:=a) d h
 |.rangeFunc ..,d,h=>by cases h
 |.skip,d,h=>by cases h
 |.exit _,d,h=>by cases h
 |.label _,d,h=>by cases h
 |.goto _,d,h=>by cases h
 |.ret,d,h=>by cases h
 |.refuse _,d,h=>by cases h
theorem pY(hP:Good P){c:Code}(hw:∀d∈uo c,d<n){ds:List Nat}{a:Act}{w:World}{Q':kV}{Q:Exit->Act->World->Prop}{i:Nat}(hk:KX n ds fr a)
  (hq:∀e aP a' w',KX n ds aP a'->EM (writes c) fr aP->Q' e aP w'->Q e a' w') (h:dH P m J L c fr w Q'):c.wpIn Fence.wide i P Q a w:=
 wpIn_wide.2 (@sO P n m J L (pE ds) hP c (λd hd=>hw d (xE d hd)) fr a w Q' Q hk hq h)
theorem ahx{c:Code}{d t:Nat}(h:IA c=some (d,t)):∃id o,c=.region id #[o] false/\o.op=.assign (.tmp t)/\o.dst=some d/\o.guard=none:=by
 unfold IA at h
 split at h
 ·rename_i id ops
  split at h
  ·rename_i o ho
   split at h
   ·rename_i h1 h2 h3
    simp only[Option.some.injEq,Prod.mk.injEq]at h
    obtain⟨rfl,rfl⟩:=h
    refine⟨id,o,?_,h1,h2,h3⟩
    congr 1
    exact Array.toList_inj.1 (by simpa using ho)
   ·cases h
  ·cases h
 ·cases h
theorem ajo(hP:Good P){id d t l i:Nat}{o:Oper}(h1:o.op=.assign (.tmp t))(h2:o.dst=some d)(h3:o.guard=none)(hd:d<n){a:Act}{x:Value}(hk:KX n [] ((t,some x)::fr) a){W:World}{K:Act->World->Prop}
  (hK:∀a',KX n [] ((d,some x)::(t,some x)::fr) a'->K a' W):(Code.region id #[o] false).wpIn (Fence.wide.inRound l) i P (Exit.then K λ_ _ _=>False) a W:=by
 refine @U2 P n [d] ((t,some x)::fr) #[o] (pE []) hP (λj o' ho c hc=>?_) ⟨true,true⟩ false id l i ((t,some x)::fr) a W (λaP w'=>aP=(d,some x)::(t,some x)::fr/\w'=W) _ (λaP a' w' fM h=>?_) (λo' ho d' WZ=>?_) (@KF.kn n (pE []) _ a hk [d]) ?_
 ·have:o'=o:=by
   match j,ho with
   |0,ho=>simpa using ho.symm
   |j+1,ho=>simp at ho
  subst this;rw[h1]at hc;cases hc
 ·obtain⟨rfl,rfl⟩:=h
  exact hK a' (@Kn.kf n (pE []) _ _ _ a' fM)
 ·have:o'=o:=by simpa using ho
  subst this
  rw[h2]at WZ;cases WZ
  exact⟨hd,by simp⟩
 ·simp only[wL,cond_false,rR,rG,h3,oE,h1,h2,St.put,St.val,cS,look,Nat.beq_refl,cond_true,nG,and_self]
theorem aej{sh:Sh}{v:Value}{K:Value->Prop}(h:rF sh v K):K v:=by
 cases sh<;>first|exact h|(obtain⟨_,rfl,h⟩:=h;exact h)
theorem ags(ps:Array Tmp)(p:Nat)(hp:ps.toList=[p])(x:Value)(t0:Array Value):(ps.zip #[x]).foldl (λtmps (t,v)=>tmps.setIfInBounds t v) t0=t0.setIfInBounds p x:=by
 obtain rfl:ps=#[p]:=Array.toList_inj.1 (by simpa using hp)
 simp
theorem KX.round{a:Act}(hk:KX n [] fr a){p:Nat}(hp:p<n)(x:Value):KX n [] ((p,some x)::fr) { tmps:=a.tmps.setIfInBounds p x,defers:=[] }:=by
 refine @KF.mk (pE []) n _ _ (by simp[hk.size]) rfl λt v hl=>?_
 simp only[look]at hl
 cases hb:Nat.beq p t with
 |true=>
  rw[hb]at hl
  cases hl
  have e:=beq_eq.1 hb
  subst e
  show Array.getD (a.tmps.setIfInBounds p x) p undef=x
  simp[Array.getD_eq_getD_getElem?,hk.size,hp]
 |false=>
  rw[hb]at hl
  have:=hk.fr t v hl
  show Array.getD (a.tmps.setIfInBounds p x) t undef=v
  have gP:=fU.1 hb
  rw[Array.getD_eq_getD_getElem?,Array.getElem?_setIfInBounds_ne gP,<- Array.getD_eq_getD_getElem?]
  exact this
theorem ahy(hP:Good P){g:Operand}{ps:Array Tmp}{assign body:Code}{p d:Nat}{gv:Value}(q9:ps.toList=[p])(M9:IA assign=some (d,p))(yS:sV body=true)
  (hw:∀x∈uo (.rangeFunc g ps assign body),x<n) {fr:Fr} {a:Act} {w:World} (hk:KX n [] fr a) (hg:a.eval g=gv) {done stop:World->Prop} {Q:Exit->Act->World->Prop}
  (h:Ik P gv w (λv W K Kr=>rF (elemOf p L) v λx=>dH P m J L body ((d,some x)::(p,some x)::fr) W λe _ W'=>match e with | .normal=>K W' | .ret=>Kr W'|_=>False) done stop)
  (MB:∀a' W,KX n [w.heap.size] fr a'->done W->Q .normal a' W) (MC:∀a' W,KX n [w.heap.size] fr a'->stop W->Q .ret a' W) :
  (Code.rangeFunc g ps assign body).wpIn Fence.wide 2 P Q a w:=by
 refine wpIn_rangeFunc λfn _=>?_
 obtain⟨gf,lb,rfl,akX,h⟩:=h
 obtain⟨rec,wE⟩:∃rec:LoopState->Option Code->Loop,rec=λst pe=>{ state:=st,pending:=pe,fn,tmps:=a.tmps,params:=ps,assign,body,defers:=w.heap.size }:=⟨_,rfl⟩
 obtain⟨w1,nV⟩:∃w1,w1=(w.alloc (.deferred (some []))).alloc (.loop (rec .ready none)):=⟨_,rfl⟩
 obtain⟨A,enc,Kp,T,S,Sp,N,I,Ir,Na,h0,hT,hKp,hI,N5,Mc,hd,hs⟩:=h w1 (.loop (rec .ready none)) nV
 have hL1:w1.heap[w.heap.size+1]? = some (.loop (rec .ready none)):=by
  rw[nV];have:=World.alloc_heap_new (w.alloc (.deferred (some []))) (.loop (rec .ready none));rwa [World.size_alloc]at this
 have W0:w1.heap[w.heap.size]? = some (.deferred (some [])):=by
  rw[nV];exact(Below.heap_alloc _ _ _ (by simp)).trans (World.alloc_heap_new w _)
 have hp:p<n:=hw p (List.mem_append_left _ (by rw[q9];simp))
 obtain⟨aid,ao,rfl,uS,k8,qq⟩:=ahx M9
 have W1:d<n:=hw d (List.mem_append_right _ (List.mem_append_left _ (BS.2 ⟨ao,by simp,k8⟩)))
 have hwb:∀x∈writes body,x<n:=λx hx=>hw x (List.mem_append_right _ (List.mem_append_right _ hx))
 refine⟨w.heap.size+1,[{ target:=.collected w.heap.size,args:=#[] }],w1,{ target:=.fn (.func gf) ⟨lb⟩,args:=#[.func (.yield (w.heap.size+1)) #[] #[]] },w1,gf,
  #[.func (.yield (w.heap.size+1)) #[] #[]]++⟨lb⟩,w1,?_,?_,λ_ _=>trivial,?_,λh=>by simp[Fence.wide]at h,?_⟩
 ·rw[nV,wE];exact run_enterLoop_outer _ _ _ _ _
 ·simp only[resolve,hg]
  simp[go_sem]
 ·have:=QX hP akX (#[.func (.yield (w.heap.size+1)) #[] #[]]++(⟨lb⟩:Array Value)) w1
  simp[invoke,go_sem]
  simpa using this
 ·have gV:∀ {I:List A->World->Prop},(∀pre W W' row,I pre W->W.grownBy W' row->(∀r,row=some r->r=w.heap.size+1\/T W r)->I pre W')->∀pre W o,I pre W->I pre (W.putObj (w.heap.size+1) o):=
   λhI pre W o h=>hI pre W _ (some (w.heap.size+1)) h (La W _ o) λr e=>.inl (Option.some.inj e).symm
  have keep:∀ {W W':World} {row:Option Nat} {k:Nat} {o:Obj},W.grownBy W' row->(∀r,row=some r->T W r)->(k=w.heap.size\/k=w.heap.size+1)->W.heap[k]? = some o->W'.heap[k]? = some o:=λ{W W' row k o} hg hr hk ho=>by
   refine(hg.block k (Array.getElem?_eq_some_iff.1 ho).1 λe=>?_).trans ho
   have:=hT W k (hr k e.symm)
   omega
  refine(Na (w.heap.size+1)
   (λpre W=>I pre W/\W.heap[w.heap.size+1]? = some (.loop (rec .ready none))/\W.heap[w.heap.size]? = some (.deferred (some [])))
   (λpre W=>Ir pre W/\W.heap[w.heap.size+1]? = some (.loop (rec .done (some .ret)))/\W.heap[w.heap.size]? = some (.deferred (some [])))
   (λs W W' row hs rU hr=>⟨hI s W W' row hs.1 rU λr e=>.inr (hr r e),keep rU hr (.inr rfl) hs.2.1,keep rU hr (.inl rfl) hs.2.2⟩)
   (λs W W' row hs rU hr=>⟨N5 s W W' row hs.1 rU λr e=>.inr (hr r e),keep rU hr (.inr rfl) hs.2.1,keep rU hr (.inl rfl) hs.2.2⟩)
   ?_ ⟨h0,hL1,W0⟩).mono ?_
  ·rintro pre x W ⟨hi,hl,hD⟩ hlen
   have bB:w.heap.size+1<W.heap.size:=(Array.getElem?_eq_some_iff.1 hl).1
   have akY:ps=#[p]:=Array.toList_inj.1 (by simpa using q9)
   have hy:=run_yield (P:=P) (args:=#[enc x]) hl (by rw[wE];simp[akY])
   rw[wE]at hy
   simp only[ags ps p q9]at hy
   refine⟨fn,_,_,body,hy,roundIn_of_wpIn (F:=Fence.wide) trivial (ajo hP uS k8 qq W1 (hk.round hp (enc x)) λa₁ mo=>⟨_,run_beginRound hl (by rw[wE]),?_⟩)⟩
   obtain⟨Wb,FD⟩:∃Wb,Wb=W.putObj (w.heap.size+1) (.loop { rec .ready none with state:=.busy }):=⟨_,rfl⟩
   have tD:Wb.heap[w.heap.size+1]? = some (.loop { rec .ready none with state:=.busy }):=by rw[FD];exact World.putObj_heap_same bB
   have hD2:Wb.heap[w.heap.size]? = some (.deferred (some [])):=by rw[FD];exact(World.putObj_heap_other (by omega)).trans hD
   rw[<- FD]
   have uX:I pre Wb:=by rw[FD];exact gV hI pre W _ hi
   have hb:=aej (Mc pre x Wb uX hlen)
   refine @uw P n m J L (pE []) hP (w.heap.size+1) 0 body yS hwb _ a₁ Wb _ _ mo ?_ hb
   intro e aP a' W3 _ _ Da
   have fin:∀(jump:Option Code),W3.heap[w.heap.size]? = Wb.heap[w.heap.size]?->W3.heap[w.heap.size+1]? = Wb.heap[w.heap.size+1]?->
     (Instr.endRound (w.heap.size+1) jump).run P W3=.ok (.bool jump.isNone) (W3.putObj (w.heap.size+1) (.loop (rec (if jump.isNone then .ready else .done) jump)))/\
     (W3.putObj (w.heap.size+1) (.loop (rec (if jump.isNone then .ready else .done) jump))).heap[w.heap.size+1]? = some (.loop (rec (if jump.isNone then .ready else .done) jump))/\
     (W3.putObj (w.heap.size+1) (.loop (rec (if jump.isNone then .ready else .done) jump))).heap[w.heap.size]? = some (.deferred (some [])):=λjump hkD hkL=>by
    have zg:=hkL.trans tD
    have:=run_endRound (P:=P) jump zg
    rw[wE]at this⊢
    exact⟨this,World.putObj_heap_same (Array.getElem?_eq_some_iff.1 zg).1,(World.putObj_heap_other (by omega)).trans (hkD.trans hD2)⟩
   cases e with
   |normal=>
    obtain⟨h1,h2,h3,h4⟩:=Da
    obtain⟨hr,Ba,N6⟩:=fin none h1 h2
    exact⟨_,_,hr,.inl ⟨rfl,⟨gV hI _ _ _ h4,Ba,N6⟩,hKp _ _ _ _ (by rw[<- FD];exact h3)⟩⟩
   |ret=>
    obtain⟨h1,h2,h3⟩:=Da
    obtain⟨hr,Ba,N6⟩:=fin (some .ret) h1 h2
    exact⟨_,_,hr,.inr ⟨rfl,gV N5 _ _ _ h3,Ba,N6⟩⟩
   |exit id=>exact Da.elim
   |goto t=>exact Da.elim
   |panic ch=>exact Da.elim
   |outgrown=>exact Da.elim
  ·have kF:∀(b:Bool),KX n [w.heap.size] fr { a with defers:=[{ target:=.collected w.heap.size,args:=#[] }]++a.defers }:=λ_=>by
    refine @KF.mk (pE [w.heap.size]) n _ _ hk.size ?_ hk.fr
    have:=hk.defers
    show[_]++a.defers=_
    rw[this];rfl
   rintro e W2 ⟨⟨v,rfl⟩,(⟨xs,hS,hi,hl,hD⟩|⟨pre,hSp,hi,hl,hD⟩)⟩
   ·refine⟨none,_,by have:=run_endLoop (P:=P) hl (by rw[wE];simp);rw[wE]at this;exact this,?_⟩
    exact MB _ _ (kF true) (hd xs _ hS (gV hI _ _ _ hi) ((World.putObj_heap_other (by omega)).trans hD))
   ·refine⟨some .ret,_,by have:=run_endLoop (P:=P) hl (by rw[wE];simp);rw[wE]at this;exact this,?_⟩
    exact wpIn_ret (MC _ _ (kF true) (hs pre _ hSp (gV N5 _ _ _ hi) ((World.putObj_heap_other (by omega)).trans hD)))
theorem Cq(hP:Good P):∀(c:Code),(∀d∈uo c,d<n)->∀ {fr:Fr} {ds:List Nat} {a:Act} {w:World} {Q':MA} {Q:Exit->Act->World->Prop},KX n ds fr a->
  (∀e aP mY a' w',KX n mY aP a'->EM (writes c) fr aP->Q' e aP mY w'->Q e a' w')->rj P m J L c fr ds w Q'->c.wpIn Fence.wide 2 P Q a w
 |.seq x y,hw,fr,ds,a,w,Q',Q,hk,hq,h=>by
  have hx:∀d∈uo x,d<n:=λd hd=>hw d (List.mem_append_left _ hd)
  have hy:∀d∈uo y,d<n:=λd hd=>hw d (List.mem_append_right _ hd)
  simp only[rj]at h
  cases W4:qC x with
  |true=>
   rw[W4,cond_true]at h
   split at h
   ·refine wpIn_seq (Cq hP x hx hk (λe aP mY a' w' h1 h2 h3=>?_) h)
    have off:∀e,Q' e aP mY w'->Q e a' w':=λe h4=>hq e aP mY a' w' h1 (λt ht=>h2 t (λhm=>ht (List.mem_append_left _ hm))) h4
    cases e with
    |normal=>
     exact Cq hP y hy h1 (λe gq FE a2 w2 h4 h5 h6=>hq e gq FE a2 w2 h4 (λt ht=>
      (h5 t (λhm=>ht (List.mem_append_right _ hm))).trans (h2 t (λhm=>ht (List.mem_append_left _ hm)))) h6) h3
    |_=>exact off _ h3
   ·exact h.elim
  |false=>
   rw[W4,cond_false]at h
   cases W5:qC y with
   |false=>
    rw[W5,cond_false]at h
    exact pY (m:=m) (J:=J) (L:=L) hP (c:=.seq x y) hw hk (λe aP a' w' h1 h2 h3=>hq e aP ds a' w' h1 h2 h3) h
   |true=>
    rw[W5,cond_true]at h
    split at h
    ·refine wpIn_seq (pY hP hx hk (λe aP a' w' h1 h2 h3=>?_) h)
     have off:∀e,Q' e aP ds w'->Q e a' w':=λe h4=>hq e aP ds a' w' h1 (λt ht=>h2 t (λhm=>ht (List.mem_append_left _ hm))) h4
     cases e with
     |normal=>
      exact Cq hP y hy h1 (λe gq FE a2 w2 h4 h5 h6=>hq e gq FE a2 w2 h4 (λt ht=>
       (h5 t (λhm=>ht (List.mem_append_right _ hm))).trans (h2 t (λhm=>ht (List.mem_append_left _ hm)))) h6) h3
     |_=>exact off _ h3
    ·rename_i ls CT
     obtain⟨dw,h⟩:=ie h
     have dw:=xQ dw
     have h':=h (λfC w'=>∀a',KX n ds (fC++strip (writes x) fr) a'->y.wpIn Fence.wide 2 P Q a' w') (xA λfC hf w' yY a' fM=>
      Cq hP y hy fM (λe gq FE a2 w2 h4 h5 h6=>hq e gq FE a2 w2 h4 (λt ht=>
       (h5 t (λhm=>ht (List.mem_append_right _ hm))).trans (zJ hf dw (λhm=>ht (List.mem_append_left _ hm)))) h6) yY)
     refine wpIn_seq (pY hP hx hk (λe aP a' w' h1 h2 h3=>?_) h')
     have off:∀e,Q' e aP ds w'->Q e a' w':=λe h4=>hq e aP ds a' w' h1 (λt ht=>h2 t (λhm=>ht (List.mem_append_left _ hm))) h4
     cases e with
     |normal=>exact h3 a' (@uj n (pE ds) _ _ _ _ _ h1 h2)
     |_=>exact off _ h3
 |.block id c,hw,fr,ds,a,w,Q',Q,hk,hq,h=>by
  simp only[rj]at h
  cases hr:qC c with
  |false=>
   rw[hr,cond_false]at h
   exact pY (m:=m) (J:=J) (L:=L) hP (c:=.block id c) hw hk (λe aP a' w' h1 h2 h3=>hq e aP ds a' w' h1 h2 h3) h
  |true=>
   rw[hr,cond_true]at h
   refine wpIn_block (Cq hP c hw hk (λe aP mY a' w' h1 h2 h3=>?_) h)
   cases e with
   |exit i=>
    simp only[Exit.inBlock]
    cases hb:Nat.beq i id with
    |true=>simp only[hb,cond_true]at h3;rw[if_pos (beq_eq.1 hb)];exact hq _ _ _ _ _ h1 h2 h3
    |false=>simp only[hb,cond_false]at h3;rw[if_neg (fU.1 hb)];exact hq _ _ _ _ _ h1 h2 h3
   |_=>exact hq _ _ _ _ _ h1 h2 h3
 |.rangeFunc g ps assign body,hw,fr,ds,a,w,Q',Q,hk,hq,h=>by
  simp only[rj]at h
  split at h
  ·rename_i p gv d t q9 hg M9
   obtain⟨hc,h⟩:=ie h
   simp only[Bool.and_eq_true]at hc
   have e:=beq_eq.1 hc.1
   subst e
   have hgv:a.eval g=gv:=@Kn.val (pE []) n [] fr _ a (@KF.kn n (pE []) _ a hk []) [] (Sat.nil a) _ _ hg
   exact ahy hP q9 M9 hc.2 hw hk hgv h (λa' W h1 h2=>hq _ _ _ _ _ h1 (λ_ _=>rfl) h2) (λa' W h1 h2=>hq _ _ _ _ _ h1 (λ_ _=>rfl) h2)
  ·exact h.elim
 |.skip,hw,fr,ds,a,w,Q',Q,hk,hq,h=>pY (m:=m) (J:=J) (L:=L) hP (c:=.skip) hw hk (λe aP a' w' h1 h2 h3=>hq e aP ds a' w' h1 h2 h3) h
 |.exit id,hw,fr,ds,a,w,Q',Q,hk,hq,h=>pY (m:=m) (J:=J) (L:=L) hP (c:=.exit id) hw hk (λe aP a' w' h1 h2 h3=>hq e aP ds a' w' h1 h2 h3) h
 |.ret,hw,fr,ds,a,w,Q',Q,hk,hq,h=>pY (m:=m) (J:=J) (L:=L) hP (c:=.ret) hw hk (λe aP a' w' h1 h2 h3=>hq e aP ds a' w' h1 h2 h3) h
 |.label l,hw,fr,ds,a,w,Q',Q,hk,hq,h=>pY (m:=m) (J:=J) (L:=L) hP (c:=.label l) hw hk (λe aP a' w' h1 h2 h3=>hq e aP ds a' w' h1 h2 h3) h
 |.goto l,hw,fr,ds,a,w,Q',Q,hk,hq,h=>pY (m:=m) (J:=J) (L:=L) hP (c:=.goto l) hw hk (λe aP a' w' h1 h2 h3=>hq e aP ds a' w' h1 h2 h3) h
 |.refuse l,hw,fr,ds,a,w,Q',Q,hk,hq,h=>pY (m:=m) (J:=J) (L:=L) hP (c:=.refuse l) hw hk (λe aP a' w' h1 h2 h3=>hq e aP ds a' w' h1 h2 h3) h
 |.region i o r,hw,fr,ds,a,w,Q',Q,hk,hq,h=>pY (m:=m) (J:=J) (L:=L) hP (c:=.region i o r) hw hk (λe aP a' w' h1 h2 h3=>hq e aP ds a' w' h1 h2 h3) h
 |.cond c x y,hw,fr,ds,a,w,Q',Q,hk,hq,h=>by
  simp only[rj]at h
  cases hr:qC (.cond c x y)with
  |false=>rw[hr]at h;exact pY (m:=m) (J:=J) (L:=L) hP (c:=.cond c x y) hw hk (λe aP a' w' h1 h2 h3=>hq e aP ds a' w' h1 h2 h3) h
  |true=>rw[hr]at h;exact h.elim
 |.loop c,hw,fr,ds,a,w,Q',Q,hk,hq,h=>by
  simp only[rj]at h
  cases hr:qC (.loop c)with
  |false=>rw[hr]at h;exact pY (m:=m) (J:=J) (L:=L) hP (c:=.loop c) hw hk (λe aP a' w' h1 h2 h3=>hq e aP ds a' w' h1 h2 h3) h
  |true=>rw[hr]at h;exact h.elim
 |.scope c,hw,fr,ds,a,w,Q',Q,hk,hq,h=>by
  simp only[rj]at h
  cases hr:qC (.scope c)with
  |false=>rw[hr]at h;exact pY (m:=m) (J:=J) (L:=L) hP (c:=.scope c) hw hk (λe aP a' w' h1 h2 h3=>hq e aP ds a' w' h1 h2 h3) h
  |true=>rw[hr]at h;exact h.elim
theorem Un(hP:Good P){f:FuncId}{fn:Func}(hf:P.funcs[f]? = some fn){args:List Value}(EB:Nat.ble args.length fn.ntmps=true){w:World}{R:Value->World->Prop}
  (h:M8 P m J L fn args w R):Ok P f args w R:=by
 have hlen:args.length<=fn.ntmps:=Nat.le_of_ble_eq_true EB
 unfold M8 at h
 split at h
 ·rename_i c hc
  obtain⟨bB,h⟩:=ie h
  refine callsIn_wide.1 (callsIn_of_wp_marks (F:=Fence.wide) (n:=2) hf hc trivial (Cq (n:=fn.ntmps) (m:=m) (J:=J) (L:=L) hP c (G0 bB) (fr:=qM 0 args) (@KF.mk (pE []) _ _ _ ?_ rfl λt v hl=>?_) (λe aP mY a' w' hk _ hq=>?_) h))
  ·simp;omega
  ·obtain⟨_,h2⟩:=GZ hl
   have h3:args[t]? = some v:=by simpa using h2
   have h4:t<args.length:=(List.getElem?_eq_some_iff.1 h3).1
   show Array.getD _ t undef=v
   rw[Array.getD_eq_getD_getElem?,Array.getElem?_append_left (by simpa using h4)]
   simp[h3]
  ·have out:VG P fn R .ret aP mY w'->LeavesInM Fence.wide 2 P fn a'.tmps (λe w'=>∃v,e=.returned v/\R v w') a'.defers .returning w':=λhq=>by
    have hd:=@KF.defers (pE mY) _ _ _ hk
    rw[hd]
    revert hk hq
    match mY with
    |[]=>
     intro hk hq
     obtain⟨v,h1,h2⟩:=@BF P fn.ntmps (pE []) fn aP a' hk w' R hq
     exact⟨v,h1,v,rfl,h2⟩
    |[D]=>
     rintro hk ⟨hD,hq⟩
     obtain⟨v,h1,h2⟩:=@BF P fn.ntmps (pE [D]) fn aP a' hk _ R hq
     exact⟨by simp,.inl ⟨D,_,rfl,run_takeDeferred hD,v,h1,v,rfl,h2⟩⟩
    |_::_::_=>
     intro hk hq
     exact hq.elim
   cases e with
   |normal=>exact out hq
   |ret=>exact out hq
   |_=>exact hq.elim
 ·exact h.elim
#print axioms Un
def U3(P:Program)(l:Nat)(vs:List Value)(w:World)(K:Value->World->Prop):Prop:=YieldAt Fence.wide 0 P l ⟨vs⟩ w λe w'=>∃v,e=.returned v/\K v w'
def Il:List Oper->Option (List Oper × Oper × List Oper)
 |[]=>none
 |o::r=>match o.op with
  |.call { callee:=.value (.tmp _),.. }=>some ([],o,r)
  |_=>match Il r with|some (a,x,b)=>some (o::a,x,b)|none=>none
def HA(P:Program)(o:Oper)(fr:Fr)(w:World)(K:Value->World->Prop):Prop:=
 match o.op,o.guard with
 |.call { callee:=.value g,args,.. },none=>(match (⟨fr,[],[]⟩:St).val [] g,jR ((⟨fr,[],[]⟩:St).val []) args.toList with
  |some (.func (.yield l) first cap),some vs=>U3 P l (first.toList++vs) w λv w'=>yl P o.dst o.type v λv'=>K v' w'
  |_,_=>False)
 |_,_=>False
def Nb(P:Program)(m:Mode)(ops:Array Oper)(draw:Bool)(fr:Fr)(w:World)(K:Fr->World->Prop):Prop:=
 match Il ops.toList with
 |none=>wL P m ops draw fr w K
 |some (a,o,b)=>cond draw False (rR P m ops a ⟨fr,[],[]⟩ w λfC w1=>HA P o fC w1 λv w2=>rR P m ops b ((⟨fC,[],[]⟩:St).put o.dst (some v)) w2 K)
def mw(P:Program)(m:Mode)(J L:mj):Code->Fr->World->kV->Prop
 |.skip,fr,w,Q=>Q .normal fr w
 |.region _ ops draw,fr,w,Q=>Nb P m ops draw fr w λaP w'=>Q .normal aP w'
 |.seq a b,fr,w,Q=>(match uy (keyOf b) J with
  |none=>mw P m J L a fr w (uz (λaP w'=>mw P m J L b aP w' Q) Q)
  |some ls=>cond (ym ls (writes a)) (∀K:Fr->World->Prop,(Ah ls λaP=>∀w',mw P m J L b (aP++strip (writes a) fr) w' Q->K aP w')->mw P m J L a fr w (uz (λaP w'=>K (carry aP ls) w') Q)) False)
 |.cond c a b,fr,w,Q=>(match (⟨fr,[],[]⟩:St).val [] c with
  |some (.bool t)=>dc t (mw P m J L a fr w Q) (mw P m J L b fr w Q)
  |_=>False)
 |.block id a,fr,w,Q=>mw P m J L a fr w (zO id Q)
 |.loop a,fr,w,Q=>(match uy (keyOf a) L with
  |none=>False
  |some ls=>cond (ym ls (writes a)) (∀X:Fr->World->Prop,(Ah ls λaP=>∀w',mw P m J L a (aP++strip (writes a) fr) w' (uz (λMM bS=>X (carry MM ls) bS) Q)->X aP w')->X (carry fr ls) w) False)
 |.exit id,fr,w,Q=>Q (.exit id) fr w
 |.ret,fr,w,Q=>Q .ret fr w
 |.label _,fr,w,Q=>Q .normal fr w
 |_,_,_,_=>False
@[irreducible] def Nc(P:Program)(m:Mode)(J L:mj)(fn:Func)(args:List Value)(w:World)(R:Value->World->Prop):Prop:=
 match fn.body with
 |some c=>cond (Cy fn.ntmps (writes c)) (mw P m J L c (qM 0 args) w (Ex P fn R)) False
 |none=>False
def N7(P:Program)(f:FuncId)(args:List Value)(w:World)(R:Value->World->Prop):Prop:=CallsIn Fence.wide 1 P f ⟨args⟩ w λe w'=>∃v,e=.returned v/\R v w'
variable{P:Program}{n:Nat}{ws:List Nat}{f0:Fr}{ops:Array Oper}{m:Mode}{J L:mj}
theorem SA:∀ {l a b:List Oper} {o:Oper},Il l=some (a,o,b)->l=a++o::b
 |[],_,_,_,h=>by cases h
 |x::r,a,b,o,h=>by
  simp only[Il]at h
  split at h
  ·simp only[Option.some.injEq,Prod.mk.injEq]at h
   obtain⟨rfl,rfl,rfl⟩:=h
   rfl
  ·split at h
   ·rename_i a' x' b' h'
    simp only[Option.some.injEq,Prod.mk.injEq]at h
    obtain⟨rfl,rfl,rfl⟩:=h
    rw[SA h'];rfl
   ·cases h
theorem acH{o:Oper}{i:Nat}{a:Act}{w:World}{next next' Q1:Act->World->Prop}{Q:Exit->Act->World->Prop}(h:o.wp P a w next (Q0 Q1))(hn:∀a w,next a w->next' a w):o.wpIn Fence.wide i P a w next' Q:=by
 refine⟨λf _=>trivial,?_⟩
 show o.uponIn Fence.wide i P a next' Q ((execOp a.eval o).run P w)
 unfold Oper.wp at h
 revert h
 generalize (execOp a.eval o).run P w=r
 intro h
 match r,h with
 |.ok (.value v) w',h=>exact hn _ _ h
 |.ok .skip w',h=>exact hn _ _ h
 |.ok (.defer d) w',h=>exact hn _ _ h
 |.ok (.enter f args) w',h=>
  refine⟨λh=>absurd h (by simp[Fence.wide]),(callsIn_wide.2 h).mono λe w2 hr=>?_⟩
  cases e with
  |returned v=>exact hn _ _ hr
  |panicked ch=>exact hr.elim
  |outgrown=>obtain⟨_,_,hr⟩:=hr;exact hr.elim
 |.ok (.row row args) w',h=>exact⟨λh=>absurd h (by simp[Fence.wide]),λc cs _=>let ⟨v,w2,hr,hs⟩:=h c cs;⟨v,w2,hn _ _ hr,stepsIn_wide.2 hs⟩⟩
 |.halt (.panic v) w',h=>exact h.elim
theorem G1{i:Nat}{Q1:Act->World->Prop}{Q:Exit->Act->World->Prop}{l2:List Oper}:∀(l1:List Oper) (a:Act) (w:World),wpList P ops (Q0 Q1) l1 a w->(∀a w,Q1 a w->wpListIn Fence.wide i P ops Q l2 a w)->wpListIn Fence.wide i P ops Q (l1++l2) a w
 |[],a,w,h,hQ=>hQ a w h
 |o::r,a,w,h,hQ=>by
  unfold wpList at h
  show wpListIn Fence.wide i P ops Q (o::(r++l2)) a w
  unfold wpListIn
  split
  ·rename_i hw
   rw[if_pos hw]at h
   rcases h with h|h
   ·exact acH h λa w h=>G1 r a w h hQ
   ·obtain⟨_,_,_,hr⟩:=h;exact hr.elim
  ·rename_i hw
   rw[if_neg hw]at h
   exact⟨λf _=>trivial,G1 r _ w h hQ⟩
theorem afx[fX]{o:Oper}{a:Act}{w:World}{K:Value->World->Prop}{next:Act->World->Prop}{Q:Exit->Act->World->Prop}(hk:Kn n ws f0 ⟨fr,[],[]⟩ a)(h:HA P o fr w K)
  (hn:∀v w',K v w'->next (a.put o.dst v) w'):o.guard=none/\o.wpIn Fence.wide 1 P a w next Q:=by
 unfold HA at h
 split at h
 ·rename_i g args yU Bb gF
  split at h
  ·rename_i l first cap vs hg rW
   refine⟨gF,λf _=>trivial,?_⟩
   show o.uponIn Fence.wide 1 P a next Q ((execOp a.eval o).run P w)
   obtain⟨fn,tmps,N8,bd,hy,hr⟩:=h
   have Wc:rT ((⟨fr,[],[]⟩:St).val []) a.eval:=λx v hx=>hk.val (Sat.nil a) hx
   have EI:(execOp a.eval o).run P w=.ok (.round l fn tmps N8 bd) w:=by
    have jH:=uf Wc rW
    obtain⟨dst,op,ty,ps,af,gd⟩:=o
    simp only at Bb
    subst Bb
    simp only[execOp,resolve,jH,Wc _ _ hg,Deferred.ofValue,invoke,Sem.run_bind,Sem.run_pure,Result.andThen_ok]
    refine Eq.trans ?_ hy
    congr 2
    apply Array.ext'
    simp
   rw[EI]
   refine⟨λh=>absurd h (by simp[Fence.wide]),hr.mono λe w' he=>?_⟩
   obtain⟨v,rfl,he⟩:=he
   exact hn _ _ (SW he)
  ·exact h.elim
 ·exact h.elim
theorem aiB[fX](hP:Good P){draw:Bool}{id:Nat}{a:Act}{w:World}{K:Fr->World->Prop}{Q:Exit->Act->World->Prop}(hQ:∀fr a w,Kn n ws f0 ⟨fr,[],[]⟩ a->K fr w->Q .normal a w)
  (hd:∀o∈ops.toList,∀d,o.dst=some d->d<n/\d∈ws) (hk:Kn n ws f0 ⟨fr,[],[]⟩ a) (h:Nb P m ops draw fr w K):(Code.region id ops draw).wpIn Fence.wide 1 P Q a w:=by
 unfold Nb at h
 split at h
 ·exact wpIn_wide.2 (UT hP hQ hd hk h)
 ·rename_i l1 o l2 hs
  have hl:=SA hs
  cases draw with
  |true=>exact h.elim
  |false=>
   refine wpIn_region_list ?_
   have iG:∀x∈l1,∀d,x.dst=some d->d<n/\d∈ws:=λx hx=>hd x (by rw[hl];simp[hx])
   have j5:∀x∈l2,∀d,x.dst=some d->d<n/\d∈ws:=λx hx=>hd x (by rw[hl];simp[hx])
   have N9:∀d,o.dst=some d->d<n/\d∈ws:=hd o (by rw[hl];simp)
   rw[hl]
   refine G1 l1 a w (Eh (Q:=Q0 λa w=>∃fC,Kn n ws f0 ⟨fC,[],[]⟩ a/\HA P o fC w λv w2=>rR P m ops l2 ((⟨fC,[],[]⟩:St).put o.dst (some v)) w2 K) hP hd (λfC a w h1 h2=>⟨fC,h1,h2⟩) _ _ a w iG hk h) ?_
   rintro a1 w1 ⟨fC,mo,hy⟩
   have h3:=afx (next:=wpListIn Fence.wide 1 P ops Q l2) (Q:=Q) mo hy λv w2 h4=>by
    have kF:Kn n ws f0 ((⟨fC,[],[]⟩:St).put o.dst (some v)) (a1.put o.dst v):=mo.put N9 (λx hx=>by cases hx;rfl)
    have:=G1 (i:=1) (Q:=Q) (l2:=[]) l2 _ _ (Eh (Q:=Q0 λa w=>Q .normal a w) hP hd (λfr a w h1 h2=>hQ fr a w h1 h2) _ _ _ w2 j5 kF h4) λa w h=>h
    rwa [List.append_nil]at this
   unfold wpListIn
   rw[if_pos (Ku h3.1)]
   exact h3.2
def Im(i:Nat)(P:Program)(c:Code)(Q:Exit->Act->World->Prop)(a:Act)(w:World):Prop:=
 ∀(b:Frame) (k:List Item) (cs:List Frame),b.roundOf=Fence.wide.round->Fence.wide.fn b.fn->Fence.wide.room (cs.length+1+i)->∃e a' w',Q e a' w'/\ArrivesIn (Machine.fenced P Fence.wide) P (lone (b.atR a (.code c::.inLoop c::k)) cs w) b k cs e a' w'
theorem agt{i:Nat}{c:Code}{Q:Exit->Act->World->Prop}{a:Act}{w:World}(h:c.wpIn Fence.wide i P (Exit.then (Im i P c Q) Q) a w):Im i P c Q a w:=by
 intro b k cs sg hb hr
 obtain⟨e,a₁,w₁,hq,iV⟩:=h b (.inLoop c::k) cs sg hb hr
 cases e with
 |normal=>
  obtain⟨e₂,a₂,w₂,EA,DZ⟩:=hq b k cs sg hb hr
  exact⟨e₂,a₂,w₂,EA,.of_steps (StepsIn.trans iV (.one (fenced_calm hb hr rfl) stepR_inLoop)) DZ⟩
 |exit id=>exact⟨_,a₁,w₁,hq,.pass (x:=.inLoop c) rfl (λ_ _=>.inl (by simp)) iV⟩
 |goto l=>exact⟨_,a₁,w₁,hq,.pass (x:=.inLoop c) rfl (λ_ _=>.inl (by simp)) iV⟩
 |ret=>exact⟨_,a₁,w₁,hq,.pass (x:=.inLoop c) rfl (λ_ _=>.inl (by simp)) iV⟩
 |panic ch=>exact⟨_,a₁,w₁,hq,.pass (x:=.inLoop c) rfl (λ_ _=>.inl (by simp)) iV⟩
 |outgrown=>exact⟨_,a₁,w₁,hq,.pass (x:=.inLoop c) rfl (λ_ _=>.inl (by simp)) iV⟩
theorem ahz{i:Nat}{c:Code}{Q:Exit->Act->World->Prop}{a:Act}{w:World}(h:Im i P c Q a w):(Code.loop c).wpIn Fence.wide i P Q a w:=by
 intro b k cs sg hb hr
 obtain⟨e,a',w',hq,iV⟩:=h b k cs sg hb hr
 exact⟨e,a',w',hq,.of_steps (.one (fenced_calm hb hr rfl) stepR_loop) iV⟩
theorem v9[fX](hP:Good P):∀(c:Code),(∀d∈writes c,d<n)->∀ {fr:Fr} {a:Act} {w:World} {Q':kV} {Q:Exit->Act->World->Prop},KF n fr a->
  (∀e aP a' w',KF n aP a'->EM (writes c) fr aP->Q' e aP w'->Q e a' w')->mw P m J L c fr w Q'->c.wpIn Fence.wide 1 P Q a w
 |.skip,_,fr,a,w,Q',Q,hk,hq,h=>wpIn_skip (hq _ _ _ _ hk (λ_ _=>rfl) h)
 |.exit id,_,fr,a,w,Q',Q,hk,hq,h=>wpIn_exit (hq _ _ _ _ hk (λ_ _=>rfl) h)
 |.ret,_,fr,a,w,Q',Q,hk,hq,h=>wpIn_ret (hq _ _ _ _ hk (λ_ _=>rfl) h)
 |.region id ops draw,hw,fr,a,w,Q',Q,hk,hq,h=>by
  refine aiB (n:=n) (ws:=qL ops.toList) (f0:=fr) (m:=m) hP (K:=λaP w'=>Q' .normal aP w') (λaP a' w' h1 h2=>hq .normal aP a' w' h1.kf (λt ht=>h1.Ao t ht) h2) (λo ho d hd=>?_) (hk.kn _) h
  have:d∈qL ops.toList:=BS.2 ⟨o,ho,hd⟩
  exact⟨hw d this,this⟩
 |.cond c x y,hw,fr,a,w,Q',Q,hk,hq,h=>by
  simp only[mw]at h
  split at h
  ·rename_i t ht
   have hc:=(hk.kn []).val (Sat.nil a) ht
   have hx:∀d∈writes x,d<n:=λd hd=>hw d (List.mem_append_left _ hd)
   have hy:∀d∈writes y,d<n:=λd hd=>hw d (List.mem_append_right _ hd)
   refine wpIn_cond hc ?_
   cases t with
   |true=>
    exact v9 hP x hx hk (λe aP a' w' h1 h2 h3=>hq e aP a' w' h1 (λt ht=>h2 t (λhm=>ht (List.mem_append_left _ hm))) h3) h
   |false=>
    exact v9 hP y hy hk (λe aP a' w' h1 h2 h3=>hq e aP a' w' h1 (λt ht=>h2 t (λhm=>ht (List.mem_append_right _ hm))) h3) h
  ·exact h.elim
 |.block id c,hw,fr,a,w,Q',Q,hk,hq,h=>by
  refine wpIn_block (v9 hP c hw hk (λe aP a' w' h1 h2 h3=>?_) h)
  cases e with
  |exit i=>
   simp only[zO]at h3
   simp only[Exit.inBlock]
   cases hb:Nat.beq i id with
   |true=>rw[hb]at h3;rw[if_pos (beq_eq.1 hb)];exact hq _ _ _ _ h1 h2 h3
   |false=>rw[hb]at h3;rw[if_neg (fU.1 hb)];exact hq _ _ _ _ h1 h2 h3
  |_=>exact hq _ _ _ _ h1 h2 h3
 |.seq x y,hw,fr,a,w,Q',Q,hk,hq,h=>by
  have hx:∀d∈writes x,d<n:=λd hd=>hw d (List.mem_append_left _ hd)
  have hy:∀d∈writes y,d<n:=λd hd=>hw d (List.mem_append_right _ hd)
  simp only[mw]at h
  refine wpIn_seq ?_
  split at h
  ·refine v9 hP x hx hk (λe aP a' w' h1 h2 h3=>?_) h
   have off:∀e,Q' e aP w'->Q e a' w':=λe h4=>hq e aP a' w' h1 (λt ht=>h2 t (λhm=>ht (List.mem_append_left _ hm))) h4
   cases e with
   |normal=>
    exact v9 hP y hy h1 (λe gq a2 w2 h4 h5 h6=>hq e gq a2 w2 h4 (λt ht=>
     (h5 t (λhm=>ht (List.mem_append_right _ hm))).trans (h2 t (λhm=>ht (List.mem_append_left _ hm)))) h6) h3
   |_=>exact off _ h3
  ·rename_i ls CT
   obtain⟨dw,h⟩:=ie h
   have dw:=xQ dw
   have h':=h (λfC w'=>∀a',KF n (fC++strip (writes x) fr) a'->y.wpIn Fence.wide 1 P Q a' w') (xA λfC hf w' yY a' fM=>
    v9 hP y hy fM (λe gq a2 w2 h4 h5 h6=>hq e gq a2 w2 h4 (λt ht=>
     (h5 t (λhm=>ht (List.mem_append_right _ hm))).trans (zJ hf dw (λhm=>ht (List.mem_append_left _ hm)))) h6) yY)
   refine v9 hP x hx hk (λe aP a' w' h1 h2 h3=>?_) h'
   have off:∀e,Q' e aP w'->Q e a' w':=λe h4=>hq e aP a' w' h1 (λt ht=>h2 t (λhm=>ht (List.mem_append_left _ hm))) h4
   cases e with
   |normal=>exact h3 a' (uj h1 h2)
   |_=>exact off _ h3
 |.loop c,hw,fr,a,w,Q',Q,hk,hq,h=>by
  simp only[mw]at h
  split at h
  ·exact h.elim
  ·rename_i ls CT
   obtain⟨dw,h⟩:=ie h
   have dw:=xQ dw
   have h':=h (λfC w'=>∀a',KF n (fC++strip (writes c) fr) a'->Im 1 P c Q a' w') (xA λfC hf w' wP a' fM=>agt (
    v9 hP c hw fM (λe gq a2 w2 h4 h5 h6=>by
     have same:∀t,t∉writes c->look t gq=look t fr:=λt ht=>(h5 t ht).trans (zJ hf dw ht)
     have off:∀e,Q' e gq w2->Q e a2 w2:=λe h7=>hq e gq a2 w2 h4 same h7
     cases e with
     |normal=>exact h6 a2 (uj h4 same)
     |_=>exact off _ h6) wP))
   exact ahz (h' a (uj hk (λ_ _=>rfl)))
 |.rangeFunc ..,_,_,_,_,_,_,_,_,h=>(by simp only[mw]at h)
 |.scope c,_,_,_,_,_,_,_,_,h=>(by simp only[mw]at h)
 |.label l,hw,fr,a,w,Q',Q,hk,hq,h=>by
  simp only[mw]at h
  exact wpIn_label (hq _ _ _ _ hk (λ_ _=>rfl) h)
 |.goto _,_,_,_,_,_,_,_,_,h=>(by simp only[mw]at h)
 |.refuse _,_,_,_,_,_,_,_,_,h=>(by simp only[mw]at h)
theorem Uo(hP:Good P){f:FuncId}{fn:Func}(hf:P.funcs[f]? = some fn){args:List Value}(EB:Nat.ble args.length fn.ntmps=true){w:World}{R:Value->World->Prop}
  (h:Nc P m J L fn args w R):N7 P f args w R:=by
 have hlen:args.length<=fn.ntmps:=Nat.le_of_ble_eq_true EB
 unfold Nc at h
 split at h
 ·rename_i c hc
  obtain⟨bB,h⟩:=ie h
  refine callsIn_of_wp hf hc trivial (v9 (n:=fn.ntmps) (m:=m) (J:=J) (L:=L) hP c (G0 bB) (fr:=qM 0 args) ⟨?_,rfl,λt v hl=>?_⟩ (λe aP a' w' hk _ hq=>?_) h)
  ·simp;omega
  ·obtain⟨_,h2⟩:=GZ hl
   have h3:args[t]? = some v:=by simpa using h2
   have h4:t<args.length:=(List.getElem?_eq_some_iff.1 h3).1
   show Array.getD _ t undef=v
   rw[Array.getD_eq_getD_getElem?,Array.getElem?_append_left (by simpa using h4)]
   simp[h3]
  ·cases e with
   |normal=>
    obtain⟨v,h1,h2⟩:=BF (fn:=fn) hk hq
    exact⟨hk.defers,v,h1,v,rfl,h2⟩
   |ret=>
    obtain⟨v,h1,h2⟩:=BF (fn:=fn) hk hq
    exact⟨hk.defers,v,h1,v,rfl,h2⟩
   |_=>exact hq.elim
 ·exact h.elim
#print axioms Uo
end Go.Ev
end
section
set_option linter.unusedVariables false
set_option linter.unusedSimpArgs false
namespace Go.Proofs.YtgjoehgomjgckaaGreatDoor
open Go Go.Ev
set_option maxRecDepth 100000
set_option linter.unusedVariables false
variable{w:World}{R:Value->World->Prop}
theorem oY{f:FuncId}{fn:Func}{args:List Value}{w:World}{R:Value->World->Prop}{V:Prop}(m:Go.Ev.Mode)(J L:Go.Ev.mj)(hf:Pr.funcs[f]? = some fn)(hl:Nat.ble args.length fn.ntmps=true)(e:Nc Pr m J L fn args w R=V)(h:V):N7 Pr f args w R:=Uo mN hf hl (e.mpr h)
theorem oX{f:FuncId}{fn:Func}{args:List Value}{w:World}{R:Value->World->Prop}{V:Prop}(m:Go.Ev.Mode)(J L:Go.Ev.mj)(hf:Pr.funcs[f]? = some fn)(hl:Nat.ble args.length fn.ntmps=true)(e:M8 Pr m J L fn args w R=V)(h:V):Ok Pr f args w R:=Un mN hf hl (e.mpr h)
def RP(d many:Int)(b:ag):=
 nw aU [.int .i64 d] w λa c=>
 nw ji (zc Pr ji) c λe f=>
 nw p8 (zc Pr p8) f λg i=>
 nw ji (zc Pr ji) i λj k=>
 au .i64 a (World.drew k) λl=>
 (cv (32*l)/\
 (cv ((32*l)*many)/\
 CP b ((32*l)*many) λm=>
 au .i64 a (World.drew k) λn=>
 (cv (32*n)/\
 ek Pr OS [.slice m.a m.n m.c,.int .i64 (32*n)] (World.drew k) λo p=>
 Ik Pr o p
 (λq s t u=>
 au .i64 a s λv=>
 ek Pr Qc [.int .i64 v,q] s λx y=>
 iU x λz=>
 Ix []
 (λA=>az j A λB=>
 nw jA [.slice z.a z.n z.c] A λC D=>
 jc Pr [ji,ji] ji [.slice B.a B.n B.c,.slice (some C) 1 1] D λE F=>
 st j (.slice E.a E.n E.c) F λG=>
 t G)
 (λI=>
 Cw (λ(J:Bool)=>[(30,some (.bool J))])
 (λJ L=>dc J
 (st e (.slice none 0 0) L λM=>
 st g (.bool false) M λN=>
 u N)
 (I L))
 (λO=>
 au .i64 a y λQ=>
 dc (decide (Q=12))
 (ek Pr RD [.slice z.a z.n z.c] y λS T=>
 wK S λU=>
 O (!U) T)
 (O false y))))
 (λV=>
 az j V λX=>
 st e (.slice X.a X.n X.c) V λY=>
 st g (.bool true) Y λZ=>
 Av (Array.size (World.heap p)) Z λaa=>
 az e aa λba=>
 mV g aa λca=>
 R (.tuple ⟨[.slice ba.a ba.n ba.c,.bool ca]⟩) aa)
 (λda=>
 Av (Array.size (World.heap p)) da λea=>
 az e ea λfa=>
 mV g ea λga=>
 R (.tuple ⟨[.slice fa.a fa.n fa.c,.bool ga]⟩) ea))))
theorem abH{d many b}(h:@RP w R d many b):Ok Pr RC (ajc d many b) w R:=
 oX ⟨true,true⟩ [(7,[]),(6,[(30,.bool)])] [] Tryz.func210 (by kernel_rfl) (by kernel_rfl) h
def OQ(yield:Nat)(free Cr:Addr):=
 Ai (λ(a:Int)=>[(4,some (.int .i64 a))])
 (λb a c=>az free c λd=>
 dc (decide (a<(d.n:Int)))
 (au .i64 Cr (World.drew c) λe=>
 az free (World.drew c) λf=>
 E0 1 f a λg=>
 lt (A:=Int) (min e (g.n:Int)) λi=>
 az free (World.drew c) λj=>
 (cv (a+i)/\
 (cv (a+i)/\
 Mr 1 j a (a+i) (a+i) λk=>
 U3 Pr yield [.slice k.a k.n k.c] (World.drew c) λl m=>
 wK l λn=>
 dc (!n)
 (R (.tuple ⟨[]⟩) m)
 (au .i64 Cr m λo=>
 (cv (a+o)/\
 b (a+o) m)))))
 (R (.tuple ⟨[]⟩) c))
 0 w
theorem XU{yield free Cr}(h:@OQ w R yield free Cr):N7 Pr F4 [.func (.yield yield) ⟨[]⟩ ⟨[]⟩,.pointer (some free),.pointer (some Cr)] w R:=
 oY ⟨true,true⟩ [] [(1,[(4,.int .i64)])] Tryz.func281 (by kernel_rfl) (by kernel_rfl) h
end Go.Proofs.YtgjoehgomjgckaaGreatDoor
end
section
set_option linter.unusedVariables false
set_option linter.unusedSimpArgs false
namespace Go.Proofs.YtgjoehgomjgckaaGreatDoor
open Go Go.Ev
set_option maxRecDepth 20000
set_option linter.unusedVariables false
theorem ZK(x:ag)(k:Nat)(hk:1<=k)(w:World):Ok Pr OS [.slice x.a x.n x.c,.int .i64 (k:Int)] w λv w'=>
  ∃b c,v=.func (.func F4) #[] ⟨[.pointer (some ⟨b,0,none⟩),.pointer (some ⟨c,0,none⟩)]⟩/\ah w [] w' [.aj b [.slice x.a x.n x.c] jh,.aj c [.int .i64 (k:Int)] aU]:=by
 refine aC Tryz.func247 ?_
 refine(ah.start w).nw λp w1 H _=>H.nw λq w2 H _=>H.au 1 rfl rfl rfl (ite_false (decide_eq_false (by omega)) ?_)
 exact⟨p,q,rfl,H⟩
def D6(x:ag)(k i:Nat):ag:=⟨sub x.a (i*k) (i*k+k) 1,k,k⟩
theorem World.afy(w:World)(row:Option Nat):w.grownBy w.drew row:=⟨rfl,rfl,rfl,Nat.le_refl _,λ_ _ _=>rfl⟩
theorem ahA{A:Type}{x:A}{K:A->Prop}(h:K x):lt x K:=h
theorem aek{F:Fence}{m:Nat}{P:Program}{l:Nat}{args:Array Value}{W:World}{R R':Ending->World->Prop}(h:YieldAt F m P l args W R)(hr:∀e w,R e w->R' e w):YieldAt F m P l args W R':=by
 obtain⟨fn,tmps,N8,bd,hy,hR⟩:=h
 exact⟨fn,tmps,N8,bd,hy,hR.mono hr⟩
theorem agu{x:ag}{k N b c:Nat}(hk:1<=k)(hn:x.n=N*k)(hc:x.n<=x.c)(hb:N*k+k<4611686018427387904){w1:World}{t u:TypeId}(h1:bp w1 b [.slice x.a x.n x.c] t)(h2:bp w1 c [.int .i64 (k:Int)] u):
  M7 Pr F4 [.pointer (some ⟨b,0,none⟩),.pointer (some ⟨c,0,none⟩)] (λi:Fin N=>(D6 x k i.val).v) (λW W'=>∀d∈[b,c],W'.heap[d]? = W.heap[d]?) (λ_ _=>False)
   (λxs=>xs.map (·.val)=List.range N) (λpre=>∃j,j<=N/\pre.map (·.val)=List.range j) N w1:=by
 intro l J Jx hJ hJx hY h0
 have dr:∀ {s W},J s W->J s W.drew:=λ{s W} h=>hJ s W _ none h (World.afy W none) λr e=>by cases e
 refine CallsIn.mono (XU (yield:=l) (free:=⟨b,0,none⟩) (Cr:=⟨c,0,none⟩) (R:=λv W'=>(∃xs:List (Fin N),xs.map (·.val)=List.range N/\J xs W')\/(∃pre:List (Fin N),(∃j,j<=N/\pre.map (·.val)=List.range j)/\Jx pre W')) ?_) λe w' ⟨v,he,h⟩=>⟨⟨v,he⟩,h⟩
 unfold OQ
 refine qA (λi W=>∃(j:Nat) (pre:List (Fin N)),j<=N/\i=((j*k:Nat):Int)/\pre.map (·.val)=List.range j/\J pre W/\bp W b [.slice x.a x.n x.c] t/\bp W c [.int .i64 (k:Int)] u) (λi _=>N*k - i.toNat) ⟨0,[],by omega,by simp,rfl,h0,h1,h2⟩ ?_
 rintro again i W ⟨j,pre,hj,rfl,kC,W6,hB,hC⟩ aB
 refine hB.az (i:=0) rfl rfl (aZ (λbB=>?_) (λtA=>?_))
 ·have bB:j*k<N*k:=by rw[<- hn];exact_mod_cast of_decide_eq_true bB
  have FF:j<N:=Nat.lt_of_mul_lt_mul_right bB
  have je:j*k+k<=N*k:=by have:=Nat.mul_le_mul_right k FF;rw[Nat.succ_mul]at this;exact this
  have W7:bp W.drew b [.slice x.a x.n x.c] t:=hB
  have hC':bp W.drew c [.int .i64 (k:Int)] u:=hC
  refine hC'.au (i:=0) rfl rfl (W7.az (i:=0) rfl rfl ⟨⟨by omega,by omega⟩,?_⟩)
  have e0:min (k:Int) ((x.n - ((j*k:Nat):Int).toNat:Nat):Int)=(k:Int):=by
   have:(((j*k:Nat):Int).toNat)=j*k:=rfl
   omega
  refine ahA ?_
  rw[e0]
  refine W7.az (i:=0) rfl rfl ⟨⟨by omega,by omega⟩,⟨by omega,by omega⟩,⟨by omega,by omega,by omega,by omega⟩,?_⟩
  have e1:(((j*k:Nat):Int)).toNat=j*k:=rfl
  have e2:(((j*k:Nat):Int)+(k:Int)).toNat=j*k+k:=by omega
  rw[e1,e2]
  have hlen:pre.length=j:=by have:=congrArg List.length kC;simpa using this
  have bZ:(⟨sub x.a (j*k) (j*k+k) 1,j*k+k - j*k,j*k+k - j*k⟩:ag)=D6 x k j:=by unfold D6;rw[Nat.add_sub_cancel_left]
  rw[bZ]
  have hy:=hY pre ⟨j,FF⟩ W.drew (dr W6) (by omega)
  refine aek hy ?_
  rintro e W2 (⟨rfl,hJ2,Fo⟩|⟨rfl,akZ⟩)
  ·refine⟨_,rfl,true,rfl,ite_false rfl ?_⟩
   have Jh:bp W2 b [.slice x.a x.n x.c] t:=(Fo b (by simp)).trans hB
   have Ji:bp W2 c [.int .i64 (k:Int)] u:=(Fo c (by simp)).trans hC
   refine Ji.au (i:=0) rfl rfl ⟨⟨by omega,by omega⟩,aB _ _ ⟨j+1,pre++[⟨j,FF⟩],FF,?_,?_,hJ2,Jh,Ji⟩ ?_⟩
   ·rw[Nat.succ_mul];omega
   ·rw[List.map_append,kC,List.range_succ];rfl
   ·omega
  ·exact⟨_,rfl,false,rfl,ite_true rfl (.inr ⟨_,⟨j+1,FF,by rw[List.map_append,kC,List.range_succ];rfl⟩,akZ⟩)⟩
 ·have tA:N*k<=j*k:=by have:=of_decide_eq_false tA;rw[hn]at this;omega
  have:j=N:=Nat.le_antisymm hj (Nat.le_of_mul_le_mul_right tA hk)
  subst this
  exact .inl ⟨pre,kC,W6⟩
theorem ael{w:World}{x:ag}{l:List B8}{k i:Nat}(h:Bytes w x l)(hk:1<=k)(hi:i*k+k<=x.n):Bytes w (D6 x k i) ((l.drop (i*k)).take k):=by
 have hc:=h.cap
 have hp:=Sl.part h (by omega:0<1) (i*k) (i*k+k) (by omega) hi
 have e:sub x.a (i*k) x.c 1=sub x.a (i*k) (i*k+k) 1:=by
  unfold sub
  rw[if_neg (by omega),if_neg (by omega)]
 rw[e,Nat.add_sub_cancel_left,Nat.mul_one,Nat.mul_one,Li,BV]at hp
 refine⟨?_,Nat.le_refl k,hp.pre,hp.cell⟩
 exact hp.len
end Go.Proofs.YtgjoehgomjgckaaGreatDoor
end
section
set_option linter.unusedVariables false
set_option linter.unusedSimpArgs false
namespace Go.Ev
open Go Go.RowKit
set_option linter.unusedVariables false
def RL(D:Nat)(o:Option Obj)(M N:List aA):List aA:=
 M++(.box [D] (λV=>V.heap[D]? = some (.deferred (some [])))::.box [D+1] (λV=>V.heap[D+1]? = o)::N)
theorem Nd(D:Nat)(o:Option Obj)(M N:List aA):(RL D o M N)[M.length]? = some (.box [D] (λV=>V.heap[D]? = some (.deferred (some [])))):=by
 unfold RL;rw[List.getElem?_append_right (Nat.le_refl _),Nat.sub_self];rfl
theorem EU(D:Nat)(o:Option Obj)(M N:List aA):(RL D o M N)[M.length+1]? = some (.box [D+1] (λV=>V.heap[D+1]? = o)):=by
 unfold RL;rw[List.getElem?_append_right (by omega),Nat.add_sub_cancel_left];rfl
theorem ajp(D:Nat)(o o':Option Obj)(M N:List aA):(RL D o M N).set (M.length+1) (.box [D+1] (λV=>V.heap[D+1]? = o'))=RL D o' M N:=by
 unfold RL;rw[List.set_append_right _ _ (by omega),Nat.add_sub_cancel_left];rfl
theorem ajq(D:Nat)(o:Option Obj)(M N N2:List aA):RL D o M N++N2=RL D o M (N++N2):=by unfold RL;simp
theorem U4{D:Nat}{w:World}{o:Obj}(h:w.heap[D]? = some o):(aA.box [D] (λV=>V.heap[D]? = some o)).ok w:=
 ⟨λb hb=>by simp only[List.mem_singleton]at hb;subst hb;exact(Array.getElem?_eq_some_iff.1 h).1,λw' hw=>(hw D (by simp)).trans h⟩
theorem ah.Av{w0 w:World}{S:List Nat}{L:List aA}{D:Nat}(H:ah w0 S w L)(k:Nat)(hk:L[k]? = some (.box [D] (λV=>V.heap[D]? = some (.deferred (some []))))){K:World->Prop}
  (h:∀w',Mod [D] w w'->ah w0 S w' (L.set k .no)->K w'):Av D w K:=by
 have hD:=H.box k hk
 refine⟨hD,h _ ?_ (H.iq k hk (T:=[D]) ?_ (λb hb=>.inl hb) trivial (λb hb=>by cases hb))⟩
 ·exact Mod.grown (La w D _)
 ·exact Mod.grown (La w D _)
theorem ahB{P:Program}{g:Value}{w w0:World}{S:List Nat}{L:List aA}{gf:FuncId}{lb:List Value}{A:Type}{enc:A->Value}{S' Sp:List A->Prop}{N:Nat}{round:Value->World->(World->Prop)->(World->Prop)->Prop}{done stop:World->Prop}
  (hg:g=.func (.func gf) #[] ⟨lb⟩) (hb:jB P gf=true) (Nf:List Nat) (akk:∀b∈Nf,b<w.heap.size)
  (Na:∀w1,Mod [] w w1->M7 P gf lb enc (λW W'=>∀b∈Nf,W'.heap[b]? = W.heap[b]?) (λ_ _=>False) S' Sp N w1)
  (H:ah w0 S w L) (LI LR:List A->List aA->List aA->Prop) (h0:∀W o,ah w0 S W (RL w.heap.size o L [])->∃M N',LI [] M N'/\ah w0 S W (RL w.heap.size o M N'))
  (Mc:∀pre x W o M N' K Kr,LI pre M N'->pre.length<N->ah w0 S W (RL w.heap.size o M N')->
   (∀W' M' N2,(∀b∈Nf,W'.heap[b]? = W.heap[b]?)->LI (pre++[x]) M' N2->ah w0 S W' (RL w.heap.size o M' N2)->K W')->
   (∀W' M' N2,LR (pre++[x]) M' N2->ah w0 S W' (RL w.heap.size o M' N2)->Kr W')->round (enc x) W K Kr)
  (MB:∀xs W o M N',S' xs->LI xs M N'->ah w0 S W (RL w.heap.size o M N')->done W)
  (MC:∀pre W o M N',Sp pre->LR pre M N'->ah w0 S W (RL w.heap.size o M N')->stop W):Ik P g w round done stop:=by
 refine⟨gf,lb,hg,hb,λw1 rec nV=>?_⟩
 have C5:Mod [] w w1:=by rw[nV];exact(Mod.alloc [] w _).trans (Mod.alloc [] _ _)
 have W0:w1.heap[w.heap.size]? = some (.deferred (some [])):=by
  rw[nV];exact(Below.heap_alloc _ _ _ (by simp)).trans (World.alloc_heap_new w _)
 have Oa:w1.heap[w.heap.size+1]? = some rec:=by
  rw[nV];have:=World.alloc_heap_new (w.alloc (.deferred (some []))) rec;rwa [World.size_alloc]at this
 have H1:ah w0 S w1 (RL w.heap.size (some rec) L []):=by
  have ha:=H.push (r:=.box [w.heap.size] (λV=>V.heap[w.heap.size]? = some (.deferred (some [])))) (Mod.alloc [] w (.deferred (some []))) (U4 (World.alloc_heap_new w _)) (λb hb=>by simp only[aA.box,List.mem_singleton]at hb;omega)
  have hb:=ha.push (r:=.box [w.heap.size+1] (λV=>V.heap[w.heap.size+1]? = some rec)) (Mod.alloc [] _ rec) (by rw[<- nV];exact U4 Oa) (λb hb=>by simp only[aA.box,List.mem_singleton]at hb;rw[World.size_alloc];omega)
  rw[<- nV,List.append_assoc]at hb
  exact hb
 have gV:∀ {LI:List A->List aA->List aA->Prop} pre W W' row,(∃o M N',LI pre M N'/\ah w0 S W (RL w.heap.size o M N'))->W.grownBy W' row->(∀r,row=some r->r=w.heap.size+1\/False)->∃o M N',LI pre M N'/\ah w0 S W' (RL w.heap.size o M N'):=by
  rintro LI pre W W' row ⟨o,M,N',hL,HM⟩ rU hr
  have bB:w.heap.size+1<W'.heap.size:=Nat.lt_of_lt_of_le ((aA.box [w.heap.size+1] _).lt W (HM.get (M.length+1) (EU _ _ _ _)) _ (by simp[aA.box])) rU.size
  refine⟨W'.heap[w.heap.size+1]?,M,N',hL,?_⟩
  have:=HM.iq (M.length+1) (EU _ _ _ _) (T:=row.toList) (r':=.box [w.heap.size+1] (λV=>V.heap[w.heap.size+1]? = W'.heap[w.heap.size+1]?)) (Mod.grown rU) (λb hb=>?_) ?_ (λb hb=>.inl hb)
  ·rwa [ajp]at this
  ·cases row with
   |none=>cases hb
   |some r=>
    simp only[Option.toList_some,List.mem_singleton]at hb
    subst hb
    rcases hr _ rfl with h|h
    ·exact .inl (by simp[aA.box,h])
    ·exact h.elim
  ·exact⟨λb hb=>by simp only[List.mem_singleton]at hb;subst hb;exact bB,λw' hw=>hw _ (by simp)⟩
 refine⟨A,enc,_,_,S',Sp,N,λpre W=>∃o M N',LI pre M N'/\ah w0 S W (RL w.heap.size o M N'),λpre W=>∃o M N',LR pre M N'/\ah w0 S W (RL w.heap.size o M N'),Na w1 C5,(let ⟨M,N',h1,h2⟩:=h0 w1 _ H1;⟨_,M,N',h1,h2⟩),λW r h=>h.elim,?_,λpre W W' row=>gV pre W W' row,λpre W W' row=>gV pre W W' row,?_,?_,?_⟩
 ·intro W W' o o' h b hb
  have h1:=akk b hb
  rw[World.putObj_heap_other (by omega)]
  have h2:=h b hb
  rwa [World.putObj_heap_other (by omega)]at h2
 ·rintro pre x W ⟨o,M,N',hL,HM⟩ hlen
  have ho:W.heap[w.heap.size+1]? = o:=HM.box _ (EU _ _ _ _)
  have hD:W.heap[w.heap.size]? = some (.deferred (some [])):=HM.box _ (Nd _ _ _ _)
  refine Mc pre x W o M N' _ _ hL hlen HM (λW' M' N2 h1 h2 h3=>?_) (λW' M' N2 h2 h3=>?_)
  ·exact⟨(h3.box _ (Nd _ _ _ _)).trans hD.symm,(h3.box _ (EU _ _ _ _)).trans ho.symm,h1,o,M',N2,h2,h3⟩
  ·exact⟨(h3.box _ (Nd _ _ _ _)).trans hD.symm,(h3.box _ (EU _ _ _ _)).trans ho.symm,o,M',N2,h2,h3⟩
 ·rintro xs W hS ⟨o,M,N',hL,HM⟩ hD
  exact MB xs W o M N' hS hL HM
 ·rintro xs W hS ⟨o,M,N',hL,HM⟩ hD
  exact MC xs W o M N' hS hL HM
end Go.Ev
end
section
set_option linter.unusedVariables false
set_option linter.unusedSimpArgs false
namespace Go.Proofs.YtgjoehgomjgckaaGreatDoor
open Go Go.Ev
set_option maxRecDepth 20000
set_option linter.unusedVariables false
theorem _root_.Go.Ev.Bytes.Ng{w:World}{s:ag}{l:List B8}(h:Bytes w s l)(k:Nat)(hk:k<=l.length):Bytes w ⟨s.a,k,s.c⟩ (l.take k):=by
 have hn:=h.len
 have hc:=h.cap
 refine⟨by rw[zF,List.length_take];show min k l.length=k*1;omega,by show k<=s.c;omega,λh0=>h.pre (by have:0<k:=h0;omega),λi v hv=>?_⟩
 rw[<- BV,List.getElem?_take]at hv
 split at hv
 ·exact h.cell i v hv
 ·cases hv
theorem _root_.Go.Ev.Bytes.cut{w:World}{s:ag}{l:List B8}(h:Bytes w s l)(a b:Nat)(FB:a<=b)(hb:b<=l.length):Bytes w ⟨sub s.a a s.c 1,b - a,s.c - a⟩ ((l.drop a).take (b - a)):=by
 have hn:=h.len
 have:=Sl.part h (by omega) a b FB (by omega)
 rw[Nat.mul_one,Nat.mul_one,Li,BV]at this
 exact this
theorem _root_.Go.Ev.Bytes.ak0{w:World}{s:ag}{l:List B8}(h:Bytes w s l)(a:Nat)(ha:a<=l.length):Bytes w ⟨sub s.a a s.c 1,s.n - a,s.c - a⟩ (l.drop a):=by
 have hn:=h.len
 have:=h.cut a s.n (by omega) (by omega)
 rw[List.take_of_length_le (by rw[List.length_drop];omega)]at this
 exact this
theorem uq{s:ag}{y:Int}{K:ag->Prop}(k:Nat)(hy:y=(k:Int))(hk:k<=s.c)(h:∀z:ag,z.n=k->(∀w l,Bytes w s l->k<=l.length->Bytes w z (l.take k))->K z):CP s y K:=by
 subst hy
 exact⟨⟨by omega,by omega⟩,h ⟨s.a,k,s.c⟩ rfl λw l hl hk=>hl.Ng k hk⟩
theorem oz{s:ag}{x:Int}{K:ag->Prop}(a:Nat)(hx:x=(a:Int))(ha:a<=s.n)(h:∀z:ag,z.n=s.n - a->(∀w l,Bytes w s l->a<=l.length->Bytes w z (l.drop a))->K z):E0 1 s x K:=by
 subst hx
 exact⟨⟨by omega,by omega⟩,h ⟨sub s.a a s.c 1,s.n - a,s.c - a⟩ rfl λw l hl ha=>hl.ak0 a ha⟩
theorem xU{s:ag}{x y:Int}{K:ag->Prop}(a b:Nat)(hx:x=(a:Int))(hy:y=(b:Int))(FB:a<=b)(hb:b<=s.c)(h:∀z:ag,z.n=b - a->(∀w l,Bytes w s l->b<=l.length->Bytes w z ((l.drop a).take (b - a)))->K z):EG 1 s x y K:=by
 subst hx hy
 exact⟨⟨by omega,by omega,by omega⟩,h ⟨sub s.a a s.c 1,b - a,s.c - a⟩ rfl λw l hl hb=>hl.cut a b FB hb⟩
end Go.Proofs.YtgjoehgomjgckaaGreatDoor
end
section
set_option linter.unusedVariables false
set_option linter.unusedSimpArgs false
namespace Go.Ev
open Go Go.RowKit
set_option linter.unusedVariables false
theorem ah.drop{w0 w:World}{S:List Nat}{L:List aA}(H:ah w0 S w L)(n:Nat):ah w0 S w (L.drop n):=by
 have e:∀ {k:Nat} {s:aA},(L.drop n)[k]? = some s->L[n+k]? = some s:=λ{k s} h=>by rwa [List.getElem?_drop]at h
 exact⟨H.mod,λk s hs=>H.ok _ s (e hs),λk s hs=>H.own _ s (e hs),λj k s t je hs ht=>H.apart (n+j) (n+k) s t (by omega) (e hs) (e ht)⟩
end Go.Ev
namespace Go.Proofs.YtgjoehgomjgckaaGreatDoor
open Go Go.Ev
set_option maxRecDepth 20000
set_option linter.unusedVariables false
theorem Bz(c:Int)(hc:c≠0)(w:World):Ok Pr Kx [.int .i64 c] w λv w'=>cA w w' v c/\Mod [] w w':=by
 refine aC Tryz.func209 ?_
 exact qE λb w' hb h1 h2 _=>⟨cA.mk h1 (by omega) hc,h2⟩
structure gJ where
 k:Nat
 e1:Nat
 e2:Nat
 du:Nat
 dv:Nat
def gJ.cells(s:gJ):List Value:=DH s.k s.e1 s.e2 s.du s.dv
def bJ(set:Int):gJ:=if set=1 then ⟨2,3,2,10,4⟩ else if set=2 then ⟨3,2,2,10,4⟩ else if set=3 then ⟨4,2,2,11,5⟩ else ⟨0,0,0,0,0⟩
structure Al(s:gJ):Prop where
 k:2<=s.k/\s.k<=4
 e1:s.e1=2\/s.e1=3
 e2:s.e2=2
 du:s.du=10\/s.du=11
 dv:s.dv=4\/s.dv=5
theorem iA{set:Int}(h:isSet set=true):Al (bJ set):=by
 unfold isSet at h
 simp only[Bool.or_eq_true,decide_eq_true_eq]at h
 rcases h with rfl|rfl|rfl
 ·exact⟨⟨by decide,by decide⟩,.inr rfl,rfl,.inl rfl,.inl rfl⟩
 ·exact⟨⟨by decide,by decide⟩,.inl rfl,rfl,.inl rfl,.inl rfl⟩
 ·exact⟨⟨by decide,by decide⟩,.inl rfl,rfl,.inr rfl,.inr rfl⟩
theorem Jj{set:Int}(h:isSet set=false):bJ set=⟨0,0,0,0,0⟩:=by
 unfold isSet at h
 simp only[Bool.or_eq_false_iff,decide_eq_false_iff_not]at h
 unfold bJ
 rw[if_neg h.1,if_neg h.2.1,if_neg h.2.2]
theorem xY:zc Pr uc=[.int .i64 0,.int .i64 0,.int .i64 0,.int .i64 0,.int .i64 0]:=by kernel_rfl
theorem zL(set:Int)(w:World):Ok Pr ahe [.int .i64 set] w λv w'=>v=.tuple ⟨[.agg ⟨(bJ set).cells⟩,.bool (isSet set)]⟩/\Mod [] w w':=by
 refine aC Tryz.func204 ?_
 rw[xY]
 refine(ah.start w).nw λp w1 H _=>?_
 unfold isSet bJ
 refine aZ (λh=>?_) (λh=>?_)
 ·have h:=of_decide_eq_true h
  subst h
  exact H.pU 0 rfl rfl λw2 H=>H.ua 0 rfl ⟨rfl,H.mod⟩
 ·have h1:=of_decide_eq_false h
  rw[if_neg h1,decide_eq_false h1]
  refine aZ (λh=>?_) (λh=>?_)
  ·have h:=of_decide_eq_true h
   subst h
   exact H.pU 0 rfl rfl λw2 H=>H.ua 0 rfl ⟨rfl,H.mod⟩
  ·have h2:=of_decide_eq_false h
   rw[if_neg h2,decide_eq_false h2]
   refine aZ (λh=>?_) (λh=>?_)
   ·have h:=of_decide_eq_true h
    subst h
    exact H.pU 0 rfl rfl λw2 H=>H.ua 0 rfl ⟨rfl,H.mod⟩
   ·have h3:=of_decide_eq_false h
    rw[if_neg h3,decide_eq_false h3]
    exact H.pU 0 rfl rfl λw2 H=>H.ua 0 rfl ⟨rfl,H.mod⟩
theorem zW{s:gJ}{K:Int->Int->Int->Int->Int->Prop}(h:K s.k s.e1 s.e2 s.du s.dv):KM (.agg ⟨s.cells⟩) K:=abA (c0:=s.k) (c1:=s.e1) (c2:=s.e2) (c3:=s.du) (c4:=s.dv) h
def dY(set:Int):Nat:=if isSet set=true then 384*(bJ set).k+32 else 0
def fm(set:Int):Nat:=384*(bJ set).k
def jg(set:Int):Nat:=32*((bJ set).du*(bJ set).k+(bJ set).dv)
theorem Gl(set:Int)(w:World):Ok Pr adA [.int .i64 set] w λv w'=>v=.tuple ⟨[.int .i64 (dY set:Int),.int .i64 (fm set:Int),.int .i64 (jg set:Int)]⟩/\Mod [] w w':=by
 refine aC Tryz.func207 ?_
 rw[xY]
 refine an (zL set w) ?_
 rintro _ w1 ⟨rfl,m1⟩
 have H:=(ah.start w).frame m1
 refine⟨_,rfl,zW ⟨_,rfl,rfl,H.nw λp w2 H _=>H.pU 0 rfl rfl λw3 H=>?_⟩⟩
 unfold dY fm jg
 cases bk:isSet set with
 |false=>rw[Jj bk];exact ite_true rfl ⟨rfl,H.mod⟩
 |true=>
  have hg:=iA bk
  generalize bJ set=s at*
  have H:ah w [] w3 [.aj p s.cells uc]:=H
  have H:=H.drew
  have hk:=hg.k
  have hd:s.du*s.k<=11*4:=Nat.mul_le_mul (by have:=hg.du;omega) hk.2
  have hv:=hg.dv
  have e:(s.du:Int)*(s.k:Int)=((s.du*s.k:Nat):Int):=by rw[Int.natCast_mul]
  refine ite_false rfl (H.au 0 rfl (ai p 0) rfl ⟨⟨by omega,by omega⟩,⟨by omega,by omega⟩,H.au 0 rfl (ai p 0) rfl ⟨⟨by omega,by omega⟩,H.au 0 rfl (ai p 3) rfl (H.au 0 rfl (ai p 0) rfl ?_)⟩⟩)
  rw[e]
  generalize s.du*s.k=D at*
  refine⟨⟨by omega,by omega⟩,H.au 0 rfl (ai p 4) rfl ⟨⟨by omega,by omega⟩,⟨by omega,by omega⟩,?_,H.mod⟩⟩
  rw[if_pos rfl,show(384*(s.k:Int)+32)=((384*s.k+32:Nat):Int) by omega,show 384*(s.k:Int)=((384*s.k:Nat):Int) by omega,show 32*((D:Int)+(s.dv:Int))=((32*(D+s.dv):Nat):Int) by omega]
def mM(xs:List ag)(ls:List (List Int)):List aA:=List.zipWith (λx l=>aA.row aU 1 x (bf l)) xs ls
theorem Lb{xs:List ag}{ls:List (List Int)}{i:Nat}{x:ag}{l:List Int}(h1:xs[i]? = some x)(h2:ls[i]? = some l):(mM xs ls)[i]? = some (.row aU 1 x (bf l)):=by
 unfold mM;rw[List.getElem?_zipWith,h1,h2]
theorem agv{xs:List ag}{ls:List (List Int)}{i:Nat}{x:ag}{l:List Int}(h1:xs[i]? = some x):(mM xs ls).set i (.row aU 1 x (bf l))=mM xs (ls.set i l):=by
 unfold mM
 refine List.ext_getElem? λj=>?_
 rw[List.getElem?_set,List.getElem?_zipWith,List.getElem?_zipWith,List.getElem?_set]
 by_cases h:i=j
 ·subst h
  rw[if_pos rfl,if_pos rfl,h1,List.length_zipWith]
  have hx:=(List.getElem?_eq_some_iff.1 h1).1
  by_cases hl:i<ls.length
  ·rw[if_pos (by omega),if_pos hl]
  ·rw[if_neg (by omega),if_neg hl]
 ·rw[if_neg h,if_neg h]
theorem afz{xs:List ag}{ls:List (List Int)}(h:xs.length=ls.length)(x:ag)(l:List Int):mM (xs++[x]) (ls++[l])=mM xs ls++[.row aU 1 x (bf l)]:=by
 unfold mM;rw[List.zipWith_append h];rfl
def IB(w w':World)(out:ag)(ls:List (List Int)):Prop:=∃xs:List ag,xs.length=ls.length/\ah w [] w' (.row jA 1 out (xs.map ag.v)::mM xs ls)
theorem IB.box{w w':World}{out:ag}{ls:List (List Int)}(h:IB w w' out ls):dU w w' λw=>dj w out ls:=by
 obtain⟨xs,hl,H⟩:=h
 refine H.boxed λw' h=>⟨xs,Own.sl (h 0 _ rfl),hl,λi x l hx hl=>Own.bq (h (i+1) _ (Lb hx hl))⟩
def fh(d:Nat)(b:List B8)(i:Nat):List Int:=unpack d ((b.drop (32*d*i)).take (32*d))
def dh(d many:Nat)(b:List B8):List (List Int):=(List.range many).map (fh d b)
def jt(d many:Nat)(b:List B8):Bool:=!decide (d=12)||(dh d many b).all l9
theorem HB{many:Nat}{b:List B8}:jt 12 many b=true↔∀i,i<many->l9 (fh 12 b i)=true:=by
 unfold jt dh
 simp
theorem G4{d many:Nat}{b:List B8}(hd:1<=d)(hb:32*d*many<=b.length){i:Nat}(hi:i<many):(fh d b i).length=256:=by
 have h1:32*d*(i+1)<=32*d*many:=Nat.mul_le_mul_left _ hi
 rw[Nat.mul_succ]at h1
 unfold fh
 rw[zw,List.length_take,List.length_drop,Nat.min_eq_left (by omega),show 8*(32*d)=256*d by omega,Nat.mul_div_cancel _ hd]
theorem afA:jB Pr F4=true:=by kernel_rfl
theorem rB:ew Pr ji jA 1 24:=.of (by kernel_rfl)
theorem ajr:zc Pr ji=[.slice none 0 0]:=by kernel_rfl
theorem ajs:zc Pr p8=[.bool false]:=by kernel_rfl
theorem GA(d many:Nat)(hd:1<=d)(j5:d<=12)(hm:many<=8)(x:ag)(b:List B8)(hb:32*d*many<=b.length)(fc:b.length<=1000000)(w:World)(hx:Bytes w x b):
  Ok Pr RC [.int .i64 (d:Int),.int .i64 (many:Int),.slice x.a x.n x.c] w λv w'=>(jt d many b=true/\∃out:ag,v=.tuple ⟨[.slice out.a out.n out.c,.bool true]⟩/\IB w w' out (dh d many b))\/
   (jt d many b=false/\v=.tuple ⟨[.slice none 0 0,.bool false]⟩/\Mod [] w w'):=by
 refine abH ?_
 unfold RP
 rw[ajr,ajs]
 have aT:=hx.len
 have nP:=hx.cap
 have h1:32*d*many<=32*12*8:=Nat.mul_le_mul (by omega) hm
 have e1:32*(d:Int)*(many:Int)=((32*d*many:Nat):Int):=by simp only[Int.natCast_mul];rfl
 refine(ah.start w).nw λp w1 H _=>H.nw λp1 w2 H _=>H.nw λp2 w3 H _=>H.nw λp3 w4 H _=>?_
 have H:=H.drew
 refine H.au 0 rfl rfl rfl ⟨⟨by omega,by omega⟩,?_⟩
 rw[e1]
 refine⟨⟨by omega,by omega⟩,uq (32*d*many) rfl (by omega) λxt hxt kt=>H.au 0 rfl rfl rfl ⟨⟨by omega,by omega⟩,?_⟩⟩
 have kt:=kt _ b hx hb
 rw[show 32*(d:Int)=((32*d:Nat):Int) by omega]
 refine an (ZK xt (32*d) (by omega) _) ?_
 rintro _ w5 ⟨q,c,rfl,Hc⟩
 have H:=H.join Hc
 have H:ah w [] w5 [.aj p [.int .i64 d] aU,.aj p1 [.slice none 0 0] ji,.aj p2 [.bool false] p8,.aj p3 [.slice none 0 0] ji,.aj q [.slice xt.a xt.n xt.c] jh,.aj c [.int .i64 ((32*d:Nat):Int)] aU]:=H
 have wR:many*(32*d)=32*d*many:=Nat.mul_comm _ _
 have qn:=λ(i:Fin many)=>G4 (b:=b) hd hb i.isLt
 refine ahB (A:=Fin many) rfl afA [q,c] ?_ (λw1 m=>agu (x:=xt) (k:=32*d) (N:=many) (by omega) (by omega) kt.cap (by omega) ((H.aj 4 rfl).av m) ((H.aj 5 rfl).av m)) H
  (λpre M N'=>∃out xs,M=[.aj p [.int .i64 d] aU,.aj p1 [.slice none 0 0] ji,.aj p2 [.bool false] p8,.aj p3 [.slice out.a out.n out.c] ji,.aj q [.slice xt.a xt.n xt.c] jh,.aj c [.int .i64 ((32*d:Nat):Int)] aU]/\
   N'=.row jA 1 out (xs.map ag.v)::mM xs (pre.map λi=>fh d b i.val)/\xs.length=pre.length/\(d=12->∀i∈pre,l9 (fh d b i.val)=true))
  (λpre M N'=>(∃out:ag,M=[.aj p [.int .i64 d] aU,.aj p1 [.slice none 0 0] ji,.aj p2 [.bool false] p8,.aj p3 [.slice out.a out.n out.c] ji,.aj q [.slice xt.a xt.n xt.c] jh,.aj c [.int .i64 ((32*d:Nat):Int)] aU])/\jt d many b=false) ?_ ?_ ?_ ?_
 ·intro e he
  rcases List.mem_cons.1 he with rfl|he
  ·exact(H.aj 4 rfl).lt
  ·rw[List.mem_singleton.1 he];exact(H.aj 5 rfl).lt
 ·intro W o HW
  have HW:=HW.dy jA 1
  rw[ajq]at HW
  exact⟨_,_,⟨⟨none,0,0⟩,[],rfl,rfl,rfl,λ_ i hi=>by cases hi⟩,HW⟩
 ·rintro pre i W o M N' K Kr ⟨out,xs,rfl,rfl,iQ,jU⟩ hlen HW hK hKr
  have Jf:i.val*(32*d)+32*d<=xt.n:=by
   have h2:(i.val+1)*(32*d)<=many*(32*d):=Nat.mul_le_mul_right _ i.isLt
   rw[Nat.succ_mul]at h2
   omega
  have kp:=ael (kt.av HW.mod) (k:=32*d) (i:=i.val) (by omega) Jf
  have ep:(((b.take (32*d*many)).drop (i.val*(32*d))).take (32*d))=(b.drop (32*d*i.val)).take (32*d):=by
   rw[List.drop_take,List.take_take,Nat.min_eq_left (by omega),Nat.mul_comm i.val]
  rw[ep]at kp
  have hU:=qn i
  have hT:(pre++[i]).map (λj:Fin many=>fh d b j.val)=pre.map (λj:Fin many=>fh d b j.val)++[fh d b i.val]:=by rw[List.map_append];rfl
  have hlp:((b.drop (32*d*i.val)).take (32*d)).length<=1000000:=by rw[List.length_take];omega
  refine HW.au 0 rfl rfl rfl (an (Ga d hd (by omega) (D6 xt (32*d) i.val) _ hlp W kp) ?_)
  rintro _ pF ⟨y,rfl,hy,Ob⟩
  have hy:Own pF W.heap.size aU 1 y (bf (fh d b i.val)):=hy
  have W8:=HW
  have HW:=HW.bg Ob hy
  have k7:=(HW.cG 8 rfl).len
  rw[List.length_map,Nat.mul_one]at k7
  have aiC:∀W2,jt d many b=false->ah w [] W2 (RL w5.heap.size o [.aj p [.int .i64 d] aU,.aj p1 [.slice none 0 0] ji,.aj p2 [.bool false] p8,.aj p3 [.slice out.a out.n out.c] ji,.aj q [.slice xt.a xt.n xt.c] jh,.aj c [.int .i64 ((32*d:Nat):Int)] aU] (.row jA 1 out (xs.map ag.v)::mM xs (pre.map λi=>fh d b i.val))++[.row aU 1 y (bf (fh d b i.val))])->
    st ⟨p1,0,none⟩ (.slice none 0 0) W2 λeg=>st ⟨p2,0,none⟩ (.bool false) eg λfQ=>Kr fQ:=by
   intro W2 cr HW
   refine HW.st 1 (i:=0) rfl rfl (Nat.lt_succ_self 0) rfl λeg HW=>HW.st 2 (i:=0) rfl rfl (Nat.lt_succ_self 0) rfl λfQ HW=>?_
   exact hKr fQ _ _ ⟨⟨out,rfl⟩,cr⟩ (HW.front)
  have Wd:∀W2,(d=12->l9 (fh d b i.val)=true)->ah w [] W2 (RL w5.heap.size o [.aj p [.int .i64 d] aU,.aj p1 [.slice none 0 0] ji,.aj p2 [.bool false] p8,.aj p3 [.slice out.a out.n out.c] ji,.aj q [.slice xt.a xt.n xt.c] jh,.aj c [.int .i64 ((32*d:Nat):Int)] aU] (.row jA 1 out (xs.map ag.v)::mM xs (pre.map λi=>fh d b i.val))++[.row aU 1 y (bf (fh d b i.val))])->
    az ⟨p3,0,none⟩ W2 λt31=>nw jA [.slice y.a y.n y.c] W2 λp_4 w9=>jc Pr [ji,ji] ji [.slice t31.a t31.n t31.c,.slice (some p_4) 1 1] w9 λt34 bP=>st ⟨p3,0,none⟩ (.slice t34.a t34.n t34.c) bP λbQ=>K bQ:=by
   intro W2 ak1 HW
   refine HW.az 3 rfl rfl rfl (HW.uL 8 rB rfl rfl (by intro u hu;rw[List.mem_singleton.1 hu];rfl) (by omega) (by omega) λfJ bP HW _=>HW.st 3 (i:=0) rfl rfl (Nat.lt_succ_self 0) rfl λbQ HW=>?_)
   refine hK bQ _ (.row jA 1 fJ ((xs++[y]).map ag.v)::mM (xs++[y]) ((pre++[i]).map λi=>fh d b i.val)) ?_ ⟨fJ,xs++[y],rfl,rfl,by simp[iQ],λiC j hj=>?_⟩ ?_
   ·intro e he
    rcases List.mem_cons.1 he with rfl|he
    ·exact(HW.aj 4 rfl).trans (W8.aj 4 rfl).symm
    ·rw[List.mem_singleton.1 he];exact(HW.aj 5 rfl).trans (W8.aj 5 rfl).symm
   ·rcases List.mem_append.1 hj with h|h
    ·exact jU iC j h
    ·rw[List.mem_singleton.1 h];exact ak1 iC
   ·rw[hT,afz (by simp[iQ]),List.map_append]
    exact HW
  refine aS (gi λgo aV=>fo λgB fu=>HW.au 0 rfl rfl rfl (aZ (λhc=>?_) (λhc=>?_)))
  ·have hc:=of_decide_eq_true hc
   refine an (zE y _ (by omega) _ hy.bq) ?_
   rintro _ qt ⟨rfl,Oc⟩
   have HW:=HW.frame Oc
   refine aN (fu _ _ ?_)
   cases qf:l9 (fh d b i.val)with
   |false=>
    refine ite_true rfl (aiC qt (Bool.eq_false_iff.2 λh=>?_) HW)
    have iC:d=12:=by omega
    subst iC
    rw[HB.1 h i.val i.isLt]at qf
    cases qf
   |true=>exact ite_false rfl (aV _ (Wd qt (λ_=>qf) HW))
  ·have hc:=of_decide_eq_false hc
   exact fu _ _ (ite_false rfl (aV _ (Wd pF (λh=>absurd h (by omega)) HW)))
 ·rintro all W o M N' hS ⟨out,xs,rfl,rfl,iQ,jU⟩ HW
  have eT:all.map (λi:Fin many=>fh d b i.val)=dh d many b:=by
   have:all.map (λi:Fin many=>fh d b i.val)=(all.map (·.val)).map (fh d b):=by rw[List.map_map];rfl
   rw[this,hS];rfl
  have cI:jt d many b=true:=by
   by_cases iC:d=12
   ·subst iC
    refine HB.2 λi hi=>?_
    have hm:i∈all.map (·.val):=by rw[hS];exact List.mem_range.2 hi
    obtain⟨j,hj,rfl⟩:=List.mem_map.1 hm
    exact jU rfl j hj
   ·unfold jt;rw[decide_eq_false iC];rfl
  have hlen:xs.length=(dh d many b).length:=by rw[<- eT,List.length_map];exact iQ
  rw[eT]at HW
  refine HW.az 3 rfl rfl rfl (HW.st 1 (i:=0) rfl rfl (Nat.lt_succ_self 0) rfl λpF HW=>HW.st 2 (i:=0) rfl rfl (Nat.lt_succ_self 0) rfl λqt HW=>HW.Av 6 rfl λJk _ HW=>HW.az 1 rfl rfl rfl (HW.mV 2 rfl rfl rfl (.inl ⟨cI,out,rfl,xs,hlen,HW.drop 8⟩)))
 ·rintro pre W o M N' hS ⟨⟨out,rfl⟩,cr⟩ HW
  exact HW.Av 6 rfl λJk _ HW=>HW.az 1 (n:=⟨none,0,0⟩) rfl rfl rfl (HW.mV 2 rfl rfl rfl (.inr ⟨cr,rfl,HW.mod⟩))
end Go.Proofs.YtgjoehgomjgckaaGreatDoor
end
section
set_option linter.unusedVariables false
set_option linter.unusedSimpArgs false
namespace Go.Proofs.YtgjoehgomjgckaaGreatDoor
open Go Go.Ev
set_option maxRecDepth 20000
set_option linter.unusedVariables false
def iO(d:Nat):List Int->Nat
 |[]=>0
 |x::r=>x.toNat+2 ^ d*iO d r
def gD(k N:Nat):List B8:=(List.range k).map λj=>BitVec.ofNat 8 (N / 2 ^ (8*j))
@[irreducible] def qc(d:Nat)(xs:List Int):List B8:=gD ((d*xs.length+7) / 8) (iO d xs)
theorem vC(k N:Nat):(gD k N).length=k:=by simp[gD]
theorem Gm(d:Nat)(xs:List Int):(qc d xs).length=(d*xs.length+7) / 8:=by unfold qc;exact vC _ _
theorem aem(d:Nat)(l m:List Int):iO d (l++m)=iO d l+2 ^ (d*l.length)*iO d m:=by
 induction l with
 |nil=>simp[iO]
 |cons x r ih=>
  simp only[List.cons_append,iO,ih,List.length_cons,Nat.mul_add,Nat.mul_one,Nat.pow_add,Nat.add_assoc,<- Nat.mul_assoc]
  rw[Nat.mul_comm (2 ^ d) (2 ^ (d*r.length))]
theorem D7(d:Nat)(l:List Int)(h:∀x∈l,x.toNat<2 ^ d):iO d l<2 ^ (d*l.length):=by
 induction l with
 |nil=>simp[iO]
 |cons x r ih=>
  have h1:=ih λy hy=>h y (by simp[hy])
  have h2:=h x (by simp)
  simp only[iO,List.length_cons,Nat.mul_add,Nat.mul_one,Nat.pow_add]
  rw[Nat.mul_comm (2 ^ (d*r.length))]
  have h3:2 ^ d*(iO d r+1)<=2 ^ d*2 ^ (d*r.length):=Nat.mul_le_mul_left _ h1
  rw[Nat.mul_add,Nat.mul_one]at h3
  omega
theorem RQ(k N:Nat):gD (k+1) N=gD k N++[BitVec.ofNat 8 (N / 2 ^ (8*k))]:=by
 simp[gD,List.range_succ]
theorem agw(k c M N:Nat)(h:8*k<=c):gD k (N+2 ^ c*M)=gD k N:=by
 unfold gD
 refine List.map_congr_left λj hj=>?_
 have hj:=List.mem_range.1 hj
 refine BitVec.eq_of_toNat_eq ?_
 rw[BitVec.toNat_ofNat,BitVec.toNat_ofNat]
 have e:=Ib N M c (8*j) 8 (by omega)
 exact e
theorem BY(n:Nat):IntKind.wrap .u8 (n:Int)=((BitVec.ofNat 8 n).toNat:Int):=by
 rw[oo,BitVec.ofInt_natCast]
theorem aiD(a x n:Nat)(h:a<2 ^ n):a|||(x*2 ^ n)=a+x*2 ^ n:=LD h
structure tH(d:Nat)(xs:List Int):Prop where
 pos:∀x∈xs,0<=x
 lt:∀x∈xs,x<((2 ^ d:Nat):Int)
theorem tH.at{d:Nat}{xs:List Int}(h:tH d xs){i:Nat}(hi:i<xs.length):∃y:Nat,xs.getD i 0=(y:Int)/\y<2 ^ d:=by
 have e:xs.getD i 0=xs[i]:=by simp[List.getD_eq_getElem?_getD,hi]
 have hm:xs[i]∈xs:=List.getElem_mem hi
 have h1:=h.pos _ hm
 have h2:=h.lt _ hm
 exact⟨xs[i].toNat,by omega,by omega⟩
theorem tH.take{d:Nat}{xs:List Int}(h:tH d xs)(k:Nat):tH d (xs.take k):=⟨λx hx=>h.pos x (List.mem_of_mem_take hx),λx hx=>h.lt x (List.mem_of_mem_take hx)⟩
theorem tH.D7{d:Nat}{xs:List Int}(h:tH d xs):iO d xs<2 ^ (d*xs.length):=
 YtgjoehgomjgckaaGreatDoor.D7 d xs λx hx=>by
  have h1:=h.pos x hx
  have h2:=h.lt x hx
  omega
theorem PN(d:Nat)(xs:List Int)(i y:Nat)(hi:i<xs.length)(hy:xs.getD i 0=(y:Int)):iO d (xs.take (i+1))=iO d (xs.take i)+2 ^ (d*i)*y:=by
 rw[ic _ _ hi 0,aem,hy,List.length_take,Nat.min_eq_left (by omega)]
 simp[iO]
theorem QH(d:Nat)(iG:1<=d)(hd:d<=24)(x:ag)(xs:List Int)(hl:xs.length<=1000000)(hx:tH d xs)(w:World)(hn:cl w x xs):
  Ok Pr adK [.int .i64 (d:Int),.slice x.a x.n x.c] w λv w'=>iN w w' v (qc d xs):=by
 refine aC Tryz.func258 (J:=[(10,[])]) (L:=[(6,[(5,.sl),(6,.int .i64),(7,.int .i64),(18,.int .i64)]),(12,[(5,.sl),(6,.int .i64),(7,.int .i64)])]) (N:=[6]) ?_
 have aT:=hn.len
 refine ite_false (by rw[decide_eq_false (show ¬(d:Int)<1 by omega),decide_eq_false (show ¬(24:Int)<(d:Int) by omega)];rfl) ?_
 have WW:(2:Nat) ^ 24=16777216:=by decide
 have ak2:2 ^ d<=2 ^ 24:=Nat.pow_le_pow_right (by omega) hd
 refine Tf 0 xs.length (λi (out:ag) (held:Int) (n:Int) w'=>held=((iO d (xs.take i) / 2 ^ (8*(d*i / 8)):Nat):Int)/\n=((d*i%8:Nat):Int)/\
   ah w [] w' [.row aE 1 out (aG (gD (d*i / 8) (iO d (xs.take i))))]) rfl (by omega) ⟨by simp[iO],by simp,by simpa[gD,aG]using (ah.start w).dy aE 1⟩ ?_ ?_
 ·rintro again i out _ _ w1 _ hi ⟨rfl,rfl,H⟩ aB
  refine ite_true (decide_eq_true (by omega)) ((hn.av H.mod).ld (i:=i) hi rfl ?_)
  obtain⟨y,hy,hyd⟩:=hx.at hi
  rw[hy]
  have hT:=PN d xs i y hi hy
  have bB:=(hx.take i).D7
  rw[List.length_take,Nat.min_eq_left (by omega)]at bB
  generalize iO d (xs.take i)=N at*
  generalize iO d (xs.take (i+1))=N' at*
  obtain⟨c,hc⟩:∃c,c=d*i:=⟨_,rfl⟩
  have Bc:d*(i+1)=c+d:=by rw[Nat.mul_add,Nat.mul_one,hc]
  rw[Bc]at aB
  rw[<- hc]at H hT bB⊢
  have o8:c<=24*1000000:=by rw[hc];exact Nat.mul_le_mul hd (by omega)
  have hq:N / 2 ^ (8*(c / 8))<2 ^ (c%8):=by
   refine Nat.div_lt_of_lt_mul ?_
   rw[<- Nat.pow_add,show 8*(c / 8)+c%8=c by omega]
   exact bB
  have W9:2 ^ (c%8)<=2 ^ 7:=Nat.pow_le_pow_right (by omega) (by omega)
  have h7:(2:Nat) ^ 7=128:=by decide
  have hym:y*2 ^ (c%8)<=16777216*128:=Nat.mul_le_mul (by omega) (by omega)
  refine gi λgo aV=>?_
  have Ft:shr .i64 (y:Int) (d:Int)=0:=by
   rw[yC (by omega),Nat.div_eq_of_lt hyd];rfl
  refine ite_false (decide_eq_false (by omega)) (fG (by omega) (ite_false (by rw[Ft];rfl) (aV _ ?_)))
  refine fG (by omega) (nD ?_)
  rw[wB (by omega) (by omega),NS (by omega) (by omega),aiD _ _ _ hq]
  refine⟨⟨by omega,by omega⟩,?_⟩
  have hN:N / 2 ^ (8*(c / 8))+y*2 ^ (c%8)=N' / 2 ^ (8*(c / 8)):=by
   rw[hT]
   conv=>rhs;rw[show 2 ^ c=2 ^ (8*(c / 8))*2 ^ (c%8) by rw[<- Nat.pow_add];congr 1;omega]
   rw[Nat.mul_assoc,Nat.add_mul_div_left _ _ (Nat.pow_pos (by omega)),Nat.mul_comm y]
  rw[hN]
  have We:gD (c / 8) N=gD (c / 8) N':=by rw[hT,agw _ _ _ _ (by omega)]
  rw[We]at H
  have akl:N' / 2 ^ (8*(c / 8))<2147483776:=by rw[<- hN];omega
  clear We hN hT hq bB hym Ft
  refine DQ (λ(out:ag) (held:Int) (n:Int) w'=>∃k:Nat,c / 8<=k/\8*k<=c+d/\held=((N' / 2 ^ (8*k):Nat):Int)/\n=((c+d - 8*k:Nat):Int)/\N' / 2 ^ (8*k)<2147483776/\ah w [] w' [.row aE 1 out (aG (gD k N'))])
   (λ_ _ n _=>n.toNat) ⟨c / 8,Nat.le_refl _,by omega,rfl,by omega,akl,H⟩ ?_
  rintro gN ET _ _ w2 ⟨k,mo,kF,rfl,rfl,hh,H⟩ eJ
  have k7:=(H.bytes 0 rfl).len
  rw[vC]at k7
  refine aZ (λsr=>?_) (λsr=>?_)
  ·have sr:=of_decide_eq_true sr
   rw[BY]
   refine H.um 0 _ cg rfl rfl (by omega) λWf w3 H _=>⟨⟨by omega,by omega⟩,?_⟩
   rw[show(8:Int)=((8:Nat):Int) from rfl,yC (by omega),Nat.div_div_eq_div_mul,<- Nat.pow_add,show 8*k+8=8*(k+1) by omega]
   refine eJ _ _ _ w3 ⟨k+1,by omega,by omega,rfl,by omega,?_,?_⟩ (by omega)
   ·rw[show 8*(k+1)=8*k+8 by omega,Nat.pow_add,<- Nat.div_div_eq_div_mul]
    omega
   ·rw[RQ];exact H
  ·have sr:=of_decide_eq_false sr
   refine⟨⟨by omega,by omega⟩,aB _ _ _ w2 ?_⟩
   obtain rfl:k=(c+d) / 8:=by omega
   exact⟨rfl,by omega,H⟩
 ·rintro again out _ _ w1 ⟨rfl,rfl,H⟩
  refine ite_false (decide_eq_false (by omega)) ?_
  rw[List.take_of_length_le (Nat.le_refl _)]at H⊢
  have bB:=hx.D7
  obtain⟨c,hc⟩:∃c,c=d*xs.length:=⟨_,rfl⟩
  have o8:c<=24*1000000:=by rw[hc];exact Nat.mul_le_mul hd (by omega)
  have Bd:qc d xs=gD ((c+7) / 8) (iO d xs):=by unfold qc;rw[hc]
  rw[Bd]
  rw[<- hc]at H bB⊢
  generalize iO d xs=N at*
  have k7:=(H.bytes 0 rfl).len
  rw[vC]at k7
  refine aZ (λsr=>?_) (λsr=>?_)
  ·have sr:=of_decide_eq_true sr
   rw[BY]
   refine H.um 0 _ cg rfl rfl (by omega) λWf w3 H _=>⟨Wf,rfl,?_,H.mod⟩
   rw[show(c+7) / 8=c / 8+1 by omega,RQ]
   exact H.cm 0 rfl
  ·have sr:=of_decide_eq_false sr
   rw[show(c+7) / 8=c / 8 by omega]
   exact⟨out,rfl,H.cm 0 rfl,H.mod⟩
theorem aen(eta:Nat)(l:List B8):(lean eta l).length=256:=by unfold lean;rw[List.length_map,List.length_range]
theorem aiE(l:List B8):(nU l).length=256:=by
 unfold nU
 have:=Cn (cj 168 31 l 4095) 1365
 generalize gh (cj 168 31 l 4095) 1365=e at*
 rw[List.length_append,List.length_replicate]
 omega
end Go.Proofs.YtgjoehgomjgckaaGreatDoor
end
