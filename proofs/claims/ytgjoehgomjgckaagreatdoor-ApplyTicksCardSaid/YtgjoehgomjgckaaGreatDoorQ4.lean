/- Texts of this claim, packed and shortened. -/
import Derived.KernelRfl
import Derived.Test.YtgjoehgomjgckaaGreatDoorQ3
import Derived.Test.YtgjoehgomjgckaaGreatDoorQ2
import Derived.Test.YtgjoehgomjgckaaGreatDoorAErrNot
import Derived.Test.YtgjoehgomjgckaaGreatDoorQ1
section
set_option linter.unusedVariables false
set_option linter.unusedSimpArgs false
namespace Go.Proofs.YtgjoehgomjgckaaGreatDoor
open Go Go.Ev
set_option maxRecDepth 20000
set_option linter.unusedVariables false
def jO (d:Nat):List Int→Nat
 | []=>0
 | x :: r=>x.toNat+2 ^ d * jO d r
def nB (k N:Nat):List B8:=(List.range k).map fun j=>BitVec.ofNat 8 (N / 2 ^ (8 * j))
@[irreducible] def vB (d:Nat) (xs:List Int):List B8:=nB ((d * xs.length+7) / 8) (jO d xs)
theorem Oh (k N:Nat):(nB k N).length=k:=by simp [nB]
theorem Oj (d:Nat) (xs:List Int):(vB d xs).length=(d * xs.length+7) / 8:=by unfold vB; exact Oh _ _
theorem ahA (d:Nat) (l m:List Int):jO d (l ++ m)=jO d l+2 ^ (d * l.length) * jO d m:=by
 induction l with
 | nil=>simp [jO]
 | cons x r ih=>
  simp only [List.cons_append,jO,ih,List.length_cons,Nat.mul_add,Nat.mul_one,Nat.pow_add,Nat.add_assoc,← Nat.mul_assoc]
  rw [Nat.mul_comm (2 ^ d) (2 ^ (d * r.length))]
theorem IQ (d:Nat) (l:List Int) (h:∀ x∈l,x.toNat<2 ^ d):jO d l<2 ^ (d * l.length):=by
 induction l with
 | nil=>simp [jO]
 | cons x r ih=>
  have h1:=ih fun y hy=>h y (by simp [hy])
  have h2:=h x (by simp)
  simp only [jO,List.length_cons,Nat.mul_add,Nat.mul_one,Nat.pow_add]
  rw [Nat.mul_comm (2 ^ (d * r.length))]
  have h3:2 ^ d * (jO d r+1)≤2 ^ d * 2 ^ (d * r.length):=Nat.mul_le_mul_left _ h1
  rw [Nat.mul_add,Nat.mul_one] at h3
  omega
theorem Wn (k N:Nat):nB (k+1) N=nB k N ++ [BitVec.ofNat 8 (N / 2 ^ (8 * k))]:=by
 simp [nB,List.range_succ]
theorem ai1 (k c M N:Nat) (h:8 * k≤c):nB k (N+2 ^ c * M)=nB k N:=by
 unfold nB
 refine List.map_congr_left fun j hj=>?_
 have hj:=List.mem_range.1 hj
 refine BitVec.eq_of_toNat_eq ?_
 rw [BitVec.toNat_ofNat,BitVec.toNat_ofNat]
 have e:=Zn N M c (8 * j) 8 (by omega)
 exact e
theorem Rj (n:Nat):IntKind.wrap .u8 (n:Int)=((BitVec.ofNat 8 n).toNat:Int):=by
 rw [yR,BitVec.ofInt_natCast]
theorem ak8 (a x n:Nat) (h:a<2 ^ n):a ||| (x * 2 ^ n)=a+x * 2 ^ n:=Yl h
structure uz (d:Nat) (xs:List Int):Prop where
 pos:∀ x∈xs,0≤x
 lt:∀ x∈xs,x<((2 ^ d:Nat):Int)
theorem uz.at {d:Nat} {xs:List Int} (h:uz d xs) {i:Nat} (hi:i<xs.length):∃ y:Nat,xs.getD i 0=(y:Int)∧y<2 ^ d:=by
 have e:xs.getD i 0=xs[i]:=by simp [List.getD_eq_getElem?_getD,hi]
 have hm:xs[i]∈xs:=List.getElem_mem hi
 have h1:=h.pos _ hm
 have h2:=h.lt _ hm
 exact ⟨xs[i].toNat,by omega,by omega⟩
theorem uz.take {d:Nat} {xs:List Int} (h:uz d xs) (k:Nat):uz d (xs.take k):=⟨fun x hx=>h.pos x (List.mem_of_mem_take hx),fun x hx=>h.lt x (List.mem_of_mem_take hx)⟩
theorem uz.IQ {d:Nat} {xs:List Int} (h:uz d xs):jO d xs<2 ^ (d * xs.length):=
 YtgjoehgomjgckaaGreatDoor.IQ d xs fun x hx=>by
  have h1:=h.pos x hx
  have h2:=h.lt x hx
  omega
theorem afm (d:Nat) (xs:List Int) (i y:Nat) (hi:i<xs.length) (hy:xs.getD i 0=(y:Int)):jO d (xs.take (i+1))=jO d (xs.take i)+2 ^ (d * i) * y:=by
 rw [kY _ _ hi 0,ahA,hy,List.length_take,Nat.min_eq_left (by omega)]
 simp [jO]
theorem VD (d:Nat) (rz:1≤d) (hd:d≤24) (x:ah) (xs:List Int) (hl:xs.length≤1000000) (hx:uz d xs) (w:World) (hn:dS w x xs) :
  Ok Pr Hv [.int .i64 (d:Int),.slice x.a x.n x.c] w fun v w'=>nN w w' v (vB d xs):=by
 refine ae0 ?_
 unfold OY
 have bU:=hn.len
 refine ite_false (by rw [decide_eq_false (show ¬ (d:Int)<1 by omega),decide_eq_false (show ¬ (24:Int)<(d:Int) by omega)]; rfl) ?_
 have h24:(2:Nat) ^ 24=16777216:=by decide
 have arL:2 ^ d≤2 ^ 24:=Nat.pow_le_pow_right (by omega) hd
 refine Xt 0 xs.length (fun i (out:ah) (held:Int) (n:Int) w'=>held=((jO d (xs.take i) / 2 ^ (8 * (d * i / 8)):Nat):Int)∧n=((d * i % 8:Nat):Int)∧
   ak w [] w' [.row aX 1 out (bp (nB (d * i / 8) (jO d (xs.take i))))]) rfl (by omega) ⟨by simp [jO],by simp,by simpa [nB,bp] using (ak.start w).iZ aX 1⟩ ?_ ?_
 ·rintro again i out _ _ w1 _ hi ⟨rfl,rfl,H⟩ aM
  refine ite_true (decide_eq_true (by omega)) ((hn.aG H.mod).ld (i:=i) hi rfl ?_)
  obtain ⟨y,hy,hyd⟩:=hx.at hi
  rw [hy]
  have hT:=afm d xs i y hi hy
  have bZ:=(hx.take i).IQ
  rw [List.length_take,Nat.min_eq_left (by omega)] at bZ
  generalize jO d (xs.take i)=N at *
  generalize jO d (xs.take (i+1))=N' at *
  obtain ⟨c,hc⟩:∃ c,c=d * i:=⟨_,rfl⟩
  have TK:d * (i+1)=c+d:=by rw [Nat.mul_add,Nat.mul_one,hc]
  rw [TK] at aM
  rw [← hc] at H hT bZ ⊢
  have nU:c≤24 * 1000000:=by rw [hc]; exact Nat.mul_le_mul hd (by omega)
  have hq:N / 2 ^ (8 * (c / 8))<2 ^ (c % 8):=by
   refine Nat.div_lt_of_lt_mul ?_
   rw [← Nat.pow_add,show 8 * (c / 8)+c % 8=c by omega]
   exact bZ
  have hp8:2 ^ (c % 8)≤2 ^ 7:=Nat.pow_le_pow_right (by omega) (by omega)
  have h7:(2:Nat) ^ 7=128:=by decide
  have hym:y * 2 ^ (c % 8)≤16777216 * 128:=Nat.mul_le_mul (by omega) (by omega)
  refine jJ fun go bY=>?_
  have hsh:shr .i64 (y:Int) (d:Int)=0:=by
   rw [Fu (by omega),Nat.div_eq_of_lt hyd]; rfl
  refine ite_false (decide_eq_false (by omega)) (kM (by omega) (ite_false (by rw [hsh]; rfl) (bY _ ?_)))
  refine kM (by omega) (rN ?_)
  rw [Cx (by omega) (by omega),orN (by omega) (by omega),ak8 _ _ _ hq]
  refine ⟨⟨by omega,by omega⟩,?_⟩
  have hN:N / 2 ^ (8 * (c / 8))+y * 2 ^ (c % 8)=N' / 2 ^ (8 * (c / 8)):=by
   rw [hT]
   conv=>rhs; rw [show 2 ^ c=2 ^ (8 * (c / 8)) * 2 ^ (c % 8) by rw [← Nat.pow_add]; congr 1; omega]
   rw [Nat.mul_assoc,Nat.add_mul_div_left _ _ (Nat.pow_pos (by omega)),Nat.mul_comm y]
  rw [hN]
  have aaw:nB (c / 8) N=nB (c / 8) N':=by rw [hT,ai1 _ _ _ _ (by omega)]
  rw [aaw] at H
  have anA:N' / 2 ^ (8 * (c / 8))<2147483776:=by rw [← hN]; omega
  clear aaw hN hT hq bZ hym hsh
  refine Ix (fun (out:ah) (held:Int) (n:Int) w'=>∃ k:Nat,c / 8≤k∧8 * k≤c+d∧held=((N' / 2 ^ (8 * k):Nat):Int)∧n=((c+d - 8 * k:Nat):Int)∧N' / 2 ^ (8 * k)<2147483776∧ak w [] w' [.row aX 1 out (bp (nB k N'))])
   (fun _ _ n _=>n.toNat) ⟨c / 8,Nat.le_refl _,by omega,rfl,by omega,anA,H⟩ ?_
  rintro k9 arM _ _ w2 ⟨k,lE,oZ,rfl,rfl,hh,H⟩ iU
  have nT:=(H.bytes 0 rfl).len
  rw [Oh] at nT
  refine bV (fun sL=>?_) (fun sL=>?_)
  ·have sL:=of_decide_eq_true sL
   rw [Rj]
   refine H.Rx 0 _ iK rfl rfl (by omega) fun aax w3 H _=>⟨⟨by omega,by omega⟩,?_⟩
   rw [show (8:Int)=((8:Nat):Int) from rfl,Fu (by omega),Nat.div_div_eq_div_mul,← Nat.pow_add,show 8 * k+8=8 * (k+1) by omega]
   refine iU _ _ _ w3 ⟨k+1,by omega,by omega,rfl,by omega,?_,?_⟩ (by omega)
   ·rw [show 8 * (k+1)=8 * k+8 by omega,Nat.pow_add,← Nat.div_div_eq_div_mul]
    omega
   ·rw [Wn]; exact H
  ·have sL:=of_decide_eq_false sL
   refine ⟨⟨by omega,by omega⟩,aM _ _ _ w2 ?_⟩
   obtain rfl:k=(c+d) / 8:=by omega
   exact ⟨rfl,by omega,H⟩
 ·rintro again out _ _ w1 ⟨rfl,rfl,H⟩
  refine ite_false (decide_eq_false (by omega)) ?_
  rw [List.take_of_length_le (Nat.le_refl _)] at H ⊢
  have bZ:=hx.IQ
  obtain ⟨c,hc⟩:∃ c,c=d * xs.length:=⟨_,rfl⟩
  have nU:c≤24 * 1000000:=by rw [hc]; exact Nat.mul_le_mul hd (by omega)
  have Gh:vB d xs=nB ((c+7) / 8) (jO d xs):=by unfold vB; rw [hc]
  rw [Gh]
  rw [← hc] at H bZ ⊢
  generalize jO d xs=N at *
  have nT:=(H.bytes 0 rfl).len
  rw [Oh] at nT
  refine bV (fun sL=>?_) (fun sL=>?_)
  ·have sL:=of_decide_eq_true sL
   rw [Rj]
   refine H.Rx 0 _ iK rfl rfl (by omega) fun aax w3 H _=>⟨aax,rfl,?_,H.mod⟩
   rw [show (c+7) / 8=c / 8+1 by omega,Wn]
   exact H.fS 0 rfl
  ·have sL:=of_decide_eq_false sL
   rw [show (c+7) / 8=c / 8 by omega]
   exact ⟨out,rfl,H.fS 0 rfl,H.mod⟩
end Go.Proofs.YtgjoehgomjgckaaGreatDoor
end
section
set_option linter.unusedVariables false
set_option linter.unusedSimpArgs false
namespace Go.Proofs.YtgjoehgomjgckaaGreatDoor
open Go Go.Ev
set_option maxRecDepth 20000
set_option linter.unusedVariables false
theorem ahB (eta:Nat) (l:List B8):(lean eta l).length=256:=by unfold lean; rw [List.length_map,List.length_range]
theorem ak9 (l:List B8):(sI l).length=256:=by
 unfold sI
 have:=RT (fh 168 31 l 4095) 1365
 generalize jE (fh 168 31 l 4095) 1365=e at *
 rw [List.length_append,List.length_replicate]
 omega
end Go.Proofs.YtgjoehgomjgckaaGreatDoor
end
section
set_option linter.unusedVariables false
set_option linter.unusedSimpArgs false
namespace Go.Proofs.YtgjoehgomjgckaaGreatDoor
open Go Go.Ev
set_option maxRecDepth 20000
set_option linter.unusedVariables false
def SA (w w':World) (v:Value) (ls:List (List Int)):Prop:=∃ y:ah,v=.slice y.a y.n y.c∧fK w w' fun w=>fL w y ls
def zZ (w:World) (s:ah) (a:List (List (List Int))):Prop:=mL fL w s a
theorem zZ.aG {w w':World} {s:ah} {a:List (List (List Int))} (h:zZ w s a) (m:Mod [] w w'):zZ w' s a:=mL.aG (E:=fL) (fun m h=>fL.aG h m) h m
def al2 (w w':World) (v:Value) (a:List (List (List Int))):Prop:=∃ y:ah,v=.slice y.a y.n y.c∧fK w w' fun w=>zZ w y a
theorem aj2:fk Pr Hz fD 1 24:=.of (by kernel_rfl)
theorem J7 {A:Type} (f:Nat→A) (i:Nat):(List.range (i+1)).map f=(List.range i).map f ++ [f i]:=by simp [List.range_succ]
def mN (ls:List (List Int)):Prop:=∀ l∈ls,Pq l
theorem mN.get {ls:List (List Int)} (h:mN ls) {i:Nat} (hi:i<ls.length):Pq (ls.getD i []):=h _ (Em hi [])
theorem Qq (d:Nat) (l:List B8):∀ x∈unpack d l,0≤x∧x<((2 ^ d:Nat):Int):=by
 intro x hx
 unfold unpack at hx
 obtain ⟨i,_,rfl⟩:=List.mem_map.1 hx
 have:=Zo (num l) d i
 omega
theorem _root_.Go.Ev.dS.kept {w w':World} {x:ah} {l:List Int} (h:dS w x l) {i:Nat} (hi:i<l.length) (m:Mod [] w w'):kept (Addr.add (base x.a) (Int.toNat (i:Int) * 1)) 1 w w':=by
 refine zm m (v:=i64 l[i]) ?_
 rw [Int.toNat_natCast,Nat.mul_one]
 exact h.cell i _ (by simp [cu,hi])
theorem _root_.Go.Ev.fL.kept {w w':World} {x:ah} {ls:List (List Int)} (h:fL w x ls) {i:Nat} (hi:i<ls.length) (m:Mod [] w w'):kept (Addr.add (base x.a) (Int.toNat (i:Int) * 1)) 1 w w':=by
 obtain ⟨y,_,_,hc⟩:=h.at hi
 exact zm m (by rw [Int.toNat_natCast]; exact hc)
theorem qR.aay {w w':World} {v:Value} {l:List Int} (h:qR w w' v l):∃ y:ah,v=.slice y.a y.n y.c∧fK w w' fun w=>dS w y l:=by
 obtain ⟨y,rfl,hy,m⟩:=h
 exact ⟨y,rfl,fK.EI hy m fun w2 h=>h.dJ⟩
theorem ai2 {A:Type} (f:List Int→List A) (fs:List (List Int)) (i:Nat) (h:i<fs.length):(fs.take (i+1)).flatMap f=(fs.take i).flatMap f ++ f (fs.getD i []):=by
 rw [kY _ _ h [],List.flatMap_append]; simp
@[irreducible] def zN (f:List Int):List B8:=vB 12 f
def xR (fs:List (List Int)):List B8:=fs.flatMap zN
theorem WV {f:List Int} (h:f.length=256):(zN f).length=384:=by unfold zN; rw [Oj,h]
theorem IA {fs:List (List Int)} (h:mN fs):(xR fs).length=384 * fs.length:=by
 unfold xR
 induction fs with
 | nil=>rfl
 | cons f r ih=>rw [List.flatMap_cons,List.length_append,ih fun l hl=>h l (by simp [hl]),WV (h f (by simp)).len,List.length_cons]; omega
theorem al3 {f:List Int} (h:Pq f):uz 12 f:=⟨fun x hx=>(h.TC x hx).1,fun x hx=>by
 have:=h.TC x hx
 show x<((2 ^ 12:Nat):Int)
 omega⟩
theorem Wo (x:ah) (fs:List (List Int)) (hl:fs.length≤100) (hp:mN fs) (w:World) (hx:fL w x fs):Ok Pr Il [.slice x.a x.n x.c] w fun v w'=>nN w w' v (xR fs):=by
 refine agZ ?_
 unfold QS
 have bU:=hx.len
 refine k7 0 fs.length (fun i (o:ah) w'=>ak w [] w' [.row aX 1 o (bp ((fs.take i).flatMap zN))]) rfl (by omega) (by simpa [bp] using (ak.start w).iZ aX 1) ?_ ?_
 ·intro again i o w1 _ hi H aM
  have hA:((fs.take i).flatMap zN).length≤384 * 100:=by
   have:=IA (fs:=fs.take i) fun l hl=>hp l (List.mem_of_mem_take hl)
   unfold xR at this
   rw [this,List.length_take]
   omega
  have wk:=(H.bytes 0 rfl).len
  refine ite_true (decide_eq_true (by omega)) ((hx.aG H.mod).ld (i:=i) hi rfl fun y hy=>?_)
  rw [ai2 _ _ _ hi] at aM
  have hP:=hp.get hi
  generalize fs.getD i []=f at *
  have Gj:=hP.len
  refine aB (VD 12 (by omega) (by omega) y f (by omega) (al3 hP) _ hy) ?_
  rintro _ w2 ⟨z,rfl,hz,m⟩
  rw [show vB 12 f=zN f by unfold zN; rfl] at hz
  have H:=H.cG m hz
  have qo:=hz.bytes.len
  have:=WV Gj
  refine bW (H.vH 0 iK rfl hz.bytes (by omega) fun o' w3 H _=>⟨⟨by omega,by omega⟩,aM o' w3 H.front⟩)
 ·intro again o w1 H
  rw [List.take_of_length_le (Nat.le_refl _)] at H
  exact ite_false (decide_eq_false (by omega)) ⟨o,rfl,H.fS 0 rfl,H.mod⟩
def wm (d:Nat) (f:List Int):List Int:=f.map fun x=>(CW d x:Int)
@[irreducible] def lK (d:Nat) (f:List Int):List B8:=vB d (wm d f)
theorem IS {d:Nat} {f:List Int} (h:f.length=256):(lK d f).length=32 * d:=by
 unfold lK wm
 rw [Oj,List.length_map,h]; omega
theorem ala (d:Nat) (f:List Int):uz d (wm d f):=⟨fun x hx=>by
 obtain ⟨y,_,rfl⟩:=List.mem_map.1 hx
 omega,fun x hx=>by
 obtain ⟨y,_,rfl⟩:=List.mem_map.1 hx
 have:=alV (d:=d) y
 omega⟩
theorem getD_map' {f:Int→Int} {l:List Int} {i:Nat} (h:i<l.length):(l.map f).getD i 0=f (l.getD i 0):=by
 simp [List.getD_eq_getElem?_getD,h]
theorem No (d:Nat) (h1:1≤d) (hd:d≤11) (x:ah) (f:List Int) (hf:f.length=256) (w:World) (hx:dS w x f):Ok Pr DL [.int .i64 (d:Int),.slice x.a x.n x.c] w fun v w'=>nN w w' v (lK d f):=by
 refine aeE ?_
 unfold N9
 have bU:=hx.len
 have hN:=Oj d (wm d f)
 have JZ:(wm d f).length=256:=by unfold wm; rw [List.length_map,hf]
 have xS:∀ i,i<256→(wm d f).getD i 0=(CW d (f.getD i 0):Int):=fun i hi=>getD_map' (by omega)
 have aot:=ala d f
 rw [show lK d f=vB d (wm d f) by unfold lK; rfl]
 generalize wm d f=N at *
 refine k7 0 256 (fun i (xs:ah) w'=>ak w [] w' [.row bH 1 xs (cu (N.take i))]) rfl (by omega) (by simpa [cu] using (ak.start w).iZ bH 1) ?_ ?_
 ·intro again i xs w3 _ hi H aM
  have hn:=(H.dJ 0 rfl).len
  rw [List.length_take,Nat.min_eq_left (by omega)] at hn
  refine ite_true (decide_eq_true (by omega)) ((hx.aG H.mod).ld (i:=i) (by omega) rfl (aB (afg d h1 hd _ _) ?_))
  rintro _ w4 ⟨rfl,m⟩
  have H:=H.frame m
  rw [← xS i hi]
  refine eE (H.Sv 0 BG rfl (by omega) fun xs' w5 H _=>⟨⟨by omega,by omega⟩,aM xs' w5 ?_⟩)
  rw [kY _ _ (by omega) 0]
  exact H
 ·intro again xs w3 H
  rw [List.take_of_length_le (by omega)] at H
  refine ite_false (decide_eq_false (by omega)) (aB (VD d h1 (by omega) xs N (by omega) aot _ (H.dJ 0 rfl)) ?_)
  rintro _ w5 ⟨y,rfl,hy,m5⟩
  have H:=H.cG m5 hy
  exact bW ⟨y,rfl,H.fS 1 rfl,H.mod⟩
def Ah (d:Nat) (l:List Int):List Int:=l.map fun x=>qq d x.toNat
def sq (d many:Nat) (b:List B8):List (List Int):=(gG d many b).map (Ah d)
theorem Rk (d many:Nat) (b:List B8):(sq d many b).length=many:=by unfold sq gG; simp
theorem YA {d many:Nat} (h1:1≤d) (hd:d≤11) {b:List B8} (hb:32 * d * many≤b.length):mN (sq d many b):=by
 intro l hl
 unfold sq gG at hl
 rw [List.map_map] at hl
 obtain ⟨i,hi,rfl⟩:=List.mem_map.1 hl
 refine ⟨by show (Ah d _).length=256; unfold Ah; rw [List.length_map]; exact QU h1 hb (List.mem_range.1 hi),fun x hx=>?_⟩
 obtain ⟨y,_,rfl⟩:=List.mem_map.1 hx
 exact ak2 hd h1
theorem QV (d many:Nat) (b:List B8):(gG d many b).length=many:=by unfold gG; simp
theorem WW {d many:Nat} {b:List B8} {i:Nat} (h:i<many):(gG d many b)[i]? = some (iR d b i):=by
 unfold gG; rw [List.getElem?_map,List.getElem?_range h]; rfl
theorem IT {A:Type} (f:A→A) (l:List A) (i:Nat) (h:i<l.length) (d:A):((l.take i).map f ++ l.drop i).set i (f (l.getD i d))=(l.take (i+1)).map f ++ l.drop (i+1):=by
 have hl:((l.take i).map f).length=i:=by rw [List.length_map,List.length_take]; omega
 rw [List.set_append_right _ _ (by omega),hl,Nat.sub_self,List.drop_eq_getElem_cons h,List.set_cons_zero,kY _ _ h d,List.map_append,List.append_assoc]
 simp [List.getD_eq_getElem?_getD,h]
theorem IU {A:Type} (f:A→A) (l:List A) (i:Nat) (h:i<l.length):((l.take i).map f ++ l.drop i)[i]? = l[i]?:=by
 rw [List.getElem?_append_right (by simp; omega),List.length_map,List.length_take,Nat.min_eq_left (by omega),Nat.sub_self,List.getElem?_drop,Nat.add_zero]
theorem U3 (d many:Nat) (h1:1≤d) (hd:d≤11) (hm:many≤8) (x:ah) (b:List B8) (hb:32 * d * many≤b.length) (jP:b.length≤1000000) (w:World) (hx:Bytes w x b) :
  Ok Pr G9 [.int .i64 (d:Int),.int .i64 (many:Int),.slice x.a x.n x.c] w fun v w'=>SA w w' v (sq d many b):=by
 refine adW ?_
 unfold Nm
 refine aB (HB d many h1 (by omega) hm x b hb jP w hx) ?_
 rintro _ w1 (⟨_,out,rfl,hG⟩ | ⟨dz,_⟩)
 case inr=>
  unfold ot at dz
  rw [decide_eq_false (show ¬ d=12 by omega)] at dz
  cases dz
 obtain ⟨xs,jR,H⟩:=hG
 have C1:=QV d many b
 have hxn:=(H.fJ 0 rfl).len
 rw [List.length_map,Nat.mul_one,jR,C1] at hxn
 refine ⟨_,rfl,out,rfl,true,rfl,rfl,?_⟩
 refine dm 0 many (fun i w'=>ak w [] w' (.row fo 1 out (xs.map ah.v) :: l5 xs (((gG d many b).take i).map (Ah d) ++ (gG d many b).drop i))) rfl (by omega) H ?_ ?_
 ·intro again i w2 _ hi H aM
  obtain ⟨z,hz⟩:∃ z,xs[i]? = some z:=⟨_,List.getElem?_eq_getElem (by omega)⟩
  have nC:w2.cell? (Addr.add (base out.a) (Int.toNat (i:Int) * 1))=some z.v:=by
   rw [Int.toNat_natCast,Nat.mul_one]
   exact (H.fJ 0 rfl).cell i _ (by rw [List.getElem?_map,hz]; rfl)
  refine ite_true (decide_eq_true (by omega)) ⟨⟨(H.fJ 0 rfl).pre (by omega),by omega,by omega⟩,z,nC,?_⟩
  have hg:(((gG d many b).take i).map (Ah d) ++ (gG d many b).drop i)[i]? = some (iR d b i):=by rw [IU _ _ _ (by omega)]; exact WW hi
  have hlen:=QU h1 hb hi
  have bZ:=Qq d ((b.drop (32 * d * i)).take (32 * d))
  change ∀ x∈iR d b i,0≤x∧x<((2 ^ d:Nat):Int) at bZ
  have qW:=IT (Ah d) (gG d many b) i (by omega) []
  rw [show (gG d many b).getD i []=iR d b i by rw [List.getD_eq_getElem?_getD,WW hi]; rfl] at qW
  rw [← qW] at aM
  generalize (((gG d many b).take i).map (Ah d) ++ (gG d many b).drop i)=LS at *
  generalize iR d b i=U at *
  have hLi:i<LS.length:=(List.getElem?_eq_some_iff.1 hg).1
  have F5:=(H.dJ (i+1) (QT hz hg)).len
  have h2:=BL hd
  refine dm 0 256 (fun j w'=>ak w [] w' (.row fo 1 out (xs.map ah.v) :: l5 xs (LS.set i ((U.take j).map (fun x=>qq d x.toNat) ++ U.drop j)))) rfl (by omega) ?_ ?_ ?_
  ·have e:LS.set i U=LS:=by
    refine List.ext_getElem? fun j=>?_
    rw [List.getElem?_set]
    by_cases h:i=j
    ·subst h; rw [if_pos rfl,if_pos hLi,hg]
    ·rw [if_neg h]
   show ak w [] w2 (.row fo 1 out (xs.map ah.v) :: l5 xs (LS.set i U))
   rw [e]; exact H
  ·intro k9 j w3 _ hj H iU
   have xS:(l5 xs (LS.set i ((U.take j).map (fun x=>qq d x.toNat) ++ U.drop j)))[i]? = some (.row bH 1 z (cu ((U.take j).map (fun x=>qq d x.toNat) ++ U.drop j))):=QT hz (by rw [List.getElem?_set,if_pos rfl,if_pos hLi])
   have aou:=H.dJ (i+1) xS
   have Au:((U.take j).map (fun x=>qq d x.toNat) ++ U.drop j).length=256:=by simp only [List.length_append,List.length_map,List.length_take,List.length_drop]; omega
   have TL:((U.take j).map (fun x=>qq d x.toNat) ++ U.drop j).getD j 0=U.getD j 0:=by
    rw [List.getD_eq_getElem?_getD,IU _ _ _ (by omega),List.getD_eq_getElem?_getD]
   refine ite_true (decide_eq_true (by omega)) (aou.ld (i:=j) (by omega) rfl ?_)
   rw [TL]
   obtain ⟨h3,h4⟩:=bZ _ (Em (l:=U) (i:=j) (by omega) 0)
   obtain ⟨u,hu⟩:∃ u:Nat,U.getD j 0=(u:Int):=⟨(U.getD j 0).toNat,by omega⟩
   rw [hu]
   refine aB (UU d h1 hd u (by omega) _) ?_
   rintro _ w4 ⟨rfl,m⟩
   have H:=H.frame m
   refine eE (H.sA (i+1) (i:=j) xS (by omega) rfl fun w5 H=>⟨⟨by omega,by omega⟩,iU w5 ?_⟩)
   have e:=IT (fun x:Int=>qq d x.toNat) U j (by omega) 0
   rw [hu,Int.toNat_natCast] at e
   rw [e,List.set_cons_succ,ai0 hz,List.set_set] at H
   exact H
  ·intro k9 w3 H
   rw [List.take_of_length_le (by omega),List.drop_of_length_le (by omega),List.append_nil] at H
   exact ite_false (decide_eq_false (by omega)) ⟨⟨by omega,by omega⟩,aM w3 H⟩
 ·intro again w2 H
  rw [List.take_of_length_le (by omega),List.drop_of_length_le (by omega),List.append_nil] at H
  exact ite_false (decide_eq_false (by omega)) ⟨out,rfl,Jn.box ⟨xs,by rw [jR,C1,Rk],H⟩⟩
def oH (eta:Nat) (aq:List B8) (from_ many:Nat):List (List Int):=(List.range many).map fun (i:Nat)=>rO (eta:Int) aq (BitVec.ofInt 8 ((from_+i:Nat):Int))
theorem aj3 {eta:Nat} (he:eta=2∨eta=3) {aq:List B8} (hs:aq.length=32) (n:B8):Pq (rO (eta:Int) aq n):=by
 have ec:tV (eta:Int) aq.length=0:=by unfold tV; rw [if_pos (by omega),if_pos hs]
 unfold rO
 rw [if_pos ec]
 generalize fh 136 31 (aq ++ [n]) (64 * (eta:Int))=z
 refine ⟨ahB _ _,fun x hx=>?_⟩
 unfold lean at hx
 obtain ⟨i,_,rfl⟩:=List.mem_map.1 hx
 omega
theorem wZ (eta:Nat) (aq:List B8) (from_ many:Nat):(oH eta aq from_ many).length=many:=by unfold oH; simp
theorem zh {eta:Nat} (he:eta=2∨eta=3) {aq:List B8} (hs:aq.length=32) (from_ many:Nat):mN (oH eta aq from_ many):=fun l hl=>by
 unfold oH at hl
 obtain ⟨i,_,rfl⟩:=List.mem_map.1 hl
 exact aj3 he hs _
theorem HC (eta:Nat) (x:ah) (aq:List B8) (from_ many:Nat) (hm:many≤100) (hf:from_≤100) (hs:aq.length≤100000) (w:World) (hx:Bytes w x aq) :
  Ok Pr Bw [.int .i64 (eta:Int),.slice x.a x.n x.c,.int .i64 (from_:Int),.int .i64 (many:Int)] w fun v w'=>SA w w' v (oH eta aq from_ many):=by
 refine agr ?_
 unfold Qo
 refine k7 0 many (fun i (out:ah) w'=>hO dS fo w [] [] w' out (oH eta aq from_ i)) rfl (by omega) (hO.start (ak.start w)) ?_ ?_
 ·intro again i out w2 _ hi C aM
  refine ite_true (decide_eq_true (by omega)) ⟨⟨by omega,by omega⟩,?_⟩
  rw [show (from_:Int)+(i:Int)=((from_+i:Nat):Int) by omega,yR]
  refine aB (af7 (eta:Int) x aq _ (by omega) _ (hx.aG C.mod)) ?_
  rintro _ w3 ⟨y,er,rfl,hy,he,hn,m3⟩
  have hs:oH eta aq from_ (i+1)=oH eta aq from_ i ++ [rO (eta:Int) aq (BitVec.ofInt 8 ((from_+i:Nat):Int))]:=J7 _ _
  rw [hs] at aM
  exact ⟨_,rfl,y,rfl,rfl,C.add (fK.EI hy m3 fun w2 h=>h.dJ) BH (by rw [wZ]; omega) fun lC w4 C=>⟨⟨by omega,by omega⟩,aM lC w4 C⟩⟩
 ·intro again out w2 C
  exact ite_false (decide_eq_false (by omega)) ⟨out,rfl,C.boxed.mono fun w h=>Iz h⟩
def nD (cO:List B8) (k:Nat) (gx:Bool) (i:Nat):List (List Int):=(List.range k).map fun (j:Nat)=>if gx=true then sI (cO ++ [BitVec.ofInt 8 (i:Int),BitVec.ofInt 8 (j:Int)]) else sI (cO ++ [BitVec.ofInt 8 (j:Int),BitVec.ofInt 8 (i:Int)])
def pQ (cO:List B8) (k:Nat) (gx:Bool) (i:Nat):List (List (List Int)):=(List.range i).map (nD cO k gx)
theorem alb (l:List B8) (t:Nat):∀ x∈jE l t,0≤x∧x<3329:=by
 have push:∀ (o:List Int) (x:Int),(∀ x∈o,0≤x∧x<3329)→0≤x→∀ y∈qp o x,0≤y∧y<3329:=by
  intro o x ho hx y hy
  unfold qp at hy
  split at hy
  ·rename_i hc
   rcases List.mem_append.1 hy with h | h
   ·exact ho y h
   ·rw [List.mem_singleton.1 h]; exact ⟨hx,hc.1⟩
  ·exact ho y hy
 induction t with
 | zero=>intro x hx; cases hx
 | succ t ih=>exact push _ _ (push _ _ ih (by unfold cx; omega)) (by unfold cy; omega)
theorem al4 (l:List B8):Pq (sI l):=by
 refine ⟨ak9 l,fun x hx=>?_⟩
 unfold sI at hx
 rcases List.mem_append.1 hx with h | h
 ·exact alb _ _ x h
 ·rw [List.eq_of_mem_replicate h]; omega
theorem Rl (cO:List B8) (k:Nat) (gx:Bool) (i:Nat):(nD cO k gx i).length=k∧mN (nD cO k gx i):=by
 refine ⟨by unfold nD; simp,fun l hl=>?_⟩
 unfold nD at hl
 obtain ⟨j,_,rfl⟩:=List.mem_map.1 hl
 split <;> exact al4 _
theorem Ej (cO:List B8) (k:Nat) (gx:Bool) (i:Nat):(pQ cO k gx i).length=i:=by unfold pQ; simp
theorem WX {cO:List B8} {k:Nat} {gx:Bool} {n i:Nat} (h:i<n):(pQ cO k gx n).getD i []=nD cO k gx i:=by
 unfold pQ; rw [List.getD_eq_getElem?_getD,List.getElem?_map,List.getElem?_range h]; rfl
theorem VV (s:iG) (hk:s.k≤100) (x:ah) (cO:List B8) (hr:cO.length=32) (gx:Bool) (w:World) (hx:Bytes w x cO):Ok Pr HN [.agg ⟨s.cells⟩,.slice x.a x.n x.c,.bool gx] w fun v w'=>al2 w w' v (pQ cO s.k gx s.k):=by
 refine ags ?_
 unfold Qp
 refine (ak.start w).nw fun p w1 H _=>H.an 0 rfl (au p 0) rfl ?_
 refine k7 0 s.k (fun i (out:ah) w'=>hO fL fD w [] [.av p s.cells iw] w' out (pQ cO s.k gx i)) rfl (by omega) (hO.start H) ?_ ?_
 ·intro again i out w2 _ hi C aM
  have H:=C.front
  refine ite_true (decide_eq_true (by omega)) (H.an 0 rfl (au p 0) rfl ?_)
  have hs:pQ cO s.k gx (i+1)=pQ cO s.k gx i ++ [nD cO s.k gx i]:=J7 _ _
  rw [hs] at aM
  refine k7 0 s.k (fun j (row:ah) w'=>hO dS fo w2 [] [] w' row (nD cO j gx i)) rfl (by omega) (hO.start (ak.start w2)) ?_ ?_
  ·intro k9 j row w3 _ hj D iU
   have AF:nD cO (j+1) gx i=nD cO j gx i ++ [if gx=true then sI (cO ++ [BitVec.ofInt 8 (i:Int),BitVec.ofInt 8 (j:Int)]) else sI (cO ++ [BitVec.ofInt 8 (j:Int),BitVec.ofInt 8 (i:Int)])]:=J7 _ _
   rw [AF] at iU
   have hx3:=(hx.aG H.mod).aG D.mod
   have C1:=(Rl cO j gx i).1
   refine ite_true (decide_eq_true (by omega)) (uZ fun go bY=>?_)
   cases gx with
   | true=>
    refine ite_true rfl (bY _ _ _ ?_)
    rw [yR,yR]
    refine aB (VB x cO hr _ _ _ hx3) ?_
    rintro _ w4 ⟨y,er,rfl,hy,he,hn,m4⟩
    exact ⟨_,rfl,y,rfl,rfl,D.add (fK.EI hy m4 fun w2 h=>h.dJ) BH (by omega) fun S9 w5 D=>⟨⟨by omega,by omega⟩,iU S9 w5 D⟩⟩
   | false=>
    refine ite_false rfl (bY _ _ _ ?_)
    rw [yR,yR]
    refine aB (VB x cO hr _ _ _ hx3) ?_
    rintro _ w4 ⟨y,er,rfl,hy,he,hn,m4⟩
    exact ⟨_,rfl,y,rfl,rfl,D.add (fK.EI hy m4 fun w2 h=>h.dJ) BH (by omega) fun S9 w5 D=>⟨⟨by omega,by omega⟩,iU S9 w5 D⟩⟩
  ·intro k9 row w3 D
   exact ite_false (decide_eq_false (by omega)) (C.add (D.boxed.mono fun w h=>Iz h) aj2 (by rw [Ej]; omega) fun lC w4 C=>⟨⟨by omega,by omega⟩,aM lC w4 C⟩)
 ·intro again out w2 C
  exact ite_false (decide_eq_false (by omega)) ⟨out,rfl,C.boxed⟩
def nt (fs:List (List Int)):List (List Int):=fs.map vA
theorem Iq {fs:List (List Int)} (h:mN fs):mN (nt fs):=fun l hl=>by
 unfold nt at hl
 obtain ⟨f,hf,rfl⟩:=List.mem_map.1 hl
 exact ajR (h f hf)
theorem D8 (fs:List (List Int)):(nt fs).length=fs.length:=by unfold nt; simp
theorem HD (x:ah) (fs:List (List Int)) (hl:fs.length≤1000) (hp:mN fs) (w:World) (hx:fL w x fs):Ok Pr Bv [.slice x.a x.n x.c] w fun v w'=>SA w w' v (nt fs):=by
 refine agq ?_
 unfold Qn
 have bU:=hx.len
 refine k7 0 fs.length (fun i (out:ah) w'=>hO dS fo w [] [] w' out (nt (fs.take i))) rfl (by omega) (hO.start (ak.start w)) ?_ ?_
 ·intro again i out w1 _ hi C aM
  have hs:nt (fs.take (i+1))=nt (fs.take i) ++ [vA (fs.getD i [])]:=by unfold nt; rw [kY _ _ hi [],List.map_append]; rfl
  rw [hs] at aM
  refine ite_true (decide_eq_true (by omega)) ((hx.aG C.mod).ld (i:=i) hi rfl fun y hy=>aB (agW y _ (hp.get hi) _ hy) ?_)
  rintro _ w2 h
  obtain ⟨z,rfl,hz⟩:=h.aay
  exact bW (C.add hz BH (by rw [D8,List.length_take]; omega) fun lC w3 C=>⟨⟨by omega,by omega⟩,aM lC w3 C⟩)
 ·intro again out w1 C
  rw [List.take_of_length_le (Nat.le_refl _)] at C
  exact ite_false (decide_eq_false (by omega)) ⟨out,rfl,C.boxed.mono fun w h=>Iz h⟩
@[irreducible] def Fz (m:List B8):List Int:=(unpack 1 m).map fun x=>x * 1665
theorem alc {m:List B8} (h:m.length=32):Pq (Fz m):=by
 unfold Fz
 refine ⟨by rw [List.length_map,Nh,h],fun x hx=>?_⟩
 obtain ⟨y,hy,rfl⟩:=List.mem_map.1 hx
 have:=Qq 1 m y hy
 omega
theorem anB:qq 1 1=1665:=by decide
theorem afn (x:ah) (m:List B8) (h:m.length=32) (w:World) (hx:Bytes w x m):Ok Pr MX [.slice x.a x.n x.c] w fun v w'=>qR w w' v (Fz m):=by
 refine adX ?_
 unfold Nn
 refine aB (GZ 1 (by omega) (by omega) x m (by omega) w hx) ?_
 rintro _ w1 ⟨y,rfl,hy,m1⟩
 have hU:(unpack 1 m).length=256:=by rw [Nh,h]
 have bZ:=Qq 1 m
 unfold Fz
 generalize unpack 1 m=U at *
 have H:=(ak.start w).cG m1 hy
 have ym:=(H.dJ 0 rfl).len
 refine bW (dm 0 256 (fun j w'=>ak w [] w' [.row bH 1 y (cu ((U.take j).map (fun x=>x * 1665) ++ U.drop j))]) rfl (by omega) (by simpa using H) ?_ ?_)
 ·intro again j w2 _ hj H aM
  have Au:((U.take j).map (fun x=>x * 1665) ++ U.drop j).length=256:=by simp only [List.length_append,List.length_map,List.length_take,List.length_drop]; omega
  have TL:((U.take j).map (fun x=>x * 1665) ++ U.drop j).getD j 0=U.getD j 0:=by
   rw [List.getD_eq_getElem?_getD,IU _ _ _ (by omega),List.getD_eq_getElem?_getD]
  have H:=H.drew
  have hg:=bZ _ (Em (l:=U) (i:=j) (by omega) 0)
  refine ite_true (decide_eq_true (by omega)) ((H.dJ 0 rfl).ld (i:=j) (by omega) rfl ?_)
  rw [TL]
  refine aB (UU 1 (by omega) (by omega) 1 (by omega) _) ?_
  rintro _ w3 ⟨rfl,m3⟩
  rw [anB]
  have kp:=(H.dJ 0 rfl).kept (i:=j) (by omega) m3
  have H:=H.frame m3
  refine eE ⟨kp,⟨by omega,by omega⟩,H.sA 0 (i:=j) rfl (by omega) rfl fun w4 H=>⟨⟨by omega,by omega⟩,aM w4 ?_⟩⟩
  rw [← IT (fun x:Int=>x * 1665) U j (by omega) 0]
  exact H
 ·intro again w2 H
  rw [List.take_of_length_le (by omega),List.drop_of_length_le (by omega),List.append_nil] at H
  exact ite_false (decide_eq_false (by omega)) ⟨y,rfl,H.fS 0 rfl,H.mod⟩
end Go.Proofs.YtgjoehgomjgckaaGreatDoor
end
section
set_option linter.unusedVariables false
set_option linter.unusedSimpArgs false
namespace Go.Proofs.YtgjoehgomjgckaaGreatDoor
open Go Go.Ev
set_option maxRecDepth 20000
set_option linter.unusedVariables false
theorem _root_.Go.Ev.ak.jY {w0 w w':World} {S:List Nat} {L:List aD} (H:ak w0 S w L) (k:Nat) {b:Nat} {cs:List Value} {t:TypeId} (hk:L[k]? = some (.av b cs t)) (m:Mod [] w w') (j:Nat):kept (Addr.add ⟨b,0,none⟩ j) 1 w w':=
 Ep m (by rw [jI]; exact (H.av k hk).lt) (by simp)
theorem qN (w w':World):cP w w' .nilIface 0:=⟨.inl ⟨rfl,rfl⟩,fun b hb=>by cases hb⟩
def iI (set:Int) (b:List B8):Int:=if isSet set=true then (if b.length=iH set then (if ot 12 (dG set).k b=true then 0 else 4) else 3) else 2
theorem Wp (set:Int) (x:ah) (b:List B8) (w:World) (hx:Bytes w x b):Ok Pr Ik [.int .i64 set,.slice x.a x.n x.c] w fun v w'=>cP w w' v (iI set b)∧Mod [] w w':=by
 refine agY ?_
 unfold QO
 rw [xx]
 have bU:=hx.len
 refine aB (y9 set w) ?_
 rintro _ w1 ⟨rfl,m1⟩
 have H:=(ak.start w).frame m1
 have fin:∀ {L:List aD} {w2 w3:World} {e:Value} {c:Int},ak w [] w2 L→cP w2 w3 e c→Mod [] w2 w3→cP w w3 e c∧Mod [] w w3:=fun H h m=>⟨⟨h.1,fun b hb=>by
  have:=h.2 b hb
  have:=H.mod.size
  omega⟩,H.mod.trans m⟩
 refine ⟨_,rfl,zD ⟨_,rfl,rfl,H.nw fun p w2 H _=>H.iY 0 rfl rfl fun w3 H=>?_⟩⟩
 have H:ak w [] w3 [.av p (dG set).cells iw]:=H
 unfold iI
 cases cH:isSet set with
 | false=>
  refine ite_true rfl (aB (Bh 2 (by decide) w3) ?_)
  rintro e w4 ⟨h,m⟩
  rw [if_neg (by decide)]
  exact fin H h m
 | true=>
  have hg:=ny cH
  have hk:=hg.k
  rw [if_pos rfl]
  refine ite_false rfl (aB (Hp set w3) ?_)
  rintro _ w5 ⟨rfl,m5⟩
  have H:=H.frame m5
  have hA:iH set=384 * (dG set).k+32:=by unfold iH; rw [if_pos cH]
  refine ⟨_,rfl,_,rfl,_,rfl,_,rfl,rfl,?_⟩
  by_cases hn:b.length=iH set
  case neg=>
   rw [if_neg hn]
   refine ite_true (by rw [decide_eq_false (show ¬ ((x.n:Nat):Int)=((iH set:Nat):Int) by omega)]; rfl) (aB (Bh 3 (by decide) w5) ?_)
   rintro e w6 ⟨h,m⟩
   exact fin H h m
  rw [if_pos hn]
  refine ite_false (by rw [decide_eq_true (show ((x.n:Nat):Int)=((iH set:Nat):Int) by omega)]; rfl) (H.an 0 rfl (au p 0) rfl (aB (HB 12 (dG set).k (by omega) (by omega) (by omega) x b (by omega) (by omega) _ (hx.aG H.mod)) ?_))
  rintro _ w7 (⟨dV,out,rfl,hG⟩ | ⟨dz,rfl,m7⟩)
  ·rw [if_pos dV]
   refine ⟨_,rfl,_,rfl,_,rfl,rfl,ite_false rfl ⟨qN _ _,H.mod.trans hG.box.mod⟩⟩
  ·rw [if_neg (by rw [dz]; decide)]
   refine ⟨_,rfl,⟨none,0,0⟩,rfl,_,rfl,rfl,ite_true rfl (aB (Bh 4 (by decide) w7) ?_)⟩
   rintro e w8 ⟨h,m⟩
   exact fin (H.frame m7) h m
def tK (k:Nat) (cO:List B8) (s e:List (List Int)):List (List Int):=(List.range k).map fun i=>pZ (qX (nD cO k false i) s) (e.getD i [])
def gK (s:iG) (d:List B8):List B8:=fh 72 6 (d ++ [BitVec.ofNat 8 s.k]) 64
def sK (s:iG) (g:List B8):List (List Int):=nt (oH s.e1 (g.drop 32) 0 s.k)
def eK (s:iG) (g:List B8):List (List Int):=nt (oH s.e1 (g.drop 32) s.k s.k)
@[irreducible] def Cn (s:iG) (g:List B8):List B8:=xR (tK s.k (g.take 32) (sK s g) (eK s g)) ++ g.take 32
@[irreducible] def Co (s:iG) (g:List B8):List B8:=xR (sK s g)
def uA (set:Int) (n:Nat):Int:=if isSet set=true then (if n=32 then 0 else 3) else 2
@[irreducible] def qu (set:Int) (d:List B8):List B8:=if uA set d.length=0 then Cn (dG set) (gK (dG set) d) else []
@[irreducible] def wo (set:Int) (d:List B8):List B8:=if uA set d.length=0 then Co (dG set) (gK (dG set) d) else []
theorem SB {s:iG} (hs:zM s) {g:List B8} (hg:g.length=64):(sK s g).length=s.k∧mN (sK s g):=by
 unfold sK
 exact ⟨by rw [D8,wZ],Iq (zh (by have:=hs.e1; omega) (by rw [List.length_drop]; omega) _ _)⟩
theorem anC {s:iG} (hs:zM s) {g:List B8} (hg:g.length=64):(eK s g).length=s.k∧mN (eK s g):=by
 unfold eK
 exact ⟨by rw [D8,wZ],Iq (zh (by have:=hs.e1; omega) (by rw [List.length_drop]; omega) _ _)⟩
theorem RX (k:Nat) (cO:List B8) (s e:List (List Int)):(tK k cO s e).length=k:=by unfold tK; simp
theorem SC (k:Nat) (cO:List B8) (s e:List (List Int)):mN (tK k cO s e):=fun l hl=>by
 unfold tK at hl
 obtain ⟨i,_,rfl⟩:=List.mem_map.1 hl
 exact Eu _ _
theorem ai3 {s:iG} (hs:zM s) {g:List B8} (hg:g.length=64):(Cn s g).length=384 * s.k+32:=by
 unfold Cn
 rw [List.length_append,IA (SC _ _ _ _),RX,List.length_take]; omega
theorem ai4 {s:iG} (hs:zM s) {g:List B8} (hg:g.length=64):(Co s g).length=384 * s.k:=by
 unfold Co
 rw [IA (SB hs hg).2,(SB hs hg).1]
theorem ahC (set:Int) (x:ah) (d:List B8) (hd:d.length≤100000) (w:World) (hx:Bytes w x d) :
  Ok Pr PN [.int .i64 set,.slice x.a x.n x.c] w fun v w'=>∃ (y z:ah) (er:Value),v=.tuple ⟨[.slice y.a y.n y.c,.slice z.a z.n z.c,er]⟩∧
   ak w [] w' [.row aX 1 y (bp (qu set d)),.row aX 1 z (bp (wo set d)),aD.err er (uA set d.length)]:=by
 refine agp ?_
 unfold Qm
 rw [xx]
 have bU:=hx.len
 have hC:uA set d.length=if isSet set=true then (if d.length=32 then 0 else 3) else 2:=rfl
 have hV:qu set d=if uA set d.length=0 then Cn (dG set) (gK (dG set) d) else []:=by unfold qu; rfl
 have hS:wo set d=if uA set d.length=0 then Co (dG set) (gK (dG set) d) else []:=by unfold wo; rfl
 have TM:=fun h:isSet set=true=>ny h
 refine aB (y9 set w) ?_
 rintro _ w1 ⟨rfl,m1⟩
 have H:=(ak.start w).frame m1
 generalize qu set d=V at *
 generalize wo set d=K at *
 generalize uA set d.length=C at *
 generalize dG set=s at *
 refine ⟨_,rfl,zD ⟨_,rfl,rfl,H.nw fun p w2 H _=>H.iY 0 rfl rfl fun w3 H=>?_⟩⟩
 have H:ak w [] w3 [.av p s.cells iw]:=H
 have no:∀ (c:Int),c≠0→C=c→ay Pr pG [.int .i64 c] w3 fun Gk w4=>∃ (y z:ah) (er:Value),Value.tuple ⟨[.slice none 0 0,.slice none 0 0,Gk]⟩=.tuple ⟨[.slice y.a y.n y.c,.slice z.a z.n z.c,er]⟩∧
   ak w [] w4 [.row aX 1 y (bp V),.row aX 1 z (bp K),aD.err er C]:=by
  intro c hc iq
  rw [iq] at hV hS
  rw [if_neg hc] at hV hS
  subst hV hS
  refine aB (Bh c hc w3) ?_
  rintro e w4 ⟨h,m4⟩
  rw [iq]
  exact ⟨⟨none,0,0⟩,⟨none,0,0⟩,e,rfl,((((ak.start w).iZ aX 1).iZ aX 1).frame H.mod).gH m4 h⟩
 cases cH:isSet set with
 | false=>
  rw [cH,if_neg (by decide)] at hC
  exact ite_true rfl (no 2 (by decide) hC)
 | true=>
  rw [cH,if_pos rfl] at hC
  refine ite_false rfl ?_
  by_cases kH:d.length=32
  case neg=>
   rw [if_neg kH] at hC
   exact ite_true (by rw [decide_eq_false (show ¬ ((x.n:Nat):Int)=32 by omega)]; rfl) (no 3 (by decide) hC)
  rw [if_pos kH] at hC
  clear no
  subst hC
  rw [if_pos rfl] at hV hS
  subst hV hS
  have hG:=TM cH
  have hk:=hG.k
  refine ite_false (by rw [decide_eq_true (show ((x.n:Nat):Int)=32 by omega)]; rfl) (H.an 0 rfl (au p 0) rfl ?_)
  rw [Rj]
  refine H.nw fun p1 w4 H _=>H.nw fun p2 w5 H _=>?_
  have FT:=H.Rb 1 (l:=[BitVec.ofNat 8 s.k]) rfl
  refine aB (LL ⟨some ⟨p2,0,none⟩,2,2⟩ [d,[BitVec.ofNat 8 s.k]] _ (e8.zU (H.av 2 rfl) (by simp) (hx.aG H.mod) (jW _) FT (jW _)) (zA rfl (by omega) (by show (1:Nat)≤_; omega))) ?_
  rintro _ w6 ⟨g,rfl,hg,m6⟩
  rw [show [d,[BitVec.ofNat 8 s.k]].flatten=d ++ [BitVec.ofNat 8 s.k] by simp] at hg
  have hGl:(gK s d).length=64:=tw 72 6 _ 64 (by omega)
  change Own w6 w5.heap.size aX 1 g (bp (gK s d)) at hg
  generalize gK s d=G at *
  have H:=((H.cG m6 hg).drew).drew
  have C2:=(H.bytes 3 rfl).len
  have hgc:=(H.bytes 3 rfl).cap
  refine bW (IP 32 rfl (by omega) fun zr hzr hr=>zC 32 rfl (by omega) fun zk hzk oZ=>?_)
  have hr:=fun w' (h:Bytes w' g G)=>hr w' G h (by omega)
  have oZ:=fun w' (h:Bytes w' g G)=>oZ w' G h (by omega)
  have J0:(G.drop 32).length=32:=by rw [List.length_drop]; omega
  have C1:(G.take 32).length=32:=by rw [List.length_take]; omega
  obtain ⟨B1,hB1⟩:∃ r:aD,r=.av p1 (bp [BitVec.ofNat 8 s.k]) aX:=⟨_,rfl⟩
  obtain ⟨B2,J1⟩:∃ r:aD,r=.av p2 [x.v,.slice (some ⟨p1,0,none⟩) 1 1] bJ:=⟨_,rfl⟩
  have H:ak w [] w6.drew.drew [.av p s.cells iw,B1,B2,.row aX 1 g (bp G)]:=by rw [hB1,J1]; exact H
  clear hB1 J1 FT
  have TN:=zh (eta:=s.e1) (by have:=hG.e1; omega) J0 0 s.k
  have le2:=zh (eta:=s.e1) (by have:=hG.e1; omega) J0 s.k s.k
  have nl1:=wZ s.e1 (G.drop 32) 0 s.k
  have nl2:=wZ s.e1 (G.drop 32) s.k s.k
  refine H.an 0 rfl (au p 1) rfl (H.an 0 rfl (au p 0) rfl (H.an 0 rfl (au p 1) rfl (H.an 0 rfl (au p 0) rfl (H.an 0 rfl (au p 0) rfl ?_))))
  refine aB (HC s.e1 zk (G.drop 32) 0 s.k (by omega) (by omega) (by omega) _ (oZ _ (H.bytes 3 rfl))) ?_
  rintro _ w7 ⟨y1,rfl,sM⟩
  obtain ⟨f1,H1⟩:=H.iy sM
  refine bW ⟨H.jY 0 rfl sM.mod 0,H.jY 0 rfl sM.mod 0,H.jY 0 rfl sM.mod 1,aB (HD y1 _ (by omega) TN _ (H1.box 4 rfl)) ?_⟩
  rintro _ w8 ⟨y2,rfl,sN⟩
  obtain ⟨f2,H2⟩:=H1.iy sN
  refine bW ⟨H1.jY 0 rfl sN.mod 0,H1.jY 0 rfl sN.mod 0,H1.jY 0 rfl sN.mod 1,aB (HC s.e1 zk (G.drop 32) s.k s.k (by omega) (by omega) (by omega) _ (oZ _ (H2.bytes 3 rfl))) ?_⟩
  rintro _ w9 ⟨y3,rfl,Gl⟩
  obtain ⟨f3,H3⟩:=H2.iy Gl
  refine bW (aB (HD y3 _ (by omega) le2 _ (H3.box 6 rfl)) ?_)
  rintro _ cM ⟨y4,rfl,TO⟩
  obtain ⟨f4,H⟩:=H3.iy TO
  clear H1 H2 H3
  refine bW (H.mZ 0 rfl (aB (VV s (by omega) zr (G.take 32) C1 false _ (hr _ (H.bytes 3 rfl))) ?_))
  rintro _ cZ ⟨y5,rfl,Gm⟩
  obtain ⟨f5,H⟩:=H.iy Gm
  have uB:=SB hG hGl
  have J8:=anC hG hGl
  have hS:fL cZ y2 (sK s G):=H.box 5 rfl
  have hE:fL cZ y4 (eK s G):=H.box 7 rfl
  have hM:zZ cZ y5 (pQ (G.take 32) s.k false s.k):=H.box 8 rfl
  have TP:=mL.len hM
  rw [Ej] at TP
  have eS:Cn s G=xR (tK s.k (G.take 32) (sK s G) (eK s G)) ++ G.take 32:=by unfold Cn; rfl
  have eO:Co s G=xR (sK s G):=by unfold Co; rfl
  rw [eS,eO]
  clear eS eO
  obtain ⟨SK,hSK⟩:∃ z,z=sK s G:=⟨_,rfl⟩
  rw [← hSK] at hS uB ⊢
  generalize eK s G=EK at *
  refine bW ?_
  have rows:=fun i=>Rl (G.take 32) s.k false i
  obtain ⟨f,hf⟩:∃ f:Nat→List Int,f=fun i=>pZ (qX (nD (G.take 32) s.k false i) SK) (EK.getD i []):=⟨_,rfl⟩
  have htK:tK s.k (G.take 32) SK EK=(List.range s.k).map f:=by rw [hf]; rfl
  refine k7 0 s.k (fun i (out:ah) w'=>hO dS fo cZ [] [] w' out ((List.range i).map f)) rfl (by omega) (hO.start (ak.start cZ)) ?_ ?_
  ·intro again i out fV _ hi C aM
   have mi:=C.mod
   rw [J7] at aM
   have F7:i<(pQ (G.take 32) s.k false s.k).length:=by rw [Ej]; exact hi
   refine ite_true (decide_eq_true (by omega)) (mL.ld (hM.aG mi) (i:=i) F7 rfl (d:=[]) fun r iT=>?_)
   rw [WX hi] at iT
   have TQ:=mi.trans (Mod.drew [] fV)
   refine (hE.aG TQ).ld (i:=i) (by omega) rfl fun e he=>?_
   have iT:=(iT.aG (Mod.drew [] fV):fL fV.drew r _)
   refine aB (HA r y2 _ SK (by rw [(rows i).1,uB.1]) (by rw [(rows i).1]; omega) (by rw [(rows i).1]; omega) (rows i).2 uB.2 _ iT (hS.aG TQ)) ?_
   rintro _ fO ⟨q,rfl,hq,js⟩
   refine bW ⟨(hE.aG TQ).kept (by omega) js,aB (DX q e _ _ (IL _ _ (by rw [(rows i).1,uB.1])) (J8.2.get (by omega)) _ hq.dJ (he.aG js)) ?_⟩
   rintro _ gu yp
   obtain ⟨t,rfl,ht⟩:=yp.aay
   have C:=(C.frame (Mod.drew [] fV)).frame js
   have ef:pZ (qX (nD (G.take 32) s.k false i) SK) (EK.getD i [])=f i:=by rw [hf]
   rw [ef] at ht
   refine bW (C.add ht BH (by rw [List.length_map,List.length_range]; omega) fun lC kJ C'=>⟨⟨by omega,by omega⟩,aM lC kJ C'⟩)
  ·intro again out fV C
   rw [← htK] at C
   obtain ⟨f6,H⟩:=H.iy (C.boxed.mono fun w h=>Iz h)
   have hT:fL fV out (tK s.k (G.take 32) SK EK):=H.box 9 rfl
   refine ite_false (decide_eq_false (by omega)) (aB (Wo out _ (by rw [RX]; omega) (SC _ _ _ _) _ hT) ?_)
   rintro _ fO ⟨a,rfl,ha,js⟩
   have H:=H.cG js ha
   have wk:=(H.bytes 10 rfl).len
   have TR:=IA (SC s.k (G.take 32) SK EK)
   rw [RX] at TR
   refine bW (H.vH 10 iK rfl (hr _ (H.bytes 3 rfl)) (by omega) fun a' gu H _=>?_)
   refine aB (Wo y2 SK (by omega) uB.2 _ (by rw [hSK]; exact H.box 5 rfl)) ?_
   rintro _ kJ ⟨b,rfl,hb,AG⟩
   have H:=H.cG AG hb
   exact bW ⟨a',b,.nilIface,rfl,(H.drop 10).gH (Mod.refl _ _) (qN _ _)⟩
end Go.Proofs.YtgjoehgomjgckaaGreatDoor
end
section
set_option linter.unusedVariables false
set_option linter.unusedSimpArgs false
namespace Go.Proofs.YtgjoehgomjgckaaGreatDoor
open Go Go.Ev
set_option maxRecDepth 20000
set_option linter.unusedVariables false
theorem XD {k:Nat} {b:List B8} (h:ot 12 k b=true):mN (gG 12 k b):=fun l hl=>by
 unfold ot at h
 rw [decide_eq_true (rfl:12=12),Bool.not_true,Bool.false_or,List.all_eq_true] at h
 exact XA.1 (h l hl)
def yK (s:iG) (r:List B8):List (List Int):=nt (oH s.e1 r 0 s.k)
def nK (s:iG) (r:List B8):List (List Int):=oH s.e2 r s.k (s.k+1)
def cU (s:iG) (cO:List B8) (y n:List (List Int)) (i:Nat):List Int:=pZ (qS (qX (nD cO s.k true i) y)) (n.getD i [])
def cV (s:iG) (t y n:List (List Int)) (m:List B8):List Int:=pZ (pZ (qS (qX t y)) (n.getD s.k [])) (Fz m)
@[irreducible] def Jo (s:iG) (b m r:List B8):List B8:=((List.range s.k).flatMap fun i=>lK s.du (cU s (b.drop (384 * s.k)) (yK s r) (nK s r) i)) ++ lK s.dv (cV s (gG 12 s.k b) (yK s r) (nK s r) m)
def AH (set:Int) (b m r:List B8):Int:=if iI set b=0 then (if m.length=32∧r.length=32 then 0 else 3) else iI set b
@[irreducible] def uC (set:Int) (b m r:List B8):List B8:=if AH set b m r=0 then Jo (dG set) b m r else []
theorem XE {set:Int} {b:List B8} (h:iI set b=0):isSet set=true∧b.length=384 * (dG set).k+32∧ot 12 (dG set).k b=true:=by
 unfold iI at h
 cases cH:isSet set with
 | false=>rw [cH,if_neg (by decide)] at h; exact absurd h (by decide)
 | true=>
  have hA:iH set=384 * (dG set).k+32:=by unfold iH; rw [if_pos cH]
  rw [cH,if_pos rfl] at h
  split at h
  ·split at h
   ·rename_i h1 h2; exact ⟨rfl,by rw [h1,hA],h2⟩
   ·exact absurd h (by decide)
  ·exact absurd h (by decide)
theorem anD {s:iG} (hs:zM s) {r:List B8} (hr:r.length=32):(yK s r).length=s.k∧mN (yK s r):=by
 unfold yK
 exact ⟨by rw [D8,wZ],Iq (zh (by have:=hs.e1; omega) hr _ _)⟩
theorem anE {s:iG} (hs:zM s) {r:List B8} (hr:r.length=32):(nK s r).length=s.k+1∧mN (nK s r):=by
 unfold nK
 exact ⟨wZ _ _ _ _,zh (by have:=hs.e2; omega) hr _ _⟩
theorem VW (d:Nat) (f:Nat→List Int) (hf:∀ i,Pq (f i)) (n:Nat):((List.range n).flatMap fun i=>lK d (f i)).length=32 * d * n:=by
 induction n with
 | zero=>rfl
 | succ n ih=>rw [List.range_succ,List.flatMap_append,List.length_append,ih]; simp [IS (hf n).len,Nat.mul_succ]
theorem anF (s:iG) (cO:List B8) (y n:List (List Int)) (i:Nat):Pq (cU s cO y n i):=Eu _ _
theorem anG (s:iG) (t y n:List (List Int)) (m:List B8):Pq (cV s t y n m):=Eu _ _
theorem VX (set:Int) (x xm xr:ah) (b m r:List B8) (w:World) (hx:Bytes w x b) (hm:Bytes w xm m) (hr:Bytes w xr r) :
  Ok Pr HL [.int .i64 set,.slice x.a x.n x.c,.slice xm.a xm.n xm.c,.slice xr.a xr.n xr.c] w fun v w'=>jA aX 1 w w' v (bp (uC set b m r)) (AH set b m r):=by
 refine ago ?_
 unfold Ql
 rw [xx]
 have bU:=hx.len
 have Tx:=hm.len
 have C1:=hr.len
 have hC:AH set b m r=if iI set b=0 then (if m.length=32∧r.length=32 then 0 else 3) else iI set b:=rfl
 have hV:uC set b m r=if AH set b m r=0 then Jo (dG set) b m r else []:=by unfold uC; rfl
 generalize AH set b m r=C at *
 generalize uC set b m r=V at *
 refine aB (Wp set x b w hx) ?_
 rintro e w1 ⟨he,m1⟩
 by_cases h0:iI set b=0
 case neg=>
  rw [if_neg h0] at hC
  rw [hC,if_neg h0] at hV
  subst hV
  rw [hC]
  refine he.1.isNil (ite_true (by rw [decide_eq_false h0]; rfl) (jA.no he m1))
 obtain ⟨cH,jP,dV⟩:=XE h0
 have hG:=ny cH
 have hk:=hG.k
 rw [if_pos h0] at hC
 refine he.1.isNil (ite_false (by rw [decide_eq_true h0]; rfl) ?_)
 by_cases kH:m.length=32∧r.length=32
 case neg=>
  rw [if_neg kH] at hC
  rw [hC,if_neg (by decide)] at hV
  subst hV
  rw [hC]
  refine ite_true ?_ (aB (Bh 3 (by decide) w1) ?_)
  ·by_cases h:m.length=32
   ·rw [decide_eq_false (show ¬ ((xr.n:Nat):Int)=32 by omega),Bool.not_false,Bool.or_true]
   ·rw [decide_eq_false (show ¬ ((xm.n:Nat):Int)=32 by omega)]; rfl
  ·rintro e2 w2 ⟨h2,m2⟩
   exact jA.no ⟨h2.1,fun b hb=>by have:=h2.2 b hb; have:=m1.size; omega⟩ (m1.trans m2)
 rw [if_pos kH] at hC
 rw [hC,if_pos rfl] at hV
 subst hV
 rw [hC]
 clear hC
 obtain ⟨kH,Ak⟩:=kH
 refine ite_false (by rw [decide_eq_true (show ((xr.n:Nat):Int)=32 by omega),decide_eq_true (show ((xm.n:Nat):Int)=32 by omega)]; rfl) (aB (y9 set w1) ?_)
 rintro _ w2 ⟨rfl,m2⟩
 have H:=(ak.start w).frame (m1.trans m2)
 rw [cH]
 generalize dG set=s at *
 refine ⟨_,rfl,zD ⟨_,rfl,rfl,H.nw fun p w3 H _=>H.iY 0 rfl rfl fun w5 H=>?_⟩⟩
 have H:ak w [] w5 [.av p s.cells iw]:=H
 refine H.an 0 rfl (au p 0) rfl (aB (HB 12 s.k (by omega) (by omega) (by omega) x b (by omega) (by omega) _ (hx.aG H.mod)) ?_)
 rintro _ w6 (⟨_,yt,rfl,TS⟩ | ⟨dz,_⟩)
 case inr=>rw [dz] at dV; cases dV
 obtain ⟨f0,H⟩:=H.iy TS.box
 have H:=H.drew
 have TN:=zh (eta:=s.e1) (by have:=hG.e1; omega) Ak 0 s.k
 have nl1:=wZ s.e1 r 0 s.k
 refine ⟨_,rfl,_,rfl,_,rfl,rfl,H.an 0 rfl (au p 1) rfl (H.an 0 rfl (au p 0) rfl (H.an 0 rfl (au p 2) rfl (H.an 0 rfl (au p 0) rfl (H.an 0 rfl (au p 0) rfl ⟨⟨by omega,by omega⟩,?_⟩))))⟩
 refine aB (HC s.e1 xr r 0 s.k (by omega) (by omega) (by omega) _ (hr.aG H.mod)) ?_
 rintro _ w7 ⟨y1,rfl,sM⟩
 obtain ⟨f1,H1⟩:=H.iy sM
 refine bW ⟨H.jY 0 rfl sM.mod 0,H.jY 0 rfl sM.mod 0,H.jY 0 rfl sM.mod 2,aB (HD y1 _ (by omega) TN _ (H1.box 2 rfl)) ?_⟩
 rintro _ w8 ⟨y2,rfl,sN⟩
 obtain ⟨f2,H2⟩:=H1.iy sN
 refine bW ⟨H1.jY 0 rfl sN.mod 0,H1.jY 0 rfl sN.mod 0,H1.jY 0 rfl sN.mod 2,?_⟩
 rw [show (s.k:Int)+1=((s.k+1:Nat):Int) by omega]
 refine aB (HC s.e2 xr r s.k (s.k+1) (by omega) (by omega) (by omega) _ (hr.aG H2.mod)) ?_
 rintro _ w9 ⟨y3,rfl,Gl⟩
 obtain ⟨f3,H⟩:=H2.iy Gl
 clear H1 H2
 have H:=H.drew
 refine bW (H.mZ 0 rfl (H.an 0 rfl (au p 0) rfl ⟨⟨by omega,by omega⟩,zC (384 * s.k) (by omega) (by omega) fun zr hzr kr=>?_⟩))
 have kr:=fun w' h=>kr w' b h (by omega)
 have aov:(b.drop (384 * s.k)).length=32:=by rw [List.length_drop]; omega
 refine aB (VV s (by omega) zr (b.drop (384 * s.k)) aov true _ (kr _ (hx.aG H.mod))) ?_
 rintro _ cM ⟨y5,rfl,Gm⟩
 obtain ⟨f5,H⟩:=H.iy Gm
 have uB:=anD hG Ak
 have J8:=anE hG Ak
 have JC:=XD dV
 have lT:=QV 12 s.k b
 have hT:fL cM yt (gG 12 s.k b):=H.box 1 rfl
 have hS:fL cM y2 (yK s r):=H.box 3 rfl
 have hE:fL cM y3 (nK s r):=H.box 4 rfl
 have hM:zZ cM y5 (pQ (b.drop (384 * s.k)) s.k true s.k):=H.box 5 rfl
 have TP:=mL.len hM
 rw [Ej] at TP
 have eC:Jo s b m r=((List.range s.k).flatMap fun i=>lK s.du (cU s (b.drop (384 * s.k)) (yK s r) (nK s r) i)) ++ lK s.dv (cV s (gG 12 s.k b) (yK s r) (nK s r) m):=by unfold Jo; rfl
 rw [eC]
 clear eC
 have H:ak w [] cM [.av p s.cells iw,.box f0 fun w=>fL w yt (gG 12 s.k b),.box f1 fun w=>fL w y1 (oH s.e1 r 0 s.k),.box f2 fun w=>fL w y2 (yK s r),.box f3 fun w=>fL w y3 (nK s r),.box f5 fun w=>zZ w y5 (pQ (b.drop (384 * s.k)) s.k true s.k)]:=H
 generalize oH s.e1 r 0 s.k=L1 at *
 generalize yK s r=Y at *
 generalize nK s r=N at *
 generalize b.drop (384 * s.k)=cO at *
 generalize gG 12 s.k b=T at *
 have rows:=fun i=>Rl cO s.k true i
 have hdu:=hG.du
 have hdv:=hG.dv
 refine bW ?_
 obtain ⟨f,hf⟩:∃ f:Nat→List Int,f=cU s cO Y N:=⟨_,rfl⟩
 rw [← hf]
 have J9:∀ i,Pq (f i):=fun i=>by rw [hf]; exact anF _ _ _ _ _
 refine k7 0 s.k (fun i (out:ah) w'=>ak cM [] w' [.row aX 1 out (bp ((List.range i).flatMap fun i=>lK s.du (f i)))]) rfl (by omega) (by simpa [bp] using (ak.start cM).iZ aX 1) ?_ ?_
 ·intro again i out cZ _ hi D aM
  have hs:((List.range (i+1)).flatMap fun i=>lK s.du (f i))=((List.range i).flatMap fun i=>lK s.du (f i)) ++ lK s.du (f i):=by rw [List.range_succ,List.flatMap_append]; simp
  rw [hs] at aM
  have hlen:=VW s.du f J9 i
  have anH:32 * s.du * i≤32 * 11 * 4:=Nat.mul_le_mul (by omega) (by omega)
  have wk:=(D.bytes 0 rfl).len
  generalize ((List.range i).flatMap fun i=>lK s.du (f i))=A at *
  have F7:i<(pQ cO s.k true s.k).length:=by rw [Ej]; exact hi
  have m0:=D.mod
  have Hw:=(H.frame D.mod).drew
  have D:=D.drew
  have mi:=D.mod
  refine ite_true (decide_eq_true (by omega)) (mL.ld (hM.aG m0) (i:=i) F7 rfl (d:=[]) fun q iT=>?_)
  rw [WX hi] at iT
  refine Hw.an 0 rfl (au p 3) rfl ((hE.aG mi).ld (i:=i) (by omega) rfl fun e he=>?_)
  have iT:=(iT.aG (Mod.drew [] cZ):fL cZ.drew q _)
  refine aB (HA q y2 _ Y (by rw [(rows i).1,uB.1]) (by rw [(rows i).1]; omega) (by rw [(rows i).1]; omega) (rows i).2 uB.2 _ iT (hS.aG mi)) ?_
  rintro _ fV ⟨d1,rfl,rz,kK⟩
  have D:=D.cG kK rz
  have Hx:=Hw.frame kK
  refine bW ⟨(hE.aG mi).kept (by omega) kK,Hw.jY 0 rfl kK 3,aB (N8 d1 _ (IL _ _ (by rw [(rows i).1,uB.1])) _ rz.dJ) ?_⟩
  rintro _ fO ⟨d2,rfl,sJ,js⟩
  have D:=D.cG js sJ
  have Hy:=Hx.frame js
  refine bW ⟨(hE.aG (mi.trans kK)).kept (by omega) js,Hx.jY 0 rfl js 3,aB (DX d2 e _ _ (Rg _) (J8.2.get (by omega)) _ sJ.dJ (he.aG (kK.trans js))) ?_⟩
  rintro _ gu ⟨d3,rfl,wq,sO⟩
  have D:=D.cG sO wq
  have ef:pZ (qS (qX (nD cO s.k true i) Y)) (N.getD i [])=f i:=by rw [hf]; rfl
  rw [ef] at wq
  refine bW ⟨Hy.jY 0 rfl sO 3,aB (No s.du (by omega) (by omega) d3 (f i) (J9 i).len _ wq.dJ) ?_⟩
  rintro _ kJ ⟨z,rfl,hz,AG⟩
  have D:=D.cG AG hz
  have qo:=hz.bytes.len
  have dU:=IS (d:=s.du) (J9 i).len
  exact bW (D.vH 0 iK rfl hz.bytes (by omega) fun o' mO D _=>⟨⟨by omega,by omega⟩,aM o' mO D.front⟩)
 ·intro again out cZ D
  have hlen:=VW s.du f J9 s.k
  have anH:32 * s.du * s.k≤32 * 11 * 4:=Nat.mul_le_mul (by omega) (by omega)
  have wk:=(D.bytes 0 rfl).len
  generalize ((List.range s.k).flatMap fun i=>lK s.du (f i))=A at *
  have H:=(H.join D).drew
  have mi:=(D.drew).mod
  refine ite_false (decide_eq_false (by omega)) (H.an 0 rfl (au p 0) rfl ((hE.aG mi).ld (i:=s.k) (by omega) rfl fun e he=>aB (HA yt y2 T Y (by omega) (by omega) (by omega) JC uB.2 _ (hT.aG mi) (hS.aG mi)) ?_))
  rintro _ fV ⟨d1,rfl,rz,kK⟩
  have H1:=H.cG kK rz
  refine bW ⟨(hE.aG mi).kept (by omega) kK,H.jY 0 rfl kK 0,aB (N8 d1 _ (IL _ _ (by omega)) _ rz.dJ) ?_⟩
  rintro _ fO ⟨d2,rfl,sJ,js⟩
  have H2:=H1.cG js sJ
  refine bW ⟨(hE.aG (mi.trans kK)).kept (by omega) js,H1.jY 0 rfl js 0,aB (DX d2 e _ _ (Rg _) (J8.2.get (by omega)) _ sJ.dJ (he.aG (kK.trans js))) ?_⟩
  rintro _ gu ⟨d3,rfl,wq,sO⟩
  have H:=H2.cG sO wq
  refine bW (aB (afn xm m kH _ (hm.aG H.mod)) ?_)
  rintro _ kJ ⟨d4,rfl,hd4,AG⟩
  have H:=H.cG AG hd4
  refine bW (aB (DX d3 d4 _ _ (Eu _ _) (alc kH) _ (H.dJ 9 rfl) hd4.dJ) ?_)
  rintro _ mO ⟨d5,rfl,TT,m16⟩
  have H:=H.cG m16 TT
  change Own mO kJ.heap.size bH 1 d5 (cu (cV s T Y N m)) at TT
  have pV:Pq (cV s T Y N m):=anG _ _ _ _ _
  refine bW (H.an 0 rfl (au p 4) rfl (aB (No s.dv (by omega) (by omega) d5 _ pV.len _ TT.dJ) ?_))
  rintro _ yq ⟨z,rfl,hz,TU⟩
  have H:=H.cG TU hz
  have qo:=hz.bytes.len
  have dU:=IS (d:=s.dv) pV.len
  refine bW (H.vH 6 iK rfl hz.bytes (by omega) fun o' kV H _=>?_)
  exact jA.yes (H.fS 6 rfl) H.mod
def wu (set:Int) (b c:List B8):Int:=if isSet set=true then (if b.length=jr set∧c.length=oq set then (if ot 12 (dG set).k b=true then 0 else 4) else 3) else 2
def EX (s:iG) (b c:List B8):List Int:=JB ((sq s.dv 1 (c.drop (32 * s.du * s.k))).getD 0 []) (qS (qX (gG 12 s.k b) (nt (sq s.du s.k c))))
@[irreducible] def Cq (s:iG) (b c:List B8):List B8:=lK 1 (EX s b c)
@[irreducible] def AI (set:Int) (b c:List B8):List B8:=if wu set b c=0 then Cq (dG set) b c else []
theorem ai5 (s:iG) (b c:List B8):(Cq s b c).length=32:=by
 unfold Cq; rw [IS (show (EX s b c).length=256 from (Yt _ _).len)]
theorem ahD (set:Int) (x xc:ah) (b c:List B8) (w:World) (hx:Bytes w x b) (hc:Bytes w xc c) :
  Ok Pr PM [.int .i64 set,.slice x.a x.n x.c,.slice xc.a xc.n xc.c] w fun v w'=>jA aX 1 w w' v (bp (AI set b c)) (wu set b c):=by
 refine agn ?_
 unfold Qk
 rw [xx]
 have bU:=hx.len
 have Ka:=hc.len
 have hC:wu set b c=if isSet set=true then (if b.length=jr set∧c.length=oq set then (if ot 12 (dG set).k b=true then 0 else 4) else 3) else 2:=rfl
 have hV:AI set b c=if wu set b c=0 then Cq (dG set) b c else []:=by unfold AI; rfl
 have hB:jr set=384 * (dG set).k:=rfl
 have hZ:oq set=32 * ((dG set).du * (dG set).k+(dG set).dv):=rfl
 have TM:=fun h:isSet set=true=>ny h
 have j5:=Hp set
 generalize wu set b c=C at *
 generalize AI set b c=V at *
 generalize jr set=B at *
 generalize oq set=Z at *
 refine aB (y9 set w) ?_
 rintro _ w1 ⟨rfl,m1⟩
 have H:=(ak.start w).frame m1
 generalize dG set=s at *
 refine ⟨_,rfl,zD ⟨_,rfl,rfl,H.nw fun p w2 H _=>H.iY 0 rfl rfl fun w3 H=>?_⟩⟩
 have H:ak w [] w3 [.av p s.cells iw]:=H
 have no:∀ {L:List aD} {w4:World} (e:Int),ak w [] w4 L→e≠0→C=e→ay Pr pG [.int .i64 e] w4 fun v w5=>jA aX 1 w w5 (.tuple ⟨[.slice none 0 0,v]⟩) (bp V) C:=by
  intro L w4 e H he hCe
  rw [hCe,if_neg he] at hV
  subst hV
  rw [hCe]
  refine aB (Bh e he w4) ?_
  rintro v w5 ⟨h,m⟩
  exact jA.no ⟨h.1,fun b hb=>by have:=h.2 b hb; have:=H.mod.size; omega⟩ (H.mod.trans m)
 cases cH:isSet set with
 | false=>
  rw [cH,if_neg (by decide)] at hC
  exact ite_true rfl (no 2 H (by decide) hC)
 | true=>
  rw [cH,if_pos rfl] at hC
  have hG:=TM cH
  have hk:=hG.k
  have hdu:=hG.du
  have hdv:=hG.dv
  refine ite_false rfl (aB (j5 w3) ?_)
  rintro _ w5 ⟨rfl,m5⟩
  have H:=H.frame m5
  refine ⟨_,rfl,_,rfl,_,rfl,_,rfl,rfl,?_⟩
  by_cases hn:b.length=B∧c.length=Z
  case neg=>
   rw [if_neg hn] at hC
   refine ite_true ?_ (no 3 H (by decide) hC)
   by_cases h:b.length=B
   ·rw [decide_eq_false (show ¬ ((xc.n:Nat):Int)=((Z:Nat):Int) by omega),Bool.not_false,Bool.or_true]
   ·rw [decide_eq_false (show ¬ ((x.n:Nat):Int)=((B:Nat):Int) by omega)]; rfl
  rw [if_pos hn] at hC
  obtain ⟨hn,qk⟩:=hn
  have hdk:s.du * s.k≤11 * 4:=Nat.mul_le_mul (by omega) hk.2
  refine ite_false (by rw [decide_eq_true (show ((xc.n:Nat):Int)=((Z:Nat):Int) by omega),decide_eq_true (show ((x.n:Nat):Int)=((B:Nat):Int) by omega)]; rfl) (H.an 0 rfl (au p 0) rfl (aB (HB 12 s.k (by omega) (by omega) (by omega) x b (by omega) (by omega) _ (hx.aG H.mod)) ?_))
  rintro _ w7 (⟨dV,yt,rfl,TS⟩ | ⟨dz,rfl,m7⟩)
  case inr=>
   rw [dz,if_neg (by decide)] at hC
   exact ⟨_,rfl,⟨none,0,0⟩,rfl,_,rfl,rfl,ite_true rfl (no 4 (H.frame m7) (by decide) hC)⟩
  rw [if_pos dV] at hC
  rw [hC,if_pos rfl] at hV
  subst hV
  rw [hC]
  clear hC no
  obtain ⟨f0,H⟩:=H.iy TS.box
  have e1:32 * (s.du:Int) * (s.k:Int)=((32 * s.du * s.k:Nat):Int):=by simp only [Int.natCast_mul]; rfl
  have e2:32 * s.du * s.k=32 * (s.du * s.k):=Nat.mul_assoc _ _ _
  refine ⟨_,rfl,_,rfl,_,rfl,rfl,ite_false rfl (H.an 0 rfl (au p 3) rfl ⟨⟨by omega,by omega⟩,H.an 0 rfl (au p 0) rfl ?_⟩)⟩
  rw [e1]
  have H:=H.drew
  refine ⟨⟨by omega,by omega⟩,H.an 0 rfl (au p 3) rfl (H.an 0 rfl (au p 0) rfl (H.an 0 rfl (au p 4) rfl (zC (32 * s.du * s.k) rfl (by omega) fun zc qn kc=>?_)))⟩
  have kc:=fun w' h=>kc w' c h (by omega)
  have Kb:(c.drop (32 * s.du * s.k)).length=32 * s.dv:=by rw [List.length_drop]; omega
  refine aB (U3 s.du s.k (by omega) (by omega) (by omega) xc c (by omega) (by omega) _ (hc.aG H.mod)) ?_
  rintro _ w9 ⟨yu,rfl,hyu⟩
  obtain ⟨f1,H1⟩:=H.iy hyu
  have pu:=YA (d:=s.du) (many:=s.k) (by omega) (by omega) (b:=c) (by omega)
  have pv:=YA (d:=s.dv) (many:=1) (by omega) (by omega) (b:=c.drop (32 * s.du * s.k)) (by omega)
  have lu:=Rk s.du s.k c
  have lv:=Rk s.dv 1 (c.drop (32 * s.du * s.k))
  refine bW ⟨H.jY 0 rfl hyu.mod 4,aB (U3 s.dv 1 (by omega) (by omega) (by omega) zc _ (by omega) (by omega) _ (kc _ (hc.aG H1.mod))) ?_⟩
  rintro _ cM ⟨yv,rfl,hyv⟩
  obtain ⟨f2,H⟩:=H1.iy hyv
  have H:=H.drew
  have JC:=XD dV
  have lT:=QV 12 s.k b
  have eC:Cq s b c=lK 1 (EX s b c):=by unfold Cq; rfl
  have eW:EX s b c=JB ((sq s.dv 1 (c.drop (32 * s.du * s.k))).getD 0 []) (qS (qX (gG 12 s.k b) (nt (sq s.du s.k c)))):=rfl
  rw [eC]
  clear eC
  generalize sq s.dv 1 (c.drop (32 * s.du * s.k))=SV at *
  generalize sq s.du s.k c=SU at *
  generalize gG 12 s.k b=T at *
  have hV:fL cM.drew yv SV:=H.box 3 rfl
  refine bW (hV.ld (i:=0) (by omega) rfl fun v0 hv0=>aB (HD yu SU (by omega) pu _ (H.box 2 rfl)) ?_)
  rintro _ cZ ⟨yo,rfl,Gn⟩
  obtain ⟨f3,H⟩:=H.iy Gn
  have lo:=D8 SU
  refine bW ⟨hV.kept (i:=0) (by omega) Gn.mod,aB (HA yt yo T (nt SU) (by omega) (by omega) (by omega) JC (Iq pu) _ (H.box 1 rfl) (H.box 4 rfl)) ?_⟩
  rintro _ fV ⟨d1,rfl,rz,kK⟩
  have H:=H.cG kK rz
  refine bW ⟨(hV.aG Gn.mod).kept (i:=0) (by omega) kK,aB (N8 d1 _ (IL _ _ (by omega)) _ rz.dJ) ?_⟩
  rintro _ fO ⟨d2,rfl,sJ,js⟩
  have H:=H.cG js sJ
  have mm:=Gn.mod.trans (kK.trans js)
  refine bW ⟨(hV.aG (Gn.mod.trans kK)).kept (i:=0) (by omega) js,aB (ahv v0 d2 _ _ (pv.get (by omega)) (Rg _) _ (hv0.aG mm) sJ.dJ) ?_⟩
  rintro _ gu ⟨d3,rfl,wq,sO⟩
  have H:=H.cG sO wq
  rw [← eW] at wq
  have pW:Pq (EX s b c):=Yt _ _
  refine bW (aB (No 1 (by omega) (by omega) d3 _ pW.len _ wq.dJ) ?_)
  rintro _ kJ ⟨z,rfl,hz,AG⟩
  have H:=H.cG AG hz
  exact bW (jA.yes (H.fS 8 rfl) H.mod)
end Go.Proofs.YtgjoehgomjgckaaGreatDoor
end
section
set_option linter.unusedVariables false
set_option linter.unusedSimpArgs false
namespace Go.Ev
open Go Go.RowKit
theorem Own.shrink {w:World} {lo:Nat} {e:TypeId} {sz:Nat} {s:ah} {vs:List Value} (h:Own w lo e sz s vs) (k:Nat) (hk:k≤s.n):Own w lo e sz ⟨s.a,k,s.c⟩ (vs.take (k * sz)):=by
 obtain ⟨a,n,c⟩:=s
 obtain ⟨hl,h1 | ⟨g,cap,cur,h1,h2,h3,h4,h5,h6,h7⟩⟩:=h
 ·obtain ⟨h1,h2⟩:=h1
  simp only [ah.v,Value.slice.injEq] at h1
  obtain ⟨rfl,rfl,rfl⟩:=h1
  have hk0:k=0:=by simpa using hk
  subst hk0
  rw [Nat.zero_mul,List.take_zero]
  exact Own.nil w lo e sz
 ·simp only [ah.v,Value.slice.injEq] at h1
  obtain ⟨rfl,hn,rfl⟩:=h1
  have fH:k≤n:=hk
  refine ⟨?_,.inr ⟨g,c,cur,rfl,h2,h3,Nat.le_trans fH h4,h5,h6,?_⟩⟩
  ·rw [List.length_take,hl]
   exact Nat.min_eq_left (Nat.mul_le_mul_right _ fH)
  ·rw [← h7,List.take_take]
   congr 1
   exact (Nat.min_eq_left (Nat.mul_le_mul_right _ fH)).symm
end Go.Ev
namespace Go.Proofs.YtgjoehgomjgckaaGreatDoor
open Go Go.Ev
set_option maxRecDepth 20000
set_option linter.unusedVariables false
theorem acN {A:Type} (ls:List (List A)) (i:Nat) (h:i<ls.length):(ls.take (i+1)).flatten.length=(ls.take i).flatten.length+(ls.getD i []).length:=by
 rw [kY _ _ h [],List.flatten_append,List.length_append]; simp
theorem WY {A:Type} {l:List (List A)} {i:Nat} (hi:i<l.length):l.getD i []∈l:=by
 rw [List.getD_eq_getElem?_getD,List.getElem?_eq_getElem hi]; exact List.getElem_mem hi
theorem YB:fk Pr bJ aX 1 1:=.of (by kernel_rfl)
theorem aj4:Pr.underlying bH=some (.int .i64):=by kernel_rfl
theorem aci (n:Nat) (hn:n≤1000000) (w:World):Ok Pr KN [.slice none 0 0,.int .i64 (n:Int)] w fun v w'=>∃ y:ah,v=.slice y.a y.n y.c∧Own w' w.heap.size aX 1 y []∧Mod [] w w':=by
 refine ab8 (s:=⟨none,0,0⟩) ?_
 unfold KP
 refine jJ fun go bY=>ite_false (decide_eq_false (by omega)) (bY w ⟨⟨by decide,by decide⟩,⟨by show _≤(n:Int) - (0 - 0); omega,by show (n:Int) - (0 - 0)≤_; omega⟩,rN ?_⟩)
 refine bV (fun hc=>?_) (fun hc=>?_)
 ·refine ⟨⟨by decide,by decide⟩,?_⟩
  have H:=(ak.start w).iZ aX 1
  refine H.ans (s:=⟨none,0,0⟩) (q:=.i64) (m:=n) (v:=.int .u8 0) (vs:=[]) 0 YB aj4 (by kernel_rfl) rfl rfl (by show (n:Int) - (0 - 0)=n; omega) (by show (0+n) * 1≤_; omega) (by show 0+n≤_; omega) fun y w2 H2 hy=>?_
  refine ⟨⟨by decide,by show (0:Int)≤(y.c:Int); omega⟩,⟨y.a,0,y.c⟩,rfl,?_,H2.mod⟩
  have:=(H2.fS 0 rfl).shrink 0 (Nat.zero_le _)
  simpa using this
 ·exact ⟨⟨none,0,0⟩,rfl,Own.nil _ _ _ _,Mod.refl _ _⟩
theorem ab9 (x:ah) (ls:List (List B8)) (hl:ls.length≤1000) (Gj:∀ i,(ls.take i).flatten.length≤1000000) (hb:∀ l∈ls,l.length≤1000000) (w:World) (hx:e8 w [] x ls):Ok Pr KG [.slice x.a x.n x.c] w fun v w'=>nN w w' v ls.flatten:=by
 refine ab4 ?_
 unfold KI
 have bU:=hx.len
 refine k7 0 ls.length (fun i (s:Int) w'=>s=((ls.take i).flatten.length:Int)∧w'=w) rfl (by omega) ⟨rfl,rfl⟩ ?_ ?_
 ·rintro again i _ w1 _ hi ⟨rfl,hw⟩ aM
  subst hw
  refine ite_true (decide_eq_true (by omega)) (hx.ld hi fun y hy _=>?_)
  have jU:=hy.len
  have h1:=Gj i
  have h2:=hb _ (WY hi)
  have h3:=acN ls i hi
  exact ⟨⟨by omega,by omega⟩,ite_false (decide_eq_false (by omega)) ⟨⟨by omega,by omega⟩,aM _ _ ⟨by omega,rfl⟩⟩⟩
 ·rintro again _ w1 ⟨rfl,hw⟩
  subst hw
  rw [List.take_of_length_le (Nat.le_refl _)]
  have h1:=Gj ls.length
  rw [List.take_of_length_le (Nat.le_refl _)] at h1
  refine ite_false (decide_eq_false (by omega)) (aB (aci _ (by omega) _) ?_)
  rintro _ w2 ⟨y,rfl,hy,m2⟩
  have H:=(ak.start w1).cG m2 hy
  refine bW ?_
  refine k7 0 ls.length (fun i (s:ah) w'=>ak w1 [] w' [.row aX 1 s (bp (ls.take i).flatten)]) rfl (by omega) H ?_ ?_
  ·intro k9 i s w3 _ hi H aM
   have dU:=(H.bytes 0 rfl).len
   refine ite_true (decide_eq_true (by omega)) ((hx.mod H.mod).ld hi fun z hz _=>?_)
   have qo:=hz.len
   have h2:=Gj i
   have h3:=hb _ (WY hi)
   refine H.vH 0 YB rfl hz (by omega) fun s' w4 H _=>⟨⟨by omega,by omega⟩,aM s' w4 ?_⟩
   rw [kY _ _ hi [],List.flatten_append]
   simpa using H
  ·intro k9 s w3 H
   rw [List.take_of_length_le (Nat.le_refl _)] at H
   exact ite_false (decide_eq_false (by omega)) ⟨s,rfl,H.fS 0 rfl,H.mod⟩
end Go.Proofs.YtgjoehgomjgckaaGreatDoor
end
section
set_option linter.unusedVariables false
set_option linter.unusedSimpArgs false
namespace Go.Ev
open Go Go.RowKit
set_option linter.unusedVariables false
def Cut (w:World) (y:ah) (l:List B8):Prop:=(y=⟨none,0,0⟩∧l=[])∨∃ g cur t,y.a=some ⟨g,0,none⟩∧bX w g cur t∧y.n=l.length∧y.n≤y.c∧(y.c≤maxLen∧t=Go.Proofs.YtgjoehgomjgckaaGreatDoor.aX∧(y.c=y.n∧y.c≤cur.length∨y.c=cur.length))∧cur.take y.n=bp l
theorem Cut.bytes {w:World} {y:ah} {l:List B8} (h:Cut w y l):Bytes w y l:=by
 rcases h with ⟨rfl,rfl⟩ | ⟨g,cur,t,h1,h2,h3,h4,h5,h6⟩
 ·exact Sl.nil w 1
 ·refine ⟨by rw [yW]; omega,h4,fun _=>by rw [h1]; rfl,fun i v hv=>?_⟩
  show w.cell? (Addr.add (base y.a) i)=some v
  rw [h1]
  show w.cell? (Addr.add ⟨g,0,none⟩ i)=some v
  rw [tM,Nat.zero_add,h2.cell]
  rw [← h6,List.getElem?_take] at hv
  split at hv
  ·exact hv
  ·cases hv
def aD.cut (y:ah) (l:List B8):aD where
 fp:=y.row
 ok w:=Cut w y l
 kC w w' h k:=by
  rcases k with k | ⟨g,cur,t,h1,h2,h3⟩
  ·exact .inl k
  ·exact .inr ⟨g,cur,t,h1,(h g (by simp [ah.row,h1])).trans h2,h3⟩
 lt w h b hb:=by
  rcases h with ⟨rfl,_⟩ | ⟨g,cur,t,h1,h2,_⟩
  ·simp [ah.row] at hb
  ·simp only [ah.row,h1,List.mem_singleton] at hb
   subst hb
   exact h2.lt
theorem ak.Zy {w0 w:World} {S:List Nat} {L:List aD} (H:ak w0 S w L) (k:Nat) {y:ah} {l:List B8} (hk:L[k]? = some (.row Go.Proofs.YtgjoehgomjgckaaGreatDoor.aX 1 y (bp l))) (n:Nat) (hn:0<n) (Tr:n≤l.length):ak w0 S w (L.set k (.cut ⟨y.a,n,n⟩ (l.take n))):=by
 refine H.less k hk ?_ (fun b hb=>hb)
 obtain ⟨hl,h1 | ⟨g,cap,cur,h1,h2,h3,h4,h5,h6,h7⟩⟩:=H.ok k _ hk
 ·have:=h1.2
  rw [this,yW] at hl
  omega
 ·simp only [ah.v,Value.slice.injEq] at h1
  rw [yW] at hl
  have hy:y.a=some ⟨g,0,none⟩:=h1.1
  refine .inr ⟨g,cur.toList,Go.Proofs.YtgjoehgomjgckaaGreatDoor.aX,hy,h3,?_,Nat.le_refl _,⟨by show n≤_; omega,rfl,.inl ⟨rfl,by show n≤cur.toList.length; rw [Array.length_toList]; omega⟩⟩,?_⟩
  ·show n=_
   rw [List.length_take]; omega
  ·show cur.toList.take n=_
   rw [← Iy,← h7,List.take_take,Nat.min_eq_left (by omega)]
theorem ak.EJ {w0 w:World} {S:List Nat} {L:List aD} (H:ak w0 S w L) (k:Nat) {y:ah} {l:List B8} (hk:L[k]? = some (.row Go.Proofs.YtgjoehgomjgckaaGreatDoor.aX 1 y (bp l))):ak w0 S w (L.set k (.cut y l)):=by
 refine H.less k hk ?_ (fun b hb=>hb)
 obtain ⟨hl,h1 | ⟨g,cap,cur,h1,h2,h3,h4,h5,h6,h7⟩⟩:=H.ok k _ hk
 ·obtain ⟨h1,h2⟩:=h1
  rw [h2,yW] at hl
  obtain ⟨a,n,c⟩:=y
  simp only [ah.v,Value.slice.injEq] at h1
  obtain ⟨rfl,rfl,rfl⟩:=h1
  exact .inl ⟨rfl,List.length_eq_zero_iff.1 (by omega)⟩
 ·simp only [ah.v,Value.slice.injEq] at h1
  rw [yW,Nat.mul_one] at hl
  have hy:y.a=some ⟨g,0,none⟩:=h1.1
  refine .inr ⟨g,cur.toList,Go.Proofs.YtgjoehgomjgckaaGreatDoor.aX,hy,h3,hl.symm,by rw [h1.2.2]; exact h4,⟨by rw [h1.2.2]; exact h5,rfl,.inr (by rw [h1.2.2,Array.length_toList]; omega)⟩,?_⟩
  rw [← h7,Nat.mul_one]
end Go.Ev
namespace Go.Proofs.YtgjoehgomjgckaaGreatDoor
open Go Go.Ev
set_option maxRecDepth 20000
set_option linter.unusedVariables false
theorem Bj (e:Value) (c d:Int) (w:World) (h:fW w e c):Ok Pr Bl [e,.iface qH (.int .i64 d)] w fun v w'=>v=.bool (decide (c=d) && !decide (c=0))∧w'=w:=by
 rcases h with ⟨rfl,rfl⟩ | ⟨b,s,rfl,hb,hc⟩
 ·refine Calls.mono (ahP d w) ?_
  rintro _ _ ⟨rfl,rfl⟩
  exact ⟨_,rfl,by simp,rfl⟩
 ·have nC:w.cell? ⟨b,0,none⟩=some (.int .i64 c):=by rw [hb.cell]; rfl
  by_cases vO:c=d
  ·subst vO
   refine Calls.mono (XZ b c w nC) ?_
   rintro _ _ ⟨rfl,rfl⟩
   exact ⟨_,rfl,by simp [hc],rfl⟩
  ·refine Calls.mono (ahf b c d vO w nC) ?_
   rintro _ _ ⟨rfl,rfl⟩
   exact ⟨_,rfl,by simp [vO],rfl⟩
theorem DN (c:Int) (hc:c≠0) (w:World):Ok Pr mX [.int .i64 c] w fun v w'=>cP w w' v c∧Mod [] w w':=by
 refine afi ?_
 unfold Pe
 exact qM fun b w' hb h1 h2 _=>⟨cP.mk h1 (by omega) hc,h2⟩
theorem BM {w w1 w2:World} {e:Value} {c:Int} (h:cP w1 w2 e c) (m:Mod [] w w1):cP w w2 e c:=⟨h.1,fun b hb=>by
 have:=h.2 b hb
 have:=m.size
 omega⟩
def o5 (set:Int):Nat:=if isSet set=true then iH set+jr set+64 else 0
theorem AJ {set:Int} (h:isSet set=true):iH set=384 * (dG set).k+32∧jr set=384 * (dG set).k∧o5 set=768 * (dG set).k+96∧oq set=32 * ((dG set).du * (dG set).k+(dG set).dv):=by
 have hA:iH set=384 * (dG set).k+32:=by unfold iH; rw [if_pos h]
 have hB:jr set=384 * (dG set).k:=rfl
 refine ⟨hA,hB,?_,rfl⟩
 unfold o5
 rw [if_pos h,hA,hB]; omega
theorem szN {set:Int} (h:isSet set=false):iH set=0∧jr set=0∧o5 set=0∧oq set=0:=by
 have hk:=noK h
 refine ⟨by unfold iH; rw [h]; rfl,by unfold jr; simp [hk],by unfold o5; rw [h]; rfl,by unfold oq; simp [hk]⟩
theorem VE (set:Int) (w:World):Ok Pr Hs [.int .i64 set] w fun v w'=>v=.tuple ⟨[.int .i64 (iH set:Int),.int .i64 (o5 set:Int),.int .i64 (oq set:Int)]⟩∧Mod [] w w':=by
 refine afh ?_
 unfold Pd
 refine aB (Hp set w) ?_
 rintro _ w1 ⟨rfl,m1⟩
 refine ⟨_,rfl,_,rfl,_,rfl,_,rfl,rfl,?_⟩
 cases cH:isSet set with
 | false=>
  obtain ⟨h1,h2,h3,h4⟩:=szN cH
  rw [h1,h3,h4]
  exact ite_true rfl ⟨rfl,m1⟩
 | true=>
  obtain ⟨h1,h2,h3,h4⟩:=AJ cH
  have hk:=(ny cH).k
  refine ite_false (decide_eq_false (by omega)) ⟨⟨by omega,by omega⟩,⟨by omega,by omega⟩,?_,m1⟩
  rw [show (iH set:Int)+(jr set:Int)+64=(o5 set:Int) by omega]
def pO (set:Int) (l:List B8):List B8:=l.take (jr set)
def pS (set:Int) (l:List B8):List B8:=(l.drop (jr set)).take (iH set)
def pH (set:Int) (l:List B8):List B8:=(l.drop (iH set+jr set)).take 32
def pR (set:Int) (l:List B8):List B8:=l.drop (iH set+jr set+32)
theorem al5:zc Pr rH=[.slice none 0 0,.slice none 0 0,.slice none 0 0,.slice none 0 0]:=by kernel_rfl
theorem VF (set:Int) (cH:isSet set=true) (x:ah) (hn:x.n=o5 set) (hc:x.n≤x.c) (w:World):Ok Pr Ht [.int .i64 set,.slice x.a x.n x.c] w fun v w'=>∃ x0 x1 x2 x3:ah,v=.agg ⟨[.slice x0.a x0.n x0.c,.slice x1.a x1.n x1.c,.slice x2.a x2.n x2.c,.slice x3.a x3.n x3.c]⟩∧Mod [] w w'∧
  ∀ w2 l,Bytes w2 x l→Bytes w2 x0 (pO set l)∧Bytes w2 x1 (pS set l)∧Bytes w2 x2 (pH set l)∧Bytes w2 x3 (pR set l):=by
 refine afj ?_
 unfold Pf
 rw [al5]
 obtain ⟨h1,h2,h3,h4⟩:=AJ cH
 have hk:=(ny cH).k
 refine (ak.start w).nw fun p w1 H _=>aB (Hp set w1) ?_
 rintro _ w2 ⟨rfl,m2⟩
 have H:=(H.frame m2).drew
 refine ⟨_,rfl,_,rfl,_,rfl,_,rfl,rfl,IP (jr set) rfl (by omega) fun x0 n0 k0=>⟨⟨by omega,by omega⟩,XC (jr set) (iH set+jr set) rfl (by omega) (by omega) (by omega) fun x1 n1 k1=>⟨⟨by omega,by omega⟩,⟨by omega,by omega⟩,⟨by omega,by omega⟩,XC (iH set+jr set) (iH set+jr set+32) (by omega) (by omega) (by omega) (by omega) fun x2 n2 k2=>⟨⟨by omega,by omega⟩,⟨by omega,by omega⟩,zC (iH set+jr set+32) (by omega) (by omega) fun x3 n3 k3=>?_⟩⟩⟩⟩
 refine H.wX 0 rfl rfl fun w3 H=>H.D0 0 rfl ⟨x0,x1,x2,x3,rfl,H.mod,fun w2 l hl=>?_⟩
 have TR:=hl.len
 refine ⟨k0 w2 l hl (by omega),?_,?_,k3 w2 l hl (by omega)⟩
 ·have:=k1 w2 l hl (by omega)
  rwa [Nat.add_sub_cancel] at this
 ·have:=k2 w2 l hl (by omega)
  rwa [Nat.add_sub_cancel_left] at this
def mP (set:Int) (n:Nat):Int:=if isSet set=true then (if n=64 then 0 else 3) else 2
@[irreducible] def jt (set:Int) (aq:List B8):List B8:=if mP set aq.length=0 then qu set (aq.take 32) else []
@[irreducible] def uD (set:Int) (aq:List B8):List B8:=if mP set aq.length=0 then wo set (aq.take 32) ++ qu set (aq.take 32) ++ fh 136 6 (qu set (aq.take 32)) 32 ++ aq.drop 32 else []
theorem al6 {set:Int} (cH:isSet set=true) {d:List B8} (hd:d.length=32):uA set d.length=0∧(qu set d).length=iH set∧(wo set d).length=jr set:=by
 have hc:uA set d.length=0:=by unfold uA; rw [if_pos cH,if_pos hd]
 obtain ⟨h1,h2,h3,h4⟩:=AJ cH
 have hg:(gK (dG set) d).length=64:=tw 72 6 _ 64 (by omega)
 refine ⟨hc,?_,?_⟩
 ·unfold qu; rw [if_pos hc,ai3 (ny cH) hg,h1]
 ·unfold wo; rw [if_pos hc,ai4 (ny cH) hg,h2]
theorem ahE (set:Int) (x:ah) (aq:List B8) (w:World) (hx:Bytes w x aq) :
  Ok Pr PL [.int .i64 set,.slice x.a x.n x.c] w fun v w'=>∃ (y z:ah) (er:Value),v=.tuple ⟨[.slice y.a y.n y.c,.slice z.a z.n z.c,er]⟩∧
   ak w [] w' [.row aX 1 y (bp (jt set aq)),.row aX 1 z (bp (uD set aq)),aD.err er (mP set aq.length)]:=by
 refine agm ?_
 unfold Qj
 rw [xx]
 have bU:=hx.len
 have uu:=hx.cap
 have hC:mP set aq.length=if isSet set=true then (if aq.length=64 then 0 else 3) else 2:=rfl
 have hV:jt set aq=if mP set aq.length=0 then qu set (aq.take 32) else []:=by unfold jt; rfl
 have hS:uD set aq=if mP set aq.length=0 then wo set (aq.take 32) ++ qu set (aq.take 32) ++ fh 136 6 (qu set (aq.take 32)) 32 ++ aq.drop 32 else []:=by unfold uD; rfl
 generalize jt set aq=V at *
 generalize uD set aq=K at *
 generalize mP set aq.length=C at *
 refine aB (y9 set w) ?_
 rintro _ w1 ⟨rfl,m1⟩
 have H:=(ak.start w).frame m1
 refine ⟨_,rfl,zD ⟨_,rfl,rfl,H.nw fun p w2 H _=>H.iY 0 rfl rfl fun w3 H=>?_⟩⟩
 have no:∀ (c:Int),c≠0→C=c→ay Pr mX [.int .i64 c] w3 fun Gk w4=>∃ (y z:ah) (er:Value),Value.tuple ⟨[.slice none 0 0,.slice none 0 0,Gk]⟩=.tuple ⟨[.slice y.a y.n y.c,.slice z.a z.n z.c,er]⟩∧
   ak w [] w4 [.row aX 1 y (bp V),.row aX 1 z (bp K),aD.err er C]:=by
  intro c hc iq
  rw [iq] at hV hS
  rw [if_neg hc] at hV hS
  subst hV hS
  refine aB (DN c hc w3) ?_
  rintro e w4 ⟨h,m4⟩
  rw [iq]
  exact ⟨⟨none,0,0⟩,⟨none,0,0⟩,e,rfl,((((ak.start w).iZ aX 1).iZ aX 1).frame H.mod).gH m4 h⟩
 cases cH:isSet set with
 | false=>
  rw [cH,if_neg (by decide)] at hC
  exact ite_true rfl (no 2 (by decide) hC)
 | true=>
  rw [cH,if_pos rfl] at hC
  refine ite_false rfl ?_
  by_cases g8:aq.length=64
  case neg=>
   rw [if_neg g8] at hC
   exact ite_true (by rw [decide_eq_false (show ¬ ((x.n:Nat):Int)=64 by omega)]; rfl) (no 3 (by decide) hC)
  rw [if_pos g8] at hC
  clear no
  subst hC
  rw [if_pos rfl] at hV hS
  subst hV hS
  have kH:(aq.take 32).length=32:=by rw [List.length_take]; omega
  obtain ⟨c0,lA,lB⟩:=al6 cH kH
  obtain ⟨h1,h2,h3,h4⟩:=AJ cH
  have hk:=(ny cH).k
  refine ite_false (by rw [decide_eq_true (show ((x.n:Nat):Int)=64 by omega)]; rfl) (IP 32 rfl (by omega) fun xd nd kd=>aB (ahC set xd (aq.take 32) (by omega) w3 (kd _ aq (hx.aG H.mod) (by omega))) ?_)
  rw [c0]
  rintro _ w6 ⟨y,z,er,rfl,D⟩
  have H:=(H.join D).drew
  have he:=D.err 2 rfl
  generalize qu set (aq.take 32)=A at *
  generalize wo set (aq.take 32)=B at *
  refine ⟨_,rfl,y,rfl,z,rfl,rfl,he.isNil (ite_false rfl (zC 32 rfl (by omega) fun xr nr kr=>H.nw fun p1 w7 H _=>?_))⟩
  refine aB (LK ⟨some ⟨p1,0,none⟩,1,1⟩ [A] _ (e8.JM (H.av 4 rfl) (by simp) (H.bytes 1 rfl) (jW _)) (RR rfl (by omega))) ?_
  rintro _ w8 ⟨g,rfl,hg,m8⟩
  rw [show [A].flatten=A by simp] at hg
  have hgl:=tw 136 6 A 32 (by omega)
  rw [show ((32:Nat):Int)=32 from rfl] at hgl
  have H:=H.cG m8 hg
  refine bW (H.nw fun p2 w9 H _=>?_)
  generalize hR:fh 136 6 A 32=R at *
  refine aB (ab9 ⟨some ⟨p2,0,none⟩,4,4⟩ [B,A,R,aq.drop 32] (by show 4≤1000; omega) (fun i=>?_) (fun l hl=>?_) _ ?_) ?_
  ·have e:(([B,A,R,aq.drop 32]:List (List B8)).take i).flatten.length≤([B,A,R,aq.drop 32]:List (List B8)).flatten.length:=by
    conv=>rhs; rw [← List.take_append_drop i [B,A,R,aq.drop 32],List.flatten_append,List.length_append]
    omega
   refine Nat.le_trans e ?_
   simp only [List.flatten_cons,List.flatten_nil,List.length_append,List.length_nil,List.length_drop]
   omega
  ·simp only [List.mem_cons,List.not_mem_nil,or_false] at hl
   have Kb:(aq.drop 32).length=32:=by rw [List.length_drop]; omega
   rcases hl with rfl | rfl | rfl | rfl <;> omega
  ·refine e8.ofs (ss:=[z,y,g,xr]) (H.av 6 rfl) (by simp) rfl fun i s l hs hl=>?_
   match i with
   | 0=>simp at hs hl; subst hs hl; exact ⟨H.bytes 2 rfl,jW _⟩
   | 1=>simp at hs hl; subst hs hl; exact ⟨H.bytes 1 rfl,jW _⟩
   | 2=>simp at hs hl; subst hs hl; exact ⟨H.bytes 5 rfl,jW _⟩
   | 3=>simp at hs hl; subst hs hl; exact ⟨kr _ aq (hx.aG H.mod) (by omega),jW _⟩
   | k+4=>simp at hs
  rintro _ cM ⟨u,rfl,hu,Gp⟩
  have eU:[B,A,R,aq.drop 32].flatten=B ++ A ++ R ++ aq.drop 32:=by simp
  rw [eU] at hu
  have H:=H.cG Gp hu
  exact bW ⟨y,u,.nilIface,rfl,(H.two 1 7 rfl rfl (by omega)).gH (Mod.refl _ _) (qN _ _)⟩
theorem U4 (set:Int) (x:ah) (b:List B8) (w:World) (hx:Bytes w x b):Ok Pr G8 [.int .i64 set,.slice x.a x.n x.c] w fun v w'=>cP w w' v (iI set b)∧Mod [] w w':=by
 refine adV ?_
 unfold Nl
 refine aB (Wp set x b w hx) ?_
 rintro e w1 ⟨he,m1⟩
 have jo:iI set b=0∨iI set b=2∨iI set b=3∨iI set b=4:=by
  unfold iI
  split
  ·split
   ·split
    ·exact .inl rfl
    ·exact .inr (.inr (.inr rfl))
   ·exact .inr (.inr (.inl rfl))
  ·exact .inr (.inl rfl)
 generalize iI set b=c at *
 refine aB (Bj e c 2 w1 he.1) ?_
 rintro _ w2 ⟨rfl,hw⟩
 subst hw
 have fault:∀ d:Int,d≠0→ay Pr mX [.int .i64 d] w2 fun v w3=>cP w w3 v d∧Mod [] w w3:=fun d hd=>by
  refine aB (DN d hd w2) ?_
  rintro v w3 ⟨h,m⟩
  exact ⟨BM h m1,m1.trans m⟩
 rcases jo with rfl | rfl | rfl | rfl
 ·refine bz (ite_false rfl (aB (Bj e 0 3 w2 he.1) ?_))
  rintro _ w4 ⟨rfl,hw⟩
  subst hw
  refine bz (ite_false rfl (aB (Bj e 0 4 w4 he.1) ?_))
  rintro _ w6 ⟨rfl,hw⟩
  subst hw
  exact bz (ite_false rfl ⟨he,m1⟩)
 ·exact bz (ite_true rfl (fault 2 (by decide)))
 ·refine bz (ite_false rfl (aB (Bj e 3 3 w2 he.1) ?_))
  rintro _ w4 ⟨rfl,hw⟩
  subst hw
  exact bz (ite_true rfl (fault 3 (by decide)))
 ·refine bz (ite_false rfl (aB (Bj e 4 3 w2 he.1) ?_))
  rintro _ w4 ⟨rfl,hw⟩
  subst hw
  refine bz (ite_false rfl (aB (Bj e 4 4 w4 he.1) ?_))
  rintro _ w6 ⟨rfl,hw⟩
  subst hw
  exact bz (ite_true rfl (fault 4 (by decide)))
end Go.Proofs.YtgjoehgomjgckaaGreatDoor
end
section
set_option linter.unusedVariables false
set_option linter.unusedSimpArgs false
namespace Go.Proofs.YtgjoehgomjgckaaGreatDoor
open Go Go.Ev
set_option maxRecDepth 100000
set_option linter.unusedVariables false
def Np (b:ah) (ns:ah) (w:World) (R:Value→World→Prop):Prop:=
 ay Pr s6 [.slice b.a b.n b.c] w fun a c=>
 aU a fun d=>
 iA (fun (e:ah) (f:Int)=>[(0,some (.slice e.a e.n e.c)),(12,some (.int .i64 f))])
 (fun g e f i=>aA (decide (f<(ns.n:Int)))
 (aQ ns.a f ns.n
 (an .i64 (Addr.add (base ns.a) (Int.toNat f * 1)) i fun j=>
 iA (fun (k:ah) (l:Int)=>[(0,some (.slice k.a k.n k.c)),(7,some (.int .i64 l))])
 (fun m k l n=>aA (decide (0≤l))
 (gX l (nw aX [.int .u8 (IntKind.wrap .u8 (shr .u64 (IntKind.wrap .u64 (j)) l))] n fun o p=>
 cJ Pr [bJ,bJ] bJ [.slice k.a k.n k.c,.slice (some o) 1 1] p fun q s=>
 (aF (l - 8)∧
 m q (l - 8) s)))
 ((aF (f+1)∧
 g k (f+1) n)))
 e 56 i))
 (R (.slice e.a e.n e.c) i))
 d 0 c
theorem adY {b:ah} {ns:ah} {w:World} {R:Value→World→Prop} (h:Np b ns w R):Ok Pr G7 [.slice b.a b.n b.c,.slice ns.a ns.n ns.c] w R:=
 aL (m:=⟨true,true⟩) (J:=[]) (L:=[(3,[(0,.sl),(12,.int .i64)]),(6,[(0,.sl),(7,.int .i64)])]) aJ Tryz.func165 (by kernel_rfl) ((by kernel_rfl:aK Pr _ _ _ Tryz.f165 _ w R=Np b ns w R).mpr h)
def Ol (b:ah) (parts:ah) (w:World) (R:Value→World→Prop):Prop:=
 ay Pr s6 [.slice b.a b.n b.c] w fun a c=>
 aU a fun d=>
 iA (fun (e:ah) (f:Int)=>[(0,some (.slice e.a e.n e.c)),(11,some (.int .i64 f))])
 (fun g e f i=>aA (decide (f<(parts.n:Int)))
 (aQ parts.a f parts.n
 (ax (Addr.add (base parts.a) (Int.toNat f * 1)) i fun j=>
 nw bH [.int .i64 (j.n:Int)] i fun k l=>
 ay Pr G7 [.slice e.a e.n e.c,.slice (some k) 1 1] l fun m n=>
 aU m fun o=>
 cJ Pr [bJ,bJ] bJ [.slice o.a o.n o.c,.slice j.a j.n j.c] n fun p q=>
 (aF (f+1)∧
 g p (f+1) q)))
 (R (.slice e.a e.n e.c) i))
 d 0 c
theorem aeF {b:ah} {parts:ah} {w:World} {R:Value→World→Prop} (h:Ol b parts w R):Ok Pr A7 [.slice b.a b.n b.c,.slice parts.a parts.n parts.c] w R:=
 aL (m:=⟨true,true⟩) (J:=[]) (L:=[(3,[(0,.sl),(11,.int .i64)])]) aJ Tryz.func167 (by kernel_rfl) ((by kernel_rfl:aK Pr _ _ _ Tryz.f167 _ w R=Ol b parts w R).mpr h)
end Go.Proofs.YtgjoehgomjgckaaGreatDoor
end
section
set_option linter.unusedVariables false
set_option linter.unusedSimpArgs false
namespace Go.Proofs.YtgjoehgomjgckaaGreatDoor
open Go Go.Ev
set_option linter.unusedVariables false
theorem aic:Pr.underlying zn=some .string:=by kernel_rfl
theorem Uz (x:ah) (l:List B8) (hl:l.length≤1000000000) (w:World) (hx:Bytes w x l):Ok Pr s6 [.slice x.a x.n x.c] w fun v w'=>nN w w' v l:=by
 refine Uu ?_
 unfold GI
 have bU:=hx.len
 refine bV (fun h=>?_) (fun h=>?_)
 ·have h0:x.n=0:=by
   rcases Nat.eq_zero_or_pos x.n with e | e
   ·exact e
   ·have:=Sl.pre hx e
    cases ha:x.a with
    | none=>rw [ha] at this; cases this
    | some a=>rw [ha] at h; cases h
  obtain rfl:l=[]:=List.eq_nil_of_length_eq_zero (by omega)
  exact ⟨⟨none,0,0⟩,rfl,Own.nil _ _ _ _,Mod.refl _ _⟩
 ·refine (ak.start w).nw fun p w1 H _=>?_
  have H:=H.rM 0 1 0 0 rfl rfl (Nat.le_refl _) (by simp only [maxLen]; omega)
  refine H.vH (s:=⟨some ⟨p,0,none⟩,0,0⟩) (vs:=[]) 0 iK rfl (hx.aG H.mod) (by show 0+x.n≤_; omega) fun y w2 H hy=>?_
  exact ⟨y,rfl,H.fS 0 rfl,H.mod⟩
def be (n:Int):List B8:=(List.range 8).map fun k=>((BitVec.ofInt 64 n:aI) >>> (56 - 8 * k)).setWidth 8
def iW (ns:List Int):List B8:=(ns.map be).flatten
theorem Is (n:Int):(be n).length=8:=by simp [be]
theorem Qr (ns:List Int):(iW ns).length=8 * ns.length:=by
 induction ns with
 | nil=>rfl
 | cons a r ih=>
  show ((be a) ++ iW r).length=_
  rw [List.length_append,Is,ih,List.length_cons]
  omega
theorem aie (a b:List Int):iW (a ++ b)=iW a ++ iW b:=by simp [iW]
theorem ag0 (n:Int):IntKind.wrap .u64 n=((BitVec.ofInt 64 n).toNat:Int):=by
 rw [wrap_u64,BitVec.toNat_ofInt]
 omega
theorem ald (n:Int) (k:Nat) (hk:k<8) (s:Int) (hs:s=((56 - 8 * k:Nat):Int)):IntKind.wrap .u8 (shr .u64 (IntKind.wrap .u64 n) s)=(((be n).getD k 0).toNat:Int):=by
 subst hs
 rw [ag0,zL,aaq]
 simp [be,hk]
theorem U5 (x:ah) (l:List B8) (y:ah) (ns:List Int) (hl:l.length≤1000000) (hn:ns.length≤1000000) (w:World) (hx:Bytes w x l) (hy:dS w y ns) :
  Ok Pr G7 [.slice x.a x.n x.c,.slice y.a y.n y.c] w fun v w'=>nN w w' v (l ++ iW ns):=by
 refine adY ?_
 unfold Np
 have jU:=hy.len
 refine aB (Uz x l (by omega) w hx) ?_
 rintro _ w1 ⟨z,rfl,hz,m⟩
 have H:=(ak.start w).cG m hz
 refine bW (k7 0 ns.length (fun i (b:ah) w'=>ak w [] w' [.row aX 1 b (bp (l ++ iW (ns.take i)))]) rfl (by omega) (by simpa [iW] using H) ?_ ?_)
 ·intro again i b w2 _ hi H aM
  refine ite_true (decide_eq_true (by omega)) ((hy.aG H.mod).ld hi rfl ?_)
  have yl:iW (ns.take (i+1))=iW (ns.take i) ++ be (ns.getD i 0):=by rw [kY _ _ hi 0,aie]; simp [iW]
  have jP:=Qr (ns.take i)
  rw [List.length_take,Nat.min_eq_left (by omega)] at jP
  rw [yl] at aM
  generalize ns.getD i 0=n at *
  have Tr:=Is n
  refine xq (fun (b:ah) (s:Int) w'=>∃ j:Nat,j≤8∧s=56 - 8 * (j:Int)∧ak w [] w' [.row aX 1 b (bp (l ++ iW (ns.take i) ++ (be n).take j))]) (fun _ s _=>(s+8).toNat) ⟨0,by omega,by omega,by simpa using H⟩ ?_
  rintro k9 b s w3 ⟨j,hj,rfl,H⟩ iU
  have hb:=(H.bytes 0 rfl).len
  rw [List.length_append,List.length_append,List.length_take,Nat.min_eq_left (by omega)] at hb
  refine bV (fun hc=>?_) (fun hc=>?_)
  ·have hc:=of_decide_eq_true hc
   refine kM (by omega) (H.Rx 0 ((be n).getD j 0) iK rfl (ald n j (by omega) _ (by omega)) (by omega) fun b' w4 H _=>⟨⟨by omega,by omega⟩,iU _ _ w4 ⟨j+1,by omega,by omega,?_⟩ (by omega)⟩)
   rw [kY _ _ (by omega) 0,← List.append_assoc]
   exact H
  ·have hc:=of_decide_eq_false hc
   rw [List.take_of_length_le (l:=be n) (by omega),List.append_assoc] at H
   exact ⟨⟨by omega,by omega⟩,aM b w3 H⟩
 ·intro again b w2 H
  rw [List.take_length] at H
  exact ite_false (decide_eq_false (by omega)) ⟨b,rfl,H.fS 0 rfl,H.mod⟩
def laid (p:List B8):List B8:=be (p.length:Int) ++ p
def nF (ps:List (List B8)):List B8:=(ps.map laid).flatten
theorem ag1 (a b:List (List B8)):nF (a ++ b)=nF a ++ nF b:=by simp [nF]
theorem UW:∀ (ps:List (List B8)) (k:Nat),(∀ p∈ps,p.length≤k)→(nF ps).length≤ps.length * (k+8)
 | [],_,_=>by simp [nF]
 | p :: r,k,h=>by
  have h1:=UW r k fun q hq=>h q (List.mem_cons_of_mem _ hq)
  have h2:=h p List.mem_cons_self
  show (laid p ++ nF r).length≤_
  rw [List.length_append,laid,List.length_append,Is,List.length_cons,Nat.add_mul]
  omega
theorem ale (n:Int):iW [n]=be n:=by simp [iW]
theorem _root_.Go.Ev.ak.YC {w0 w:World} {S:List Nat} {L:List aD} (H:ak w0 S w L) (k:Nat) {b:Nat} {l:List Int} {t:TypeId} (hk:L[k]? = some (.av b (cu l) t)):dS w ⟨some ⟨b,0,none⟩,l.length,l.length⟩ l:=by
 have:=(H.av k hk).sl 1 l.length l.length (by simp) (Nat.le_refl _)
 rw [Nat.mul_one,List.take_of_length_le (by simp)] at this
 exact this
theorem agt (x:ah) (l:List B8) (y:ah) (ps:List (List B8)) (hl:l.length≤100000) (hn:ps.length≤10) (uy:∀ p∈ps,p.length≤10000) (w:World) (hx:Bytes w x l) (hy:e8 w [] y ps) :
  Ok Pr A7 [.slice x.a x.n x.c,.slice y.a y.n y.c] w fun v w'=>nN w w' v (l ++ nF ps):=by
 refine aeF ?_
 unfold Ol
 have jU:=hy.len
 refine aB (Uz x l (by omega) w hx) ?_
 rintro _ w1 ⟨z,rfl,hz,m⟩
 have H:=(ak.start w).cG m hz
 refine bW (k7 0 ps.length (fun i (b:ah) w'=>ak w [] w' [.row aX 1 b (bp (l ++ nF (ps.take i)))]) rfl (by omega) (by simpa [nF] using H) ?_ ?_)
 ·intro again i b w2 _ hi H aM
  have jP:=UW (ps.take i) 10000 fun p hp=>uy p (List.mem_of_mem_take hp)
  rw [List.length_take] at jP
  have yl:nF (ps.take (i+1))=nF (ps.take i) ++ laid (ps.getD i []):=by rw [kY _ _ hi [],ag1]; simp [nF]
  have Au:=uy (ps.getD i []) (by simp [hi])
  rw [yl] at aM
  have arN:min i ps.length * (10000+8)≤10 * (10000+8):=Nat.mul_le_mul_right _ (by omega)
  refine ite_true (decide_eq_true (by omega)) (hy.ld0 H.mod hi fun u hu _=>H.nw fun p w3 H _=>?_)
  have nY:=hu.len
  generalize ps.getD i []=pt at *
  have hbn:=(H.bytes 0 rfl).len
  simp only [List.length_append] at hbn
  refine aB (U5 b _ ⟨some ⟨p,0,none⟩,1,1⟩ [((u.n:Nat):Int)] (by rw [List.length_append]; omega) (by simp) _ (H.bytes 0 rfl) (H.YC 1 (l:=[((u.n:Nat):Int)]) rfl)) ?_
  rintro _ w4 ⟨q,rfl,hq,m4⟩
  have H:=H.cG m4 hq
  have hql:=hq.bytes.len
  simp only [List.length_append,Qr,List.length_cons,List.length_nil] at hql
  refine bW (H.vH 2 iK rfl (hu.aG H.mod) (by omega) fun b' w5 H _=>⟨⟨by omega,by omega⟩,aM b' w5 ?_⟩)
  have H:=H.only 2 rfl
  rw [ale,← nY,List.append_assoc,List.append_assoc] at H
  exact H
 ·intro again b w2 H
  rw [List.take_length] at H
  exact ite_false (decide_eq_false (by omega)) ⟨b,rfl,H.fS 0 rfl,H.mod⟩
end Go.Proofs.YtgjoehgomjgckaaGreatDoor
end
section
set_option linter.unusedVariables false
set_option linter.unusedSimpArgs false
namespace Go.Proofs.YtgjoehgomjgckaaGreatDoor
open Go Go.Ev
set_option maxRecDepth 100000
set_option linter.unusedVariables false
def LM (dP:Int) (dD:ah) (dF:ah) (cS:ah) (fu:ah) (fy:ah) (mw:Int) (j7:ah) (j8:ah) (gT:ah) (wv:ah) (wz:ah) (w:World) (R:Value→World→Prop):Prop:=
 nw aN [.int .i64 dP,.slice dD.a dD.n dD.c,.slice dF.a dF.n dF.c,.slice cS.a cS.n cS.c,.slice fu.a fu.n fu.c,.slice fy.a fy.n fy.c] w fun a b=>
 nw aN [.int .i64 mw,.slice j7.a j7.n j7.c,.slice j8.a j8.n j8.c,.slice gT.a gT.n gT.c,.slice wv.a wv.n wv.c,.slice wz.a wz.n wz.c] b fun c d=>
 jL []
 (fun e=>cX (fun (f:Int)=>[(5,some (.int .i64 f))])
 (fun g f i=>ax (Addr.add a 4) i fun j=>
 aA (decide (f<(j.n:Int)))
 (ax (Addr.add a 4) (World.drew i) fun k=>
 aQ k.a f k.n
 (bA (Addr.add (base k.a) (Int.toNat f * 4)) (World.drew i) fun l m n o=>
 ax (Addr.add c 4) (World.drew i) fun p=>
 aQ p.a f p.n
 (bA (Addr.add (base p.a) (Int.toNat f * 4)) (World.drew i) fun q s t u=>
 ay Pr Mq [.agg ⟨[.int .i64 l,.int .i64 m,.int .i64 n,.slice o.a o.n o.c]⟩,.agg ⟨[.int .i64 q,.int .i64 s,.int .i64 t,.slice u.a u.n u.c]⟩] (World.drew i) fun v x=>
 aW v fun y=>
 aA (!y)
 (R (.bool false) x)
 ((aF (f+1)∧
 g (f+1) x)))))
 (R (.bool true) i))
 0 e)
 (fun z=>
 an .i64 (Addr.add a 0) d fun A=>
 an .i64 (Addr.add c 0) d fun B=>
 ax (Addr.add a 1) d fun C=>
 ax (Addr.add c 1) d fun D=>
 aA (!decide (A=B))
 (ax (Addr.add a 2) d fun E=>
 ax (Addr.add c 2) d fun F=>
 ax (Addr.add a 3) d fun G=>
 ax (Addr.add c 3) d fun I=>
 ax (Addr.add a 4) d fun J=>
 ax (Addr.add c 4) d fun L=>
 ax (Addr.add a 5) d fun M=>
 ax (Addr.add c 5) d fun N=>
 R (.bool false) d)
 (ay Pr Dw [.slice C.a C.n C.c,.slice D.a D.n D.c] d fun O Q=>
 aW O fun S=>
 ax (Addr.add a 2) Q fun T=>
 ax (Addr.add c 2) Q fun U=>
 aA (!S)
 (ax (Addr.add a 3) Q fun V=>
 ax (Addr.add c 3) Q fun X=>
 ax (Addr.add a 4) Q fun Y=>
 ax (Addr.add c 4) Q fun Z=>
 ax (Addr.add a 5) Q fun aa=>
 ax (Addr.add c 5) Q fun ba=>
 R (.bool false) Q)
 (ay Pr KZ [.slice T.a T.n T.c,.slice U.a U.n U.c] Q fun ca da=>
 aW ca fun ea=>
 ax (Addr.add a 3) da fun fa=>
 ax (Addr.add c 3) da fun ga=>
 aA (!ea)
 (ax (Addr.add a 4) da fun ia=>
 ax (Addr.add c 4) da fun ja=>
 ax (Addr.add a 5) da fun ka=>
 ax (Addr.add c 5) da fun la=>
 R (.bool false) da)
 (ay Pr Lr [.slice fa.a fa.n fa.c,.slice ga.a ga.n ga.c] da fun ma na=>
 aW ma fun oa=>
 ax (Addr.add a 4) na fun pa=>
 ax (Addr.add c 4) na fun qa=>
 ax (Addr.add a 5) na fun sa=>
 ax (Addr.add c 5) na fun ta=>
 aA ((!oa) || (!decide ((pa.n:Int)=(qa.n:Int))))
 (R (.bool false) na)
 (ay Pr Lt [.slice sa.a sa.n sa.c,.slice ta.a ta.n ta.c] na fun ua va=>
 aW ua fun xa=>
 aA (!xa)
 (R (.bool false) va)
 (z va))))))
theorem acO {dP:Int} {dD:ah} {dF:ah} {cS:ah} {fu:ah} {fy:ah} {mw:Int} {j7:ah} {j8:ah} {gT:ah} {wv:ah} {wz:ah} {w:World} {R:Value→World→Prop} (h:LM dP dD dF cS fu fy mw j7 j8 gT wv wz w R):Ok Pr LD [.agg ⟨[.int .i64 dP,.slice dD.a dD.n dD.c,.slice dF.a dF.n dF.c,.slice cS.a cS.n cS.c,.slice fu.a fu.n fu.c,.slice fy.a fy.n fy.c]⟩,.agg ⟨[.int .i64 mw,.slice j7.a j7.n j7.c,.slice j8.a j8.n j8.c,.slice gT.a gT.n gT.c,.slice wv.a wv.n wv.c,.slice wz.a wz.n wz.c]⟩] w R:=
 aL (m:=⟨true,true⟩) (J:=[(3,[])]) (L:=[(4,[(5,.int .i64)])]) aJ Tryz.func12 (by kernel_rfl) ((by kernel_rfl:aK Pr _ _ _ Tryz.f12 _ w R=LM dP dD dF cS fu fy mw j7 j8 gT wv wz w R).mpr h)
def Lh (dP:Int) (dD:Int) (dF:Int) (cS:ah) (mw:Int) (j7:Int) (j8:Int) (gT:ah) (w:World) (R:Value→World→Prop):Prop:=
 nw cw [.int .i64 dP,.int .i64 dD,.int .i64 dF,.slice cS.a cS.n cS.c] w fun a b=>
 nw cw [.int .i64 mw,.int .i64 j7,.int .i64 j8,.slice gT.a gT.n gT.c] b fun c d=>
 an .i64 (Addr.add a 0) d fun e=>
 an .i64 (Addr.add c 0) d fun f=>
 an .i64 (Addr.add a 1) d fun g=>
 an .i64 (Addr.add c 1) d fun i=>
 an .i64 (Addr.add a 2) d fun j=>
 an .i64 (Addr.add c 2) d fun k=>
 ax (Addr.add a 3) d fun l=>
 ax (Addr.add c 3) d fun m=>
 aA (((decide (e=f)) && (decide (g=i))) && (decide (j=k)))
 (ay Pr Dw [.slice l.a l.n l.c,.slice m.a m.n m.c] d fun n o=>
 aW n fun p=>
 R (.bool p) o)
 (R (.bool false) d)
theorem acq {dP:Int} {dD:Int} {dF:Int} {cS:ah} {mw:Int} {j7:Int} {j8:Int} {gT:ah} {w:World} {R:Value→World→Prop} (h:Lh dP dD dF cS mw j7 j8 gT w R):Ok Pr GM [.agg ⟨[.int .i64 dP,.int .i64 dD,.int .i64 dF,.slice cS.a cS.n cS.c]⟩,.agg ⟨[.int .i64 mw,.int .i64 j7,.int .i64 j8,.slice gT.a gT.n gT.c]⟩] w R:=
 aL (m:=⟨true,true⟩) (J:=[]) (L:=[]) aJ Tryz.func17 (by kernel_rfl) ((by kernel_rfl:aK Pr _ _ _ Tryz.f17 _ w R=Lh dP dD dF cS mw j7 j8 gT w R).mpr h)
def Lj (a:ah) (b:ah) (w:World) (R:Value→World→Prop):Prop:=
 aA (!decide ((a.n:Int)=(b.n:Int)))
 (R (.bool false) w)
 (cX (fun (c:Int)=>[(5,some (.int .i64 c))])
 (fun d c e=>aA (decide (c<(a.n:Int)))
 (aQ a.a c a.n
 (AX (Addr.add (base a.a) (Int.toNat c * 3)) (World.drew e) fun f g i=>
 aQ b.a c b.n
 (AX (Addr.add (base b.a) (Int.toNat c * 3)) (World.drew e) fun j k l=>
 FH Pr .neq dh [.int .i64 f,.int .i64 g,.string i] [.int .i64 j,.int .i64 k,.string l] (World.drew e) fun m n=>
 aA m
 (R (.bool false) n)
 ((aF (c+1)∧
 d (c+1) n)))))
 (R (.bool true) e))
 0 w)
theorem acr {a:ah} {b:ah} {w:World} {R:Value→World→Prop} (h:Lj a b w R):Ok Pr KZ [.slice a.a a.n a.c,.slice b.a b.n b.c] w R:=
 aL (m:=⟨true,true⟩) (J:=[]) (L:=[(4,[(5,.int .i64)])]) aJ Tryz.func19 (by kernel_rfl) ((by kernel_rfl:aK Pr _ _ _ Tryz.f19 _ w R=Lj a b w R).mpr h)
def MC (dP:Int) (dD:Int) (dF:Int) (cS:ah) (mw:Int) (j7:Int) (j8:Int) (gT:ah) (w:World) (R:Value→World→Prop):Prop:=
 nw aV [.int .i64 dP,.int .i64 dD,.int .i64 dF,.slice cS.a cS.n cS.c] w fun a b=>
 nw aV [.int .i64 mw,.int .i64 j7,.int .i64 j8,.slice gT.a gT.n gT.c] b fun c d=>
 an .i64 (Addr.add a 0) d fun e=>
 an .i64 (Addr.add c 0) d fun f=>
 an .i64 (Addr.add a 1) d fun g=>
 an .i64 (Addr.add c 1) d fun i=>
 an .i64 (Addr.add a 2) d fun j=>
 an .i64 (Addr.add c 2) d fun k=>
 ax (Addr.add a 3) d fun l=>
 ax (Addr.add c 3) d fun m=>
 aA ((((!decide (e=f)) || (!decide (g=i))) || (!decide (j=k))) || (!decide ((l.n:Int)=(m.n:Int))))
 (R (.bool false) d)
 (cX (fun (n:Int)=>[(5,some (.int .i64 n))])
 (fun o n p=>ax (Addr.add a 3) p fun q=>
 aA (decide (n<(q.n:Int)))
 (ax (Addr.add a 3) (World.drew p) fun s=>
 aQ s.a n s.n
 (gE (Addr.add (base s.a) (Int.toNat n * 4)) (World.drew p) fun t u v x=>
 ax (Addr.add c 3) (World.drew p) fun y=>
 aQ y.a n y.n
 (gE (Addr.add (base y.a) (Int.toNat n * 4)) (World.drew p) fun z A B C=>
 ay Pr GM [.agg ⟨[.int .i64 t,.int .i64 u,.int .i64 v,.slice x.a x.n x.c]⟩,.agg ⟨[.int .i64 z,.int .i64 A,.int .i64 B,.slice C.a C.n C.c]⟩] (World.drew p) fun D E=>
 aW D fun F=>
 aA (!F)
 (R (.bool false) E)
 ((aF (n+1)∧
 o (n+1) E)))))
 (R (.bool true) p))
 0 d)
theorem ady {dP:Int} {dD:Int} {dF:Int} {cS:ah} {mw:Int} {j7:Int} {j8:Int} {gT:ah} {w:World} {R:Value→World→Prop} (h:MC dP dD dF cS mw j7 j8 gT w R):Ok Pr Mq [.agg ⟨[.int .i64 dP,.int .i64 dD,.int .i64 dF,.slice cS.a cS.n cS.c]⟩,.agg ⟨[.int .i64 mw,.int .i64 j7,.int .i64 j8,.slice gT.a gT.n gT.c]⟩] w R:=
 aL (m:=⟨true,true⟩) (J:=[]) (L:=[(4,[(5,.int .i64)])]) aJ Tryz.func20 (by kernel_rfl) ((by kernel_rfl:aK Pr _ _ _ Tryz.f20 _ w R=MC dP dD dF cS mw j7 j8 gT w R).mpr h)
def L6 (dP:Int) (dD:Int) (dF:Int) (cS:Int) (fu:Int) (fy:Int) (gP:Int) (gQ:Int) (gR:Int) (gS:Int) (gI:Int) (gJ:ByteArray) (dL:ah) (dM:ah) (w:World) (R:Value→World→Prop):Prop:=
 nw k6 [.int .i64 dP,.int .i64 dD,.int .i64 dF,.int .i64 cS,.int .i64 fu,.int .i64 fy,.int .i64 gP,.int .i64 gQ,.int .i64 gR,.int .i64 gS,.int .i64 gI,.string gJ,.slice dL.a dL.n dL.c,.slice dM.a dM.n dM.c] w fun a b=>
 gp (Addr.add a 11) b fun c=>
 ax (Addr.add a 12) b fun d=>
 ax (Addr.add a 13) b fun e=>
 R (.bool (((decide (400<((ByteArray.size c:Nat):Int))) || (decide (3000<(d.n:Int)))) || (decide (200<(e.n:Int))))) b
theorem adf {dP:Int} {dD:Int} {dF:Int} {cS:Int} {fu:Int} {fy:Int} {gP:Int} {gQ:Int} {gR:Int} {gS:Int} {gI:Int} {gJ:ByteArray} {dL:ah} {dM:ah} {w:World} {R:Value→World→Prop} (h:L6 dP dD dF cS fu fy gP gQ gR gS gI gJ dL dM w R):Ok Pr LP [.agg ⟨[.int .i64 dP,.int .i64 dD,.int .i64 dF,.int .i64 cS,.int .i64 fu,.int .i64 fy,.int .i64 gP,.int .i64 gQ,.int .i64 gR,.int .i64 gS,.int .i64 gI,.string gJ,.slice dL.a dL.n dL.c,.slice dM.a dM.n dM.c]⟩] w R:=
 aL (m:=⟨true,true⟩) (J:=[]) (L:=[]) aJ Tryz.func25 (by kernel_rfl) ((by kernel_rfl:aK Pr _ _ _ Tryz.f25 _ w R=L6 dP dD dF cS fu fy gP gQ gR gS gI gJ dL dM w R).mpr h)
def Lz (a:ah) (b:ah) (w:World) (R:Value→World→Prop):Prop:=
 aA (!decide ((a.n:Int)=(b.n:Int)))
 (R (.bool false) w)
 (cX (fun (c:Int)=>[(5,some (.int .i64 c))])
 (fun d c e=>aA (decide (c<(a.n:Int)))
 (aQ a.a c a.n
 (an .i64 (Addr.add (Addr.add (base a.a) (Int.toNat c * 5)) 0) (World.drew e) fun f=>
 aQ b.a c b.n
 (an .i64 (Addr.add (Addr.add (base b.a) (Int.toNat c * 5)) 0) (World.drew e) fun g=>
 aA (!decide (f=g))
 (R (.bool false) (World.drew e))
 (aQ a.a c a.n
 (an .i64 (Addr.add (Addr.add (base a.a) (Int.toNat c * 5)) 1) (World.drew e) fun i=>
 aQ b.a c b.n
 (an .i64 (Addr.add (Addr.add (base b.a) (Int.toNat c * 5)) 1) (World.drew e) fun j=>
 aA (!decide (i=j))
 (R (.bool false) (World.drew e))
 (aQ a.a c a.n
 (an .i64 (Addr.add (Addr.add (base a.a) (Int.toNat c * 5)) 3) (World.drew e) fun k=>
 aQ b.a c b.n
 (an .i64 (Addr.add (Addr.add (base b.a) (Int.toNat c * 5)) 3) (World.drew e) fun l=>
 aA (!decide (k=l))
 (R (.bool false) (World.drew e))
 (aQ a.a c a.n
 (an .u64 (Addr.add (Addr.add (base a.a) (Int.toNat c * 5)) 4) (World.drew e) fun m=>
 aQ b.a c b.n
 (an .u64 (Addr.add (Addr.add (base b.a) (Int.toNat c * 5)) 4) (World.drew e) fun n=>
 aA (!decide (m=n))
 (R (.bool false) (World.drew e))
 (aQ a.a c a.n
 (ax (Addr.add (Addr.add (base a.a) (Int.toNat c * 5)) 2) (World.drew e) fun o=>
 aQ b.a c b.n
 (ax (Addr.add (Addr.add (base b.a) (Int.toNat c * 5)) 2) (World.drew e) fun p=>
 ay Pr Dw [.slice o.a o.n o.c,.slice p.a p.n p.c] (World.drew e) fun q s=>
 aW q fun t=>
 aA (!t)
 (R (.bool false) s)
 ((aF (c+1)∧
 d (c+1) s)))))))))))))))))
 (R (.bool true) e))
 0 w)
theorem acD {a:ah} {b:ah} {w:World} {R:Value→World→Prop} (h:Lz a b w R):Ok Pr Lr [.slice a.a a.n a.c,.slice b.a b.n b.c] w R:=
 aL (m:=⟨true,true⟩) (J:=[]) (L:=[(4,[(5,.int .i64)])]) aJ Tryz.func30 (by kernel_rfl) ((by kernel_rfl:aK Pr _ _ _ Tryz.f30 _ w R=Lz a b w R).mpr h)
def LA (a:ah) (b:ah) (w:World) (R:Value→World→Prop):Prop:=
 aA (!decide ((a.n:Int)=(b.n:Int)))
 (R (.bool false) w)
 (cX (fun (c:Int)=>[(5,some (.int .i64 c))])
 (fun d c e=>aA (decide (c<(a.n:Int)))
 (aQ a.a c a.n
 (iJ (Addr.add (base a.a) (Int.toNat c * 6)) (World.drew e) fun f g i j k l=>
 aQ b.a c b.n
 (iJ (Addr.add (base b.a) (Int.toNat c * 6)) (World.drew e) fun m n o p q s=>
 FH Pr .neq cB [.int .i64 f,.int .i64 g,.int .i64 i,.int .i64 j,.int .i64 k,.bool l] [.int .i64 m,.int .i64 n,.int .i64 o,.int .i64 p,.int .i64 q,.bool s] (World.drew e) fun t u=>
 aA t
 (R (.bool false) u)
 ((aF (c+1)∧
 d (c+1) u)))))
 (R (.bool true) e))
 0 w)
theorem acE {a:ah} {b:ah} {w:World} {R:Value→World→Prop} (h:LA a b w R):Ok Pr Lt [.slice a.a a.n a.c,.slice b.a b.n b.c] w R:=
 aL (m:=⟨true,true⟩) (J:=[]) (L:=[(4,[(5,.int .i64)])]) aJ Tryz.func31 (by kernel_rfl) ((by kernel_rfl:aK Pr _ _ _ Tryz.f31 _ w R=LA a b w R).mpr h)
end Go.Proofs.YtgjoehgomjgckaaGreatDoor
end
section
set_option linter.unusedVariables false
set_option linter.unusedSimpArgs false
namespace Go.Proofs.YtgjoehgomjgckaaGreatDoor
open Go Go.Ev
set_option maxRecDepth 20000
set_option linter.unusedVariables false
structure bK where
 (n0 n1 n2 n3 n4 n5 n6 n7 n8 n9 o6:Int)
 name:ByteArray
 (gD tok:ah)
@[reducible] def bK.cells (q:bK):List Value:=HT q.n0 q.n1 q.n2 q.n3 q.n4 q.n5 q.n6 q.n7 q.n8 q.n9 q.o6 q.name q.gD q.tok
def bK.dJ (q:bK):List Int:=[q.n0,q.n1,q.n2,q.n3,q.n4,q.n5,q.n6,q.n7,q.n8,q.n9,q.o6]
def bK.rest (q:bK):List Int:=[q.n3,q.n4,q.n5,q.n6,q.n7,q.n8,q.n9,q.o6]
def aS (lo hi n:Int):Bool:=decide (lo≤n) && decide (n≤hi)
def oI (q:bK):Bool:=aS 1 6 q.n0 && (aS 1 1099511627776 q.n1 && (aS 1 13 q.n2 && (q.rest.all (aS 0 1099511627776) && (decide (q.name.size≤300) && (decide (q.gD.n≤2000) && decide (q.tok.n≤100))))))
theorem It (n lo hi:Int) (w:World):Ok Pr BF [.int .i64 n,.int .i64 lo,.int .i64 hi] w fun v w'=>v=.bool (aS lo hi n)∧w'=w:=by
 refine ahn ?_
 unfold Rc
 exact ⟨rfl,rfl⟩
theorem ag2 (n:Int) (w:World):Ok Pr DR [.int .i64 n] w fun v w'=>v=.bool (!aS 0 1099511627776 n)∧w'=w:=by
 refine afa ?_
 unfold O7
 refine aB (It n 0 1099511627776 w) ?_
 rintro _ w1 ⟨rfl,hw⟩
 subst hw
 exact bz ⟨rfl,rfl⟩
theorem adZ (g:FuncId) (p:Int→Bool) (hb:jx Pr g=true) (hg:∀ n w,Ok Pr g [.int .i64 n] w fun v w'=>v=.bool (p n)∧w'=w) (x:ah) (l:List Int) (hl:l.length≤1000000) (w:World) (hx:dS w x l) :
  Ok Pr GD [.slice x.a x.n x.c,.func (.func g) #[] #[]] w fun v w'=>∃ n:Int,v=.int .i64 n∧(decide (0≤n)=l.any p)∧w'=w:=by
 refine Ut ?_
 unfold GF
 have bU:=hx.len
 refine dm 0 l.length (fun i w'=>w'=w∧(l.take i).any p=false) rfl (by omega) ⟨rfl,rfl⟩ ?_ ?_
 ·rintro again i w1 _ hi ⟨mM,ha⟩ aM
  have Kc:dS w1 x l:=by rw [mM]; exact hx
  refine ite_true (decide_eq_true (by omega)) (Kc.ld hi rfl ?_)
  have key:ay Pr g [.int .i64 (l.getD i 0)] w1 fun v w2=>aW v fun t16=>aA t16 ((fun (v:Value) (w':World)=>∃ n:Int,v=.int .i64 n∧(decide (0≤n)=l.any p)∧w'=w) (.int .i64 (i:Int)) w2) (aF ((i:Int)+1)∧again ((i:Int)+1) w2):=by
   refine aB (hg _ _) ?_
   rintro _ w2 ⟨rfl,rA⟩
   have SP:l.getD i 0∈l:=by simp [hi]
   refine bz (bV (fun h=>?_) (fun h=>?_))
   ·refine ⟨_,rfl,?_,rA.trans mM⟩
    rw [decide_eq_true (by omega)]
    exact (List.any_eq_true.2 ⟨_,SP,h⟩).symm
   ·refine ⟨⟨by omega,by omega⟩,aM _ ⟨rA.trans mM,?_⟩⟩
    rw [kY _ _ hi 0,List.any_append,ha,List.any_cons,h]
    rfl
  show cond (jx Pr g) _ False
  rw [hb]
  exact key
 ·rintro again w1 ⟨mM,ha⟩
  rw [List.take_length] at ha
  exact ite_false (decide_eq_false (by omega)) ⟨_,rfl,by rw [ha]; rfl,mM⟩
theorem acP (g:FuncId) (p:Int→Bool) (hb:jx Pr g=true) (hg:∀ n w,Ok Pr g [.int .i64 n] w fun v w'=>v=.bool (p n)∧w'=w) (x:ah) (l:List Int) (hl:l.length≤1000000) (w:World) (hx:dS w x l) :
  Ok Pr Dp [.slice x.a x.n x.c,.func (.func g) #[] #[]] w fun v w'=>v=.bool (l.any p)∧w'=w:=by
 refine Us ?_
 unfold GC
 refine aB (adZ g p hb hg x l hl w hx) ?_
 rintro _ w1 ⟨n,rfl,hn,hw⟩
 subst hw
 exact eE ⟨by rw [hn],rfl⟩
theorem afo (q:bK) (w:World):Ok Pr MT [.agg ⟨q.cells⟩] w fun v w'=>∃ y:ah,v=.slice y.a y.n y.c∧Own w' w.heap.size bH 1 y (cu q.dJ)∧Mod [] w w':=by
 refine adQ ?_
 unfold Nd
 refine (ak.start w).nw fun p w1 H _=>?_
 refine H.an 0 rfl (au p 0) rfl (H.an 0 rfl (au p 1) rfl (H.an 0 rfl (au p 2) rfl (H.an 0 rfl (au p 3) rfl (H.an 0 rfl (au p 4) rfl (H.an 0 rfl (au p 5) rfl ?_)))))
 refine H.an 0 rfl (au p 6) rfl (H.an 0 rfl (au p 7) rfl (H.an 0 rfl (au p 8) rfl (H.an 0 rfl (au p 9) rfl (H.an 0 rfl (au p 10) rfl (H.nw fun p1 w2 H _=>?_)))))
 have H:=H.rM 1 1 11 11 rfl rfl (Nat.le_refl _) (by simp only [maxLen]; omega)
 exact ⟨⟨some ⟨p1,0,none⟩,11,11⟩,rfl,H.fS 1 rfl,H.mod⟩
theorem ai6:jx Pr DR=true:=by kernel_rfl
theorem aif (q:bK) (w:World):Ok Pr QJ [.agg ⟨q.cells⟩] w fun v w'=>v=.bool (oI q)∧Mod [] w w':=by
 refine agS ?_
 unfold QL
 refine (ak.start w).nw fun p w1 H _=>?_
 refine H.an 0 rfl (au p 0) rfl (aB (It _ _ _ _) ?_)
 rintro _ w2 ⟨rfl,hw⟩
 subst hw
 refine bz (H.an 0 rfl (au p 1) rfl ?_)
 unfold oI
 refine bV (fun h1=>?_) (fun h1=>?_)
 ·rw [h1,Bool.true_and]
  refine aB (It _ _ _ _) ?_
  rintro _ w3 ⟨rfl,hw⟩
  subst hw
  refine bz (H.an 0 rfl (au p 2) rfl ?_)
  refine bV (fun h2=>?_) (fun h2=>?_)
  ·rw [h2,Bool.true_and]
   refine aB (It _ _ _ _) ?_
   rintro _ w4 ⟨rfl,hw⟩
   subst hw
   refine bz (H.jH 0 rfl ?_)
   refine bV (fun h3=>?_) (fun h3=>?_)
   ·rw [h3,Bool.true_and]
    refine aB (afo q _) ?_
    rintro _ w5 ⟨y,rfl,hy,m5⟩
    have H:=H.cG m5 hy
    have jU:=hy.dJ.len
    refine bW (Sl.l (H.dJ 1 rfl) (by omega) 3 rfl (by rw [← jU]; show 3≤11; omega) fun z hz jS _=>?_)
    have F5:dS w5 z q.rest:=jS
    refine aB (acP DR _ ai6 ag2 z q.rest (by show 8≤1000000; omega) _ F5) ?_
    rintro _ w6 ⟨rfl,hw⟩
    subst hw
    refine bz (H.gp 0 rfl (au p 11) rfl (H.ax 0 rfl (au p 12) rfl (H.ax 0 rfl (au p 13) rfl ⟨?_,H.mod⟩)))
    congr 1
    have e:(!q.rest.any fun n=>!aS 0 1099511627776 n)=q.rest.all (aS 0 1099511627776):=by
     rw [List.not_any_eq_all_not]
     simp
    rw [e]
    have e1:∀ a b:Nat,decide (((a:Nat):Int)≤(b:Int))=decide (a≤b):=fun a b=>by simp
    have aow:=e1 q.name.size 300
    have anI:=e1 q.gD.n 2000
    have aox:=e1 q.tok.n 100
    simp only [Bool.and_assoc]
    rw [← aow,← anI,← aox]
    rfl
   ·rw [h3,Bool.false_and]
    exact H.gp 0 rfl (au p 11) rfl (H.ax 0 rfl (au p 12) rfl (H.ax 0 rfl (au p 13) rfl ⟨rfl,H.mod⟩))
  ·rw [h2,Bool.false_and]
   exact H.jH 0 rfl (H.gp 0 rfl (au p 11) rfl (H.ax 0 rfl (au p 12) rfl (H.ax 0 rfl (au p 13) rfl ⟨rfl,H.mod⟩)))
 ·rw [h1,Bool.false_and]
  exact H.an 0 rfl (au p 2) rfl (H.jH 0 rfl (H.gp 0 rfl (au p 11) rfl (H.ax 0 rfl (au p 12) rfl (H.ax 0 rfl (au p 13) rfl ⟨rfl,H.mod⟩))))
def Sn (q:bK):Int:=if oI q=true then 0 else 2
end Go.Proofs.YtgjoehgomjgckaaGreatDoor
end
section
set_option linter.unusedVariables false
set_option linter.unusedSimpArgs false
namespace Go.Proofs.YtgjoehgomjgckaaGreatDoor
open Go Go.Ev
set_option maxRecDepth 20000
set_option linter.unusedVariables false
theorem MD (x y:ah) (l m:List B8) (w:World) (hx:Bytes w x l) (hy:Bytes w y m):Ok Pr DF [.slice x.a x.n x.c,.slice y.a y.n y.c] w fun v w'=>v=.bool (decide (l=m))∧w'=w:=by
 refine adM ?_
 unfold M5
 refine Zp hx (Zp hy ⟨?_,rfl⟩)
 congr 1
 exact decide_eq_decide.2 aiP
theorem ad3 (q:bK) (w:World):Ok Pr LP [.agg ⟨q.cells⟩] w fun v w'=>∃ b,v=.bool b∧Mod [] w w'∧(b=false→q.name.size≤400∧q.gD.n≤3000∧q.tok.n≤200):=by
 refine adf ?_
 unfold L6
 refine (ak.start w).nw fun p w1 H _=>?_
 refine H.gp 0 rfl (au p 11) rfl (H.ax 0 rfl (au p 12) rfl (H.ax 0 rfl (au p 13) rfl ⟨_,rfl,H.mod,fun h=>?_⟩))
 simp only [Bool.or_eq_false_iff,decide_eq_false_iff_not] at h
 omega
end Go.Proofs.YtgjoehgomjgckaaGreatDoor
end
section
set_option linter.unusedVariables false
set_option linter.unusedSimpArgs false
namespace Go.Proofs.YtgjoehgomjgckaaGreatDoor
open Go Go.Ev
set_option maxRecDepth 20000
set_option linter.unusedVariables false
theorem YD:zc Pr rH=[.slice none 0 0,.slice none 0 0,.slice none 0 0,.slice none 0 0]:=by kernel_rfl
@[irreducible] def qT (l:List B8):List B8:=fh 136 6 l 32
theorem XF (l:List B8):fh 136 6 l 32=qT l:=by unfold qT; rfl
theorem ai7 (l:List B8):(qT l).length=32:=by unfold qT; exact tw 136 6 l 32 (by omega)
def uF (set:Int) (l:List B8):Int:=if isSet set=true then (if l.length=o5 set then (if qT (pS set l)=pH set l then 0 else 4) else 3) else 2
theorem aj5 {set:Int} {l:List B8} (h:uF set l=0):isSet set=true∧l.length=o5 set:=by
 unfold uF at h
 split at h
 ·rename_i h1
  split at h
  ·rename_i h2; exact ⟨h1,h2⟩
  ·exact absurd h (by decide)
 ·exact absurd h (by decide)
theorem Zz {set:Int} (cH:isSet set=true) {l:List B8} (h:l.length=o5 set):(pS set l).length=iH set∧(pO set l).length=jr set∧(pH set l).length=32∧(pR set l).length=32:=by
 obtain ⟨h1,h2,h3,h4⟩:=AJ cH
 refine ⟨?_,?_,?_,?_⟩
 ·unfold pS; rw [List.length_take,List.length_drop]; omega
 ·unfold pO; rw [List.length_take]; omega
 ·unfold pH; rw [List.length_take,List.length_drop]; omega
 ·unfold pR; rw [List.length_drop]; omega
theorem afp (set:Int) (x:ah) (l:List B8) (w:World) (hx:Bytes w x l):Ok Pr MW [.int .i64 set,.slice x.a x.n x.c] w fun v w'=>cP w w' v (uF set l)∧Mod [] w w':=by
 refine adU ?_
 unfold Nk
 rw [xx,YD]
 have bU:=hx.len
 have uu:=hx.cap
 have hC:uF set l=if isSet set=true then (if l.length=o5 set then (if qT (pS set l)=pH set l then 0 else 4) else 3) else 2:=rfl
 generalize uF set l=C at *
 refine aB (y9 set w) ?_
 rintro _ w1 ⟨rfl,m1⟩
 have H:=(ak.start w).frame m1
 refine ⟨_,rfl,zD ⟨_,rfl,rfl,H.nw fun p w2 H _=>H.iY 0 rfl rfl fun w3 H=>?_⟩⟩
 have no:∀ {w4:World} (c:Int),Mod [] w w4→c≠0→C=c→ay Pr mX [.int .i64 c] w4 fun v w5=>cP w w5 v C∧Mod [] w w5:=by
  intro w4 c m hc iq
  refine aB (DN c hc w4) ?_
  rintro e w5 ⟨h,m4⟩
  rw [iq]
  exact ⟨BM h m,m.trans m4⟩
 cases cH:isSet set with
 | false=>
  rw [cH,if_neg (by decide)] at hC
  exact ite_true rfl (no 2 H.mod (by decide) hC)
 | true=>
  rw [cH,if_pos rfl] at hC
  obtain ⟨h1,h2,h3,h4⟩:=AJ cH
  have hk:=(ny cH).k
  refine ite_false rfl (aB (VE set w3) ?_)
  rintro _ w5 ⟨rfl,m5⟩
  have H:=H.frame m5
  refine ⟨_,rfl,_,rfl,_,rfl,_,rfl,rfl,?_⟩
  by_cases hn:l.length=o5 set
  case neg=>
   rw [if_neg hn] at hC
   exact ite_true (by rw [decide_eq_false (show ¬ ((x.n:Nat):Int)=((o5 set:Nat):Int) by omega)]; rfl) (no 3 H.mod (by decide) hC)
  rw [if_pos hn] at hC
  obtain ⟨lS,lO,lH,lR⟩:=Zz cH hn
  refine ite_false (by rw [decide_eq_true (show ((x.n:Nat):Int)=((o5 set:Nat):Int) by omega)]; rfl) (aB (VF set cH x (by omega) uu _) ?_)
  rintro _ w7 ⟨x0,x1,x2,x3,rfl,m7,kp⟩
  have H:=H.frame m7
  refine Vr (H.nw fun p1 w8 H _=>H.wX 1 rfl rfl fun w9 H=>?_)
  have H:=H.drew
  have H:ak w [] w9.drew [.av p (dG set).cells iw,.av p1 (yY x0 x1 x2 x3) rH]:=H
  refine H.ax 1 rfl (au p1 1) rfl (H.ax 1 rfl (au p1 2) rfl (H.nw fun p2 cM H2 _=>?_))
  obtain ⟨k0,k1,k2,k3⟩:=kp _ l (hx.aG H2.mod)
  refine ⟨kN (H.av 1 rfl) (H2.av 1 rfl) (jI _ _),?_⟩
  refine aB (LK ⟨some ⟨p2,0,none⟩,1,1⟩ [pS set l] _ (e8.JM (H2.av 2 rfl) (by simp) k1 (jW _)) (RR rfl (by omega))) ?_
  rintro _ cZ ⟨g,rfl,hg,rB⟩
  rw [show [pS set l].flatten=pS set l by simp] at hg
  rw [XF] at hg
  have H3:=H2.cG rB hg
  refine bW ⟨kN (H2.av 1 rfl) (H3.av 1 rfl) (jI _ _),aB (MD g x2 _ _ _ hg.bytes (k2.aG rB)) ?_⟩
  rintro _ fV ⟨rfl,hw⟩
  subst hw
  refine bz ?_
  by_cases he:qT (pS set l)=pH set l
  ·rw [if_pos he] at hC
   rw [hC]
   exact ite_false (by rw [decide_eq_true he]; rfl) ⟨qN _ _,H3.mod⟩
  ·rw [if_neg he] at hC
   exact ite_true (by rw [decide_eq_false he]; rfl) (no 4 H3.mod (by decide) hC)
@[irreducible] def wA (b m:List B8):List B8:=fh 72 6 (m ++ qT b) 64
theorem al7 (b m:List B8):fh 72 6 (m ++ qT b) 64=wA b m:=by unfold wA; rfl
theorem YE (b m:List B8):(wA b m).length=64:=by unfold wA; exact tw 72 6 _ 64 (by omega)
def o7 (set:Int) (b m:List B8):Int:=if iI set b=0 then (if m.length=32 then 0 else 3) else iI set b
@[irreducible] def AK (set:Int) (b m:List B8):List B8:=if o7 set b m=0 then uC set b m ((wA b m).drop 32) else []
@[irreducible] def yw (set:Int) (b m:List B8):List B8:=if o7 set b m=0 then (wA b m).take 32 else []
theorem XG {set:Int} {b m r:List B8} (h:iI set b=0) (hm:m.length=32) (hr:r.length=32):AH set b m r=0:=by
 unfold AH; rw [if_pos h,if_pos ⟨hm,hr⟩]
theorem ahF (set:Int) (x xm:ah) (b m:List B8) (w:World) (hx:Bytes w x b) (hm:Bytes w xm m) :
  Ok Pr PK [.int .i64 set,.slice x.a x.n x.c,.slice xm.a xm.n xm.c] w fun v w'=>∃ (y z:ah) (er:Value),v=.tuple ⟨[.slice y.a y.n y.c,.slice z.a z.n z.c,er]⟩∧
   ak w [] w' [.row aX 1 y (bp (AK set b m)),.cut z (yw set b m),aD.err er (o7 set b m)]:=by
 refine agl ?_
 unfold Qh
 have bU:=hx.len
 have Tx:=hm.len
 have hC:o7 set b m=if iI set b=0 then (if m.length=32 then 0 else 3) else iI set b:=rfl
 have hV:AK set b m=if o7 set b m=0 then uC set b m ((wA b m).drop 32) else []:=by unfold AK; rfl
 have hS:yw set b m=if o7 set b m=0 then (wA b m).take 32 else []:=by unfold yw; rfl
 generalize o7 set b m=C at *
 generalize AK set b m=V at *
 generalize yw set b m=K at *
 refine aB (U4 set x b w hx) ?_
 rintro e w1 ⟨he,m1⟩
 have no:∀ {w3:World} (e:Value) (c:Int),c≠0→C=c→cP w w3 e c→Mod [] w w3→∃ (y z:ah) (er:Value),Value.tuple ⟨[.slice none 0 0,.slice none 0 0,e]⟩=.tuple ⟨[.slice y.a y.n y.c,.slice z.a z.n z.c,er]⟩∧
   ak w [] w3 [.row aX 1 y (bp V),.cut z K,aD.err er C]:=by
  intro w3 e c hc iq h m
  rw [iq] at hV hS
  rw [if_neg hc] at hV hS
  subst hV hS
  rw [iq]
  have H1:=((ak.start w).iZ aX 1).push (r:=.cut ⟨none,0,0⟩ []) (Mod.refl [] w) (.inl ⟨rfl,rfl⟩) (fun b hb=>by simp [aD.cut,ah.row] at hb)
  exact ⟨⟨none,0,0⟩,⟨none,0,0⟩,e,rfl,H1.gH m h⟩
 by_cases h0:iI set b=0
 case neg=>
  rw [if_neg h0] at hC
  exact he.1.isNil (ite_true (by rw [decide_eq_false h0]; rfl) (no e _ h0 hC he m1))
 rw [if_pos h0] at hC
 obtain ⟨cH,jP,dV⟩:=XE h0
 have hk:=(ny cH).k
 refine he.1.isNil (ite_false (by rw [decide_eq_true h0]; rfl) ?_)
 by_cases kH:m.length=32
 case neg=>
  rw [if_neg kH] at hC
  refine ite_true (by rw [decide_eq_false (show ¬ ((xm.n:Nat):Int)=32 by omega)]; rfl) (aB (DN 3 (by decide) w1) ?_)
  rintro e3 w3 ⟨h,m3⟩
  exact no e3 3 (by decide) hC (BM h m1) (m1.trans m3)
 rw [if_pos kH] at hC
 clear no
 subst hC
 rw [if_pos rfl] at hV hS
 subst hV hS
 have H:=(ak.start w).frame m1
 refine ite_false (by rw [decide_eq_true (show ((xm.n:Nat):Int)=32 by omega)]; rfl) (H.nw fun p w3 H _=>?_)
 refine aB (LK ⟨some ⟨p,0,none⟩,1,1⟩ [b] _ (e8.JM (H.av 0 rfl) (by simp) (hx.aG H.mod) (jW _)) (RR rfl (by omega))) ?_
 rintro _ w4 ⟨g,rfl,hg,m4⟩
 rw [show [b].flatten=b by simp] at hg
 rw [XF] at hg
 have hgl:=ai7 b
 have H:=H.cG m4 hg
 refine bW (H.nw fun p1 w5 H _=>?_)
 refine aB (LL ⟨some ⟨p1,0,none⟩,2,2⟩ [m,qT b] _ (e8.zU (H.av 2 rfl) (by simp) (hm.aG H.mod) (jW _) (H.bytes 1 rfl) (jW _)) (zA rfl (by omega) (by omega))) ?_
 rintro _ w6 ⟨u,rfl,hu,m6⟩
 rw [show [m,qT b].flatten=m ++ qT b by simp] at hu
 rw [al7] at hu
 have nY:=YE b m
 generalize wA b m=G at *
 have H:=H.cG m6 hu
 have F3:=(H.bytes 3 rfl).len
 have huc:=(H.bytes 3 rfl).cap
 refine bW (zC 32 rfl (by omega) fun zr nr kr=>?_)
 have Ak:(G.drop 32).length=32:=by rw [List.length_drop]; omega
 refine aB (VX set x xm zr b m (G.drop 32) _ (hx.aG H.mod) (hm.aG H.mod) (kr _ G (H.bytes 3 rfl) (by omega))) ?_
 rw [XG h0 kH Ak]
 rintro _ w7 ⟨y,er,rfl,hy,Gq,hn7,m7⟩
 have H:=H.cG m7 hy
 refine ⟨_,rfl,y,rfl,rfl,Gq.1.isNil (ite_false rfl ⟨⟨by decide,by decide,by omega⟩,?_⟩)⟩
 refine ⟨y,⟨u.a,32,32⟩,.nilIface,rfl,?_⟩
 exact ((H.Zy 3 rfl 32 (by omega) (by omega)).two 4 3 rfl rfl (by omega)).gH (Mod.drew _ _) (qN _ _)
def yx (set:Int) (l c:List B8):Int:=if uF set l=0 then (if c.length=oq set then (if iI set (pS set l)=0 then wu set (pO set l) c else iI set (pS set l)) else 3) else uF set l
def yy (set:Int) (l c:List B8):List B8:=AI set (pO set l) c
@[irreducible] def qv (set:Int) (l c:List B8):List B8:=fh 72 6 (yy set l c ++ pH set l) 64
@[irreducible] def uG (set:Int) (l c:List B8):List B8:=if yx set l c=0 then (if uC set (pS set l) (yy set l c) ((qv set l c).drop 32)=c then (qv set l c).take 32 else fh 136 31 (pR set l ++ c) 32) else []
theorem aj6 {set:Int} {b c:List B8} (h:wu set b c=0):(AI set b c).length=32:=by
 unfold AI; rw [if_pos h,ai5]
theorem ahG (set:Int) (x xc:ah) (l c:List B8) (w:World) (hx:Bytes w x l) (hc:Bytes w xc c) :
  Ok Pr PJ [.int .i64 set,.slice x.a x.n x.c,.slice xc.a xc.n xc.c] w fun v w'=>∃ (y:ah) (er:Value),v=.tuple ⟨[.slice y.a y.n y.c,er]⟩∧
   ak w [] w' [.cut y (uG set l c),aD.err er (yx set l c)]:=by
 refine agk ?_
 unfold P9
 rw [YD]
 have bU:=hx.len
 have uu:=hx.cap
 have Ka:=hc.len
 have hC:yx set l c=if uF set l=0 then (if c.length=oq set then (if iI set (pS set l)=0 then wu set (pO set l) c else iI set (pS set l)) else 3) else uF set l:=rfl
 have hV:uG set l c=if yx set l c=0 then (if uC set (pS set l) (yy set l c) ((qv set l c).drop 32)=c then (qv set l c).take 32 else fh 136 31 (pR set l ++ c) 32) else []:=by unfold uG; rfl
 generalize yx set l c=C at *
 generalize uG set l c=V at *
 have no:∀ {w3:World} (e:Value) (d:Int),d≠0→C=d→cP w w3 e d→Mod [] w w3→∃ (y:ah) (er:Value),Value.tuple ⟨[.slice none 0 0,e]⟩=.tuple ⟨[.slice y.a y.n y.c,er]⟩∧
   ak w [] w3 [.cut y V,aD.err er C]:=by
  intro w3 e d hd hCd h m
  rw [hCd] at hV
  rw [if_neg hd] at hV
  subst hV
  rw [hCd]
  have H1:=(ak.start w).push (r:=.cut ⟨none,0,0⟩ []) (Mod.refl [] w) (.inl ⟨rfl,rfl⟩) (fun b hb=>by simp [aD.cut,ah.row] at hb)
  exact ⟨⟨none,0,0⟩,e,rfl,H1.gH m h⟩
 refine aB (afp set x l w hx) ?_
 rintro e w1 ⟨he,m1⟩
 by_cases h0:uF set l=0
 case neg=>
  rw [if_neg h0] at hC
  exact he.1.isNil (ite_true (by rw [decide_eq_false h0]; rfl) (no e _ h0 hC he m1))
 rw [if_pos h0] at hC
 obtain ⟨cH,hn⟩:=aj5 h0
 obtain ⟨h1,h2,h3,h4⟩:=AJ cH
 have hk:=(ny cH).k
 have hdu:=(ny cH).du
 have hdv:=(ny cH).dv
 have hdk:(dG set).du * (dG set).k≤11 * 4:=Nat.mul_le_mul (by omega) hk.2
 obtain ⟨lS,lO,lH,lR⟩:=Zz cH hn
 refine he.1.isNil (ite_false (by rw [decide_eq_true h0]; rfl) (aB (VE set w1) ?_))
 rintro _ w2 ⟨rfl,m2⟩
 have m2:=m1.trans m2
 refine ⟨_,rfl,_,rfl,_,rfl,_,rfl,rfl,?_⟩
 by_cases Ke:c.length=oq set
 case neg=>
  rw [if_neg Ke] at hC
  refine ite_true (by rw [decide_eq_false (show ¬ ((xc.n:Nat):Int)=((oq set:Nat):Int) by omega)]; rfl) (aB (DN 3 (by decide) w2) ?_)
  rintro e3 w3 ⟨h,m3⟩
  exact no e3 3 (by decide) hC (BM h m2) (m2.trans m3)
 rw [if_pos Ke] at hC
 refine ite_false (by rw [decide_eq_true (show ((xc.n:Nat):Int)=((oq set:Nat):Int) by omega)]; rfl) (aB (VF set cH x (by omega) uu _) ?_)
 rintro _ w4 ⟨x0,x1,x2,x3,rfl,m4,kp⟩
 have H:=(ak.start w).frame (m2.trans m4)
 refine Vr (H.nw fun p w5 H _=>H.wX 0 rfl rfl fun w6 H=>?_)
 have H:ak w [] w6 [.av p (yY x0 x1 x2 x3) rH]:=H
 obtain ⟨k0,k1,k2,k3⟩:=kp _ l (hx.aG H.mod)
 have aoy:=H.mod.size
 refine H.ax 0 rfl (au p 1) rfl (aB (U4 set x1 _ w6 k1) ?_)
 rintro e7 w7 ⟨Gq,m7⟩
 have H:=H.frame m7
 have aoz:=H.mod.size
 by_cases hp:iI set (pS set l)=0
 case neg=>
  rw [if_neg hp] at hC
  refine Gq.1.isNil (ite_true (by rw [decide_eq_false hp]; rfl) (no e7 _ hp hC (Gq.from aoy) H.mod))
 rw [if_pos hp] at hC
 refine Gq.1.isNil (ite_false (by rw [decide_eq_true hp]; rfl) (H.ax 0 rfl (au p 0) rfl (aB (ahD set x0 xc _ c _ (k0.aG m7) (hc.aG H.mod)) ?_)))
 rintro _ w8 ⟨y,er,rfl,hy,C3,hn8,m8⟩
 have H:=H.cG m8 hy
 by_cases h8:wu set (pO set l) c=0
 case neg=>
  refine ⟨_,rfl,y,rfl,rfl,C3.1.isNil (ite_true (by rw [decide_eq_false h8]; rfl) (no er _ h8 hC (C3.from aoz) H.mod))⟩
 rw [h8] at hC
 rw [hC,if_pos rfl] at hV
 have lM:=aj6 h8
 have C3:=C3.1
 rw [h8] at C3
 refine ⟨_,rfl,y,rfl,rfl,C3.isNil (ite_false rfl (H.ax 0 rfl (au p 2) rfl (H.nw fun p1 w9 H _=>?_)))⟩
 change V=(if uC set (pS set l) (yy set l c) ((qv set l c).drop 32)=c then (qv set l c).take 32 else fh 136 31 (pR set l ++ c) 32) at hV
 have eG:qv set l c=fh 72 6 (yy set l c ++ pH set l) 64:=by unfold qv; rfl
 have lG:(qv set l c).length=64:=by unfold qv; exact tw 72 6 _ 64 (by omega)
 have H:ak w [] w9 [.av p (yY x0 x1 x2 x3) rH,.row aX 1 y (bp (yy set l c)),.av p1 [.slice y.a y.n y.c,.slice x2.a x2.n x2.c] bJ]:=H
 change (yy set l c).length=32 at lM
 generalize qv set l c=G at *
 generalize yy set l c=M at *
 obtain ⟨k0,k1,k2,k3⟩:=kp _ l (hx.aG H.mod)
 refine aB (LL ⟨some ⟨p1,0,none⟩,2,2⟩ [M,pH set l] _ (e8.zU (H.av 2 rfl) (by simp) (H.bytes 1 rfl) (jW _) k2 (jW _)) (zA rfl (by omega) (by omega))) ?_
 rintro _ cM ⟨u,rfl,hu,Gp⟩
 rw [show [M,pH set l].flatten=M ++ pH set l by simp,← eG] at hu
 have H:=(H.cG Gp hu).drew
 have F3:=(H.bytes 3 rfl).len
 have huc:=(H.bytes 3 rfl).cap
 refine bW (H.ax 0 rfl (au p 1) rfl (zC 32 rfl (by omega) fun zr nr kr=>?_))
 have Ak:(G.drop 32).length=32:=by rw [List.length_drop]; omega
 obtain ⟨k0,k1,k2,k3⟩:=kp _ l (hx.aG H.mod)
 refine aB (VX set x1 y zr (pS set l) M (G.drop 32) _ k1 (H.bytes 1 rfl) (kr _ G (H.bytes 3 rfl) (by omega))) ?_
 rw [XG hp lM Ak]
 rintro _ cZ ⟨z,TV,rfl,hz,aoA,arO,rB⟩
 have H:=H.cG rB hz
 refine ⟨_,rfl,z,rfl,rfl,aoA.1.isNil (ite_false rfl (aB (MD z xc _ _ _ hz.bytes (hc.aG H.mod)) ?_))⟩
 rintro _ fV ⟨rfl,hw⟩
 subst hw
 rw [hC]
 refine bz ?_
 by_cases hq:uC set (pS set l) M (G.drop 32)=c
 ·rw [if_pos hq] at hV
  subst hV
  refine ite_false (by rw [decide_eq_true hq]; rfl) ⟨⟨by decide,by decide,by omega⟩,⟨u.a,32,32⟩,.nilIface,rfl,?_⟩
  exact ((H.Zy 3 rfl 32 (by omega) (by omega)).only 3 rfl).gH (Mod.refl _ _) (qN _ _)
 ·rw [if_neg hq] at hV
  obtain ⟨Z,hZ⟩:∃ Z,Z=fh 136 31 (pR set l ++ c) 32:=⟨_,rfl⟩
  rw [← hZ] at hV
  subst hV
  refine ite_true (by rw [decide_eq_false hq]; rfl) (H.ax 0 rfl (au p 3) rfl (H.nw fun p2 fO H _=>?_))
  obtain ⟨k0,k1,k2,k3⟩:=kp _ l (hx.aG H.mod)
  refine aB (K9 32 ⟨some ⟨p2,0,none⟩,2,2⟩ [pR set l,c] _ (e8.zU (H.av 5 rfl) (by simp) k3 (jW _) (hc.aG H.mod) (jW _)) (zA rfl (by omega) (by omega))) ?_
  rintro _ gu ⟨v,rfl,hv,sO⟩
  rw [show [pR set l,c].flatten=pR set l ++ c by simp,← hZ] at hv
  have H:=H.cG sO hv
  exact bW ⟨v,.nilIface,rfl,((H.EJ 6 rfl).only 6 rfl).gH (Mod.refl _ _) (qN _ _)⟩
end Go.Proofs.YtgjoehgomjgckaaGreatDoor
end
section
set_option linter.unusedVariables false
set_option linter.unusedSimpArgs false
namespace Go.Proofs.YtgjoehgomjgckaaGreatDoor
open Go Go.Ev
set_option maxRecDepth 100000
set_option linter.unusedVariables false
def Pj (l:ah) (w:World) (R:Value→World→Prop):Prop:=
 cX (fun (a:Int)=>[(3,some (.int .i64 a))])
 (fun b a c=>aA ((decide (a<(l.n:Int))) && (decide ((l.n:Int)≤8)))
 (aQ l.a a l.n
 (an .i64 (Addr.add (Addr.add (base l.a) (Int.toNat a * 6)) 0) c fun d=>
 (aF (a+1)∧
 aA (!decide (d=a+1))
 (R (.bool false) c)
 (aQ l.a a l.n
 (iJ (Addr.add (base l.a) (Int.toNat a * 6)) c fun e f g i j k=>
 ay Pr OM [.agg ⟨[.int .i64 e,.int .i64 f,.int .i64 g,.int .i64 i,.int .i64 j,.bool k]⟩] c fun m n=>
 aW m fun o=>
 aA (!o)
 (R (.bool false) n)
 ((aF (a+1)∧
 b (a+1) n)))))))
 (R (.bool (decide ((l.n:Int)≤8))) c))
 0 w
theorem afq {l:ah} {w:World} {R:Value→World→Prop} (h:Pj l w R):Ok Pr OJ [.slice l.a l.n l.c] w R:=
 aL (m:=⟨true,true⟩) (J:=[]) (L:=[(2,[(3,.int .i64)])]) aJ Tryz.func49 (by kernel_rfl) ((by kernel_rfl:aK Pr _ _ _ Tryz.f49 _ w R=Pj l w R).mpr h)
def Om (l:ah) (w:World) (R:Value→World→Prop):Prop:=
 cX (fun (a:Int)=>[(7,some (.int .i64 a))])
 (fun b a c=>aA (decide (a<(l.n:Int)))
 (aQ l.a a l.n
 (iJ (Addr.add (base l.a) (Int.toNat a * 6)) c fun d e f g i j=>
 nw cB (zc Pr cB) c fun k m=>
 oB k d e f g i j m fun n=>
 an .i64 (Addr.add k 0) n fun o=>
 (aF (a+1)∧
 iJ k n fun p q s t u v=>
 aA (!decide (o=a+1))
 (R (.bool false) n)
 (ay Pr G6 [.agg ⟨[.int .i64 p,.int .i64 q,.int .i64 s,.int .i64 t,.int .i64 u,.bool v]⟩] n fun x y=>
 aW x fun z=>
 aA (!z)
 (R (.bool false) y)
 ((aF (a+1)∧
 b (a+1) y))))))
 (R (.bool (decide ((l.n:Int)≤8))) c))
 0 w
theorem aeG {l:ah} {w:World} {R:Value→World→Prop} (h:Om l w R):Ok Pr A6 [.slice l.a l.n l.c] w R:=
 aL (m:=⟨true,true⟩) (J:=[]) (L:=[(2,[(7,.int .i64)])]) aJ Tryz.func69 (by kernel_rfl) ((by kernel_rfl:aK Pr _ _ _ Tryz.f69 _ w R=Om l w R).mpr h)
def Ku (s:ah) (f:Value) (w:World) (R:Value→World→Prop):Prop:=
 ay Pr Dn [.slice s.a s.n s.c,f] w fun a b=>
 aY .i64 a fun c=>
 R (.bool (decide (0≤c))) b
theorem abU {s:ah} {f:Value} {w:World} {R:Value→World→Prop} (h:Ku s f w R):Ok Pr Kt [.slice s.a s.n s.c,f] w R:=
 aL (m:=⟨true,true⟩) (J:=[]) (L:=[]) aJ Tryz.func73 (by kernel_rfl) ((by kernel_rfl:aK Pr _ _ _ Tryz.f73 _ w R=Ku s f w R).mpr h)
def KB (s:ah) (w:World) (R:Value→World→Prop):Prop:=
 aA (Option.isNone (α:=Addr) s.a)
 (R (.slice none 0 0) w)
 (nw cB [] w fun a b=>
 cJ Pr [mB,mB] mB [.slice (some a) 0 0,.slice s.a s.n s.c] b fun c d=>
 R (.slice c.a c.n c.c) d)
theorem abZ {s:ah} {w:World} {R:Value→World→Prop} (h:KB s w R):Ok Pr AS [.slice s.a s.n s.c] w R:=
 aL (m:=⟨true,true⟩) (J:=[]) (L:=[]) aJ Tryz.func79 (by kernel_rfl) ((by kernel_rfl:aK Pr _ _ _ Tryz.f79 _ w R=KB s w R).mpr h)
def Pk (eJ:Int) (eR:Int) (eX:Int) (eY:Int) (eZ:Int) (e6:Bool) (w:World) (R:Value→World→Prop):Prop:=
 nw cB [.int .i64 eJ,.int .i64 eR,.int .i64 eX,.int .i64 eY,.int .i64 eZ,.bool e6] w fun a b=>
 an .i64 (Addr.add a 1) b fun c=>
 an .i64 (Addr.add a 1) b fun d=>
 an .i64 (Addr.add a 2) b fun e=>
 an .i64 (Addr.add a 2) b fun f=>
 an .i64 (Addr.add a 4) b fun g=>
 an .i64 (Addr.add a 4) b fun i=>
 an .i64 (Addr.add a 3) b fun j=>
 an .i64 (Addr.add a 3) b fun k=>
 R (.bool ((((((((decide (1≤c)) && (decide (d≤6))) && (decide (1≤e))) && (decide (f≤6))) && (decide (1≤g))) && (decide (i≤1099511627776))) && (decide (0<j))) && (decide (vD .i64 k 3584=0)))) b
theorem afr {eJ:Int} {eR:Int} {eX:Int} {eY:Int} {eZ:Int} {e6:Bool} {w:World} {R:Value→World→Prop} (h:Pk eJ eR eX eY eZ e6 w R):Ok Pr OM [.agg ⟨[.int .i64 eJ,.int .i64 eR,.int .i64 eX,.int .i64 eY,.int .i64 eZ,.bool e6]⟩] w R:=
 aL (m:=⟨true,true⟩) (J:=[]) (L:=[]) aJ Tryz.func101 (by kernel_rfl) ((by kernel_rfl:aK Pr _ _ _ Tryz.f101 _ w R=Pk eJ eR eX eY eZ e6 w R).mpr h)
def ME (l:ah) (bG:ah) (token:ah) (w:World) (R:Value→World→Prop):Prop:=
 nw bJ [.slice bG.a bG.n bG.c] w fun a b=>
 nw bJ [.slice token.a token.n token.c] b fun c d=>
 nw cB (zc Pr cB) d fun e f=>
 ay Pr A6 [.slice l.a l.n l.c] f fun g i=>
 aW g fun j=>
 aA (!j)
 (ay Pr qE [.int .i64 2] i fun k m=>
 oB e 0 0 0 0 0 false m fun n=>
 iJ e n fun o p q s t u=>
 R (.tuple ⟨[.agg ⟨[.int .i64 o,.int .i64 p,.int .i64 q,.int .i64 s,.int .i64 t,.bool u]⟩,k]⟩) n)
 (ay Pr Dn [.slice l.a l.n l.c,.func (.func wL) ⟨[]⟩ ⟨[.pointer (some a),.pointer (some c)]⟩] i fun v x=>
 aY .i64 v fun y=>
 aA (decide (y<0))
 (ay Pr qE [.int .i64 15] x fun z A=>
 oB e 0 0 0 0 0 false A fun B=>
 iJ e B fun C D E F G I=>
 R (.tuple ⟨[.agg ⟨[.int .i64 C,.int .i64 D,.int .i64 E,.int .i64 F,.int .i64 G,.bool I]⟩,z]⟩) B)
 (aQ l.a y l.n
 (iJ (Addr.add (base l.a) (Int.toNat y * 6)) x fun J L M N O Q=>
 oB e J L M N O Q x fun S=>
 iJ e S fun T U V X Y Z=>
 R (.tuple ⟨[.agg ⟨[.int .i64 T,.int .i64 U,.int .i64 V,.int .i64 X,.int .i64 Y,.bool Z]⟩,.nilIface]⟩) S)))
theorem adz {l:ah} {bG:ah} {token:ah} {w:World} {R:Value→World→Prop} (h:ME l bG token w R):Ok Pr GV [.slice l.a l.n l.c,.slice bG.a bG.n bG.c,.slice token.a token.n token.c] w R:=
 aL (m:=⟨true,true⟩) (J:=[]) (L:=[]) aJ Tryz.func109 (by kernel_rfl) ((by kernel_rfl:aK Pr _ _ _ Tryz.f109 _ w R=ME l bG token w R).mpr h)
def L7 (eJ:Int) (eR:Int) (eX:Int) (eY:Int) (eZ:Int) (e6:Bool) (key:Int) (ek:Int) (op:Int) (clock:Int) (w:World) (R:Value→World→Prop):Prop:=
 nw cB [.int .i64 eJ,.int .i64 eR,.int .i64 eX,.int .i64 eY,.int .i64 eZ,.bool e6] w fun a b=>
 jz (fun (c:Bool)=>[(43,some (.bool c))])
 (fun c d=>aA c
 (ay Pr qE [.int .i64 10] d fun e f=>
 R e f)
 (R (.nilIface) d))
 (fun g=>
 mH (Addr.add a 5) b fun i=>
 an .i64 (Addr.add a 1) b fun j=>
 an .i64 (Addr.add a 2) b fun k=>
 aA ((i || (!decide (j=key))) || (!decide (k=ek)))
 (an .i64 (Addr.add a 3) b fun l=>
 an .i64 (Addr.add a 4) b fun m=>
 g true b)
 (ay Pr yO [.int .i64 op,.int .i64 1,.int .i64 13] b fun n o=>
 aW n fun p=>
 an .i64 (Addr.add a 3) o fun q=>
 aA (!p)
 (an .i64 (Addr.add a 4) o fun s=>
 g true o)
 (gX op (an .i64 (Addr.add a 4) o fun t=>
 g ((decide (iC .i64 (shr .i64 q op) 1=0)) || (decide (t<clock))) o))))
theorem adg {eJ:Int} {eR:Int} {eX:Int} {eY:Int} {eZ:Int} {e6:Bool} {key:Int} {ek:Int} {op:Int} {clock:Int} {w:World} {R:Value→World→Prop} (h:L7 eJ eR eX eY eZ e6 key ek op clock w R):Ok Pr LV [.agg ⟨[.int .i64 eJ,.int .i64 eR,.int .i64 eX,.int .i64 eY,.int .i64 eZ,.bool e6]⟩,.int .i64 key,.int .i64 ek,.int .i64 op,.int .i64 clock] w R:=
 aL (m:=⟨true,true⟩) (J:=[(2,[(43,.bool)])]) (L:=[]) aJ Tryz.func110 (by kernel_rfl) ((by kernel_rfl:aK Pr _ _ _ Tryz.f110 _ w R=L7 eJ eR eX eY eZ e6 key ek op clock w R).mpr h)
def L8 (l:ah) (fC:Int) (w:World) (R:Value→World→Prop):Prop:=
 ay Pr A6 [.slice l.a l.n l.c] w fun a b=>
 aW a fun c=>
 aA (!c)
 (ay Pr qE [.int .i64 2] b fun d e=>
 R (.tuple ⟨[.slice none 0 0,d]⟩) e)
 (ay Pr yO [.int .i64 fC,.int .i64 1,.int .i64 (l.n:Int)] b fun f g=>
 aW f fun i=>
 aA (!i)
 (ay Pr qE [.int .i64 9] g fun j k=>
 R (.tuple ⟨[.slice none 0 0,j]⟩) k)
 ((aF (fC - 1)∧
 aQ l.a (fC - 1) l.n
 (mH (Addr.add (Addr.add (base l.a) (Int.toNat (fC - 1) * 6)) 5) g fun m=>
 aA m
 (ay Pr qE [.int .i64 11] g fun n o=>
 R (.tuple ⟨[.slice none 0 0,n]⟩) o)
 (ay Pr AS [.slice l.a l.n l.c] g fun p q=>
 aU p fun s=>
 (aF (fC - 1)∧
 aQ s.a (fC - 1) s.n
 (st (Addr.add (Addr.add (base s.a) (Int.toNat (fC - 1) * 6)) 5) (.bool true) q fun t=>
 R (.tuple ⟨[.slice s.a s.n s.c,.nilIface]⟩) t)))))))
theorem adh {l:ah} {fC:Int} {w:World} {R:Value→World→Prop} (h:L8 l fC w R):Ok Pr LW [.slice l.a l.n l.c,.int .i64 fC] w R:=
 aL (m:=⟨true,true⟩) (J:=[]) (L:=[]) aJ Tryz.func116 (by kernel_rfl) ((by kernel_rfl:aK Pr _ _ _ Tryz.f116 _ w R=L8 l fC w R).mpr h)
def On (l:ah) (eJ:Int) (eR:Int) (eX:Int) (eY:Int) (eZ:Int) (e6:Bool) (w:World) (R:Value→World→Prop):Prop:=
 nw cB [.int .i64 eJ,.int .i64 eR,.int .i64 eX,.int .i64 eY,.int .i64 eZ,.bool e6] w fun a b=>
 jL []
 (fun c=>(aF ((l.n:Int)+1)∧
 st (Addr.add a 0) (.int .i64 ((l.n:Int)+1)) c fun d=>
 st (Addr.add a 5) (.bool false) d fun e=>
 iJ a (World.drew e) fun f g i j k m=>
 an .i64 (Addr.add a 0) (World.drew e) fun n=>
 ((ay Pr AS [.slice l.a l.n l.c] (World.drew e) fun o p=>
 aU o fun q=>
 (kept (Addr.add a 0) 1 (World.drew e) p∧
 (kept a 6 (World.drew e) p∧
 nw cB [.int .i64 f,.int .i64 g,.int .i64 i,.int .i64 j,.int .i64 k,.bool m] p fun s t=>
 (kept (Addr.add a 0) 1 p t∧
 cJ Pr [mB,mB] mB [.slice q.a q.n q.c,.slice (some s) 1 1] t fun u v=>
 (kept (Addr.add a 0) 1 t v∧
 R (.tuple ⟨[.slice u.a u.n u.c,.int .i64 n,.nilIface]⟩) v)))))∧
 (nw cB [.int .i64 f,.int .i64 g,.int .i64 i,.int .i64 j,.int .i64 k,.bool m] (World.drew e) fun x y=>
 (kept (Addr.add a 0) 1 (World.drew e) y∧
 ay Pr AS [.slice l.a l.n l.c] y fun z A=>
 aU z fun B=>
 (kept (Addr.add a 0) 1 y A∧
 (kept a 6 y A∧
 cJ Pr [mB,mB] mB [.slice B.a B.n B.c,.slice (some x) 1 1] A fun C D=>
 (kept (Addr.add a 0) 1 A D∧
 R (.tuple ⟨[.slice C.a C.n C.c,.int .i64 n,.nilIface]⟩) D))))))))
 (fun E=>
 jz (fun (F:Bool)=>[(7,some (.bool F))])
 (fun F G=>aA F
 (ay Pr qE [.int .i64 2] G fun I J=>
 R (.tuple ⟨[.slice none 0 0,.int .i64 0,I]⟩) J)
 (aA (decide ((l.n:Int)=8))
 (ay Pr qE [.int .i64 12] G fun L M=>
 R (.tuple ⟨[.slice none 0 0,.int .i64 0,L]⟩) M)
 (E G)))
 (fun N=>
 ay Pr A6 [.slice l.a l.n l.c] b fun O Q=>
 aW O fun S=>
 aA (!S)
 (N (!S) Q)
 (iJ a Q fun T U V X Y Z=>
 ay Pr G6 [.agg ⟨[.int .i64 T,.int .i64 U,.int .i64 V,.int .i64 X,.int .i64 Y,.bool Z]⟩] Q fun aa ba=>
 aW aa fun ca=>
 N (!ca) ba)))
theorem aeH {l:ah} {eJ:Int} {eR:Int} {eX:Int} {eY:Int} {eZ:Int} {e6:Bool} {w:World} {R:Value→World→Prop} (h:On l eJ eR eX eY eZ e6 w R):Ok Pr NO [.slice l.a l.n l.c,.agg ⟨[.int .i64 eJ,.int .i64 eR,.int .i64 eX,.int .i64 eY,.int .i64 eZ,.bool e6]⟩] w R:=
 aL (m:=⟨true,true⟩) (J:=[(6,[]),(3,[(7,.bool)])]) (L:=[]) aJ Tryz.func117 (by kernel_rfl) ((by kernel_rfl:aK Pr _ _ _ Tryz.f117 _ w R=On l eJ eR eX eY eZ e6 w R).mpr h)
def MF (bG:ah) (eJ:Int) (eR:Int) (eX:Int) (eY:Int) (eZ:Int) (e6:Bool) (w:World) (R:Value→World→Prop):Prop:=
 nw cB [.int .i64 eJ,.int .i64 eR,.int .i64 eX,.int .i64 eY,.int .i64 eZ,.bool e6] w fun a b=>
 an .i64 (Addr.add a 0) b fun c=>
 an .i64 (Addr.add a 1) b fun d=>
 an .i64 (Addr.add a 2) b fun e=>
 an .i64 (Addr.add a 3) b fun f=>
 an .i64 (Addr.add a 4) b fun g=>
 nw bH [.int .i64 c,.int .i64 d,.int .i64 e,.int .i64 f,.int .i64 g] b fun i j=>
 ay Pr G7 [.slice none 0 0,.slice (some i) 5 5] j fun k l=>
 aU k fun m=>
 an .i64 (Addr.add a 0) (World.drew l) fun n=>
 ((nw aX [.int .u8 (IntKind.wrap .u8 (n))] (World.drew l) fun o p=>
 nw bJ [.slice bG.a bG.n bG.c] p fun q s=>
 (kept (Addr.add a 0) 1 p s∧
 ay Pr A7 [.slice none 0 0,.slice (some q) 1 1] s fun t u=>
 aU t fun v=>
 (kept (Addr.add a 0) 1 s u∧
 nw bJ [.slice v.a v.n v.c,.slice m.a m.n m.c] u fun x y=>
 (kept (Addr.add a 0) 1 u y∧
 ay Pr s7 [.int .i64 32,.slice (some x) 2 2] y fun z A=>
 aU z fun B=>
 (kept (Addr.add a 0) 1 y A∧
 cJ Pr [bJ,bJ] bJ [.slice (some o) 1 1,.slice B.a B.n B.c] A fun C D=>
 R (.slice C.a C.n C.c) D)))))∧
 (nw bJ [.slice bG.a bG.n bG.c] (World.drew l) fun E F=>
 (kept (Addr.add a 0) 1 (World.drew l) F∧
 ((nw aX [.int .u8 (IntKind.wrap .u8 (n))] F fun G I=>
 ay Pr A7 [.slice none 0 0,.slice (some E) 1 1] I fun J L=>
 aU J fun M=>
 (kept (Addr.add a 0) 1 I L∧
 nw bJ [.slice M.a M.n M.c,.slice m.a m.n m.c] L fun N O=>
 (kept (Addr.add a 0) 1 L O∧
 ay Pr s7 [.int .i64 32,.slice (some N) 2 2] O fun Q S=>
 aU Q fun T=>
 (kept (Addr.add a 0) 1 O S∧
 cJ Pr [bJ,bJ] bJ [.slice (some G) 1 1,.slice T.a T.n T.c] S fun U V=>
 R (.slice U.a U.n U.c) V))))∧
 (ay Pr A7 [.slice none 0 0,.slice (some E) 1 1] F fun X Y=>
 aU X fun Z=>
 (kept (Addr.add a 0) 1 F Y∧
 ((nw aX [.int .u8 (IntKind.wrap .u8 (n))] Y fun aa ba=>
 nw bJ [.slice Z.a Z.n Z.c,.slice m.a m.n m.c] ba fun ca da=>
 (kept (Addr.add a 0) 1 ba da∧
 ay Pr s7 [.int .i64 32,.slice (some ca) 2 2] da fun ea fa=>
 aU ea fun ga=>
 (kept (Addr.add a 0) 1 da fa∧
 cJ Pr [bJ,bJ] bJ [.slice (some aa) 1 1,.slice ga.a ga.n ga.c] fa fun ia ja=>
 R (.slice ia.a ia.n ia.c) ja)))∧
 (nw bJ [.slice Z.a Z.n Z.c,.slice m.a m.n m.c] Y fun ka la=>
 (kept (Addr.add a 0) 1 Y la∧
 ((nw aX [.int .u8 (IntKind.wrap .u8 (n))] la fun ma na=>
 ay Pr s7 [.int .i64 32,.slice (some ka) 2 2] na fun oa pa=>
 aU oa fun qa=>
 (kept (Addr.add a 0) 1 na pa∧
 cJ Pr [bJ,bJ] bJ [.slice (some ma) 1 1,.slice qa.a qa.n qa.c] pa fun sa ta=>
 R (.slice sa.a sa.n sa.c) ta))∧
 (ay Pr s7 [.int .i64 32,.slice (some ka) 2 2] la fun ua va=>
 aU ua fun xa=>
 (kept (Addr.add a 0) 1 la va∧
 nw aX [.int .u8 (IntKind.wrap .u8 (n))] va fun ya za=>
 cJ Pr [bJ,bJ] bJ [.slice (some ya) 1 1,.slice xa.a xa.n xa.c] za fun Aa Ba=>
 R (.slice Aa.a Aa.n Aa.c) Ba))))))))))))
theorem adA {bG:ah} {eJ:Int} {eR:Int} {eX:Int} {eY:Int} {eZ:Int} {e6:Bool} {w:World} {R:Value→World→Prop} (h:MF bG eJ eR eX eY eZ e6 w R):Ok Pr GX [.slice bG.a bG.n bG.c,.agg ⟨[.int .i64 eJ,.int .i64 eR,.int .i64 eX,.int .i64 eY,.int .i64 eZ,.bool e6]⟩] w R:=
 aL (m:=⟨true,true⟩) (J:=[]) (L:=[]) aJ Tryz.func118 (by kernel_rfl) ((by kernel_rfl:aK Pr _ _ _ Tryz.f118 _ w R=MF bG eJ eR eX eY eZ e6 w R).mpr h)
def Nq (eJ:Int) (eR:Int) (eX:Int) (eY:Int) (eZ:Int) (e6:Bool) (w:World) (R:Value→World→Prop):Prop:=
 nw cB [.int .i64 eJ,.int .i64 eR,.int .i64 eX,.int .i64 eY,.int .i64 eZ,.bool e6] w fun a b=>
 an .i64 (Addr.add a 1) b fun c=>
 ay Pr yO [.int .i64 c,.int .i64 1,.int .i64 6] b fun d e=>
 aW d fun f=>
 an .i64 (Addr.add a 2) e fun g=>
 aA f
 (ay Pr yO [.int .i64 g,.int .i64 1,.int .i64 6] e fun i j=>
 aW i fun k=>
 an .i64 (Addr.add a 4) j fun l=>
 aA k
 (ay Pr yO [.int .i64 l,.int .i64 1,.int .i64 1099511627776] j fun m n=>
 aW m fun o=>
 an .i64 (Addr.add a 3) n fun p=>
 an .i64 (Addr.add a 3) n fun q=>
 R (.bool ((o && (!decide (p=0))) && (decide (vD .i64 q 3584=0)))) n)
 (an .i64 (Addr.add a 3) j fun s=>
 an .i64 (Addr.add a 3) j fun t=>
 R (.bool false) j))
 (an .i64 (Addr.add a 4) e fun u=>
 an .i64 (Addr.add a 3) e fun v=>
 an .i64 (Addr.add a 3) e fun x=>
 R (.bool false) e)
theorem ad4 {eJ:Int} {eR:Int} {eX:Int} {eY:Int} {eZ:Int} {e6:Bool} {w:World} {R:Value→World→Prop} (h:Nq eJ eR eX eY eZ e6 w R):Ok Pr G6 [.agg ⟨[.int .i64 eJ,.int .i64 eR,.int .i64 eX,.int .i64 eY,.int .i64 eZ,.bool e6]⟩] w R:=
 aL (m:=⟨true,true⟩) (J:=[]) (L:=[]) aJ Tryz.func125 (by kernel_rfl) ((by kernel_rfl:aK Pr _ _ _ Tryz.f125 _ w R=Nq eJ eR eX eY eZ e6 w R).mpr h)
def GA (s:ah) (f:Value) (w:World) (R:Value→World→Prop):Prop:=
 cX (fun (a:Int)=>[(8,some (.int .i64 a))])
 (fun b a c=>aA (decide (a<(s.n:Int)))
 (aQ s.a a s.n
 (iJ (Addr.add (base s.a) (Int.toNat a * 6)) c fun d e g i j k=>
 lX Pr f [.agg ⟨[.int .i64 d,.int .i64 e,.int .i64 g,.int .i64 i,.int .i64 j,.bool k]⟩] c fun l m=>
 aW l fun n=>
 aA n
 (R (.int .i64 a) m)
 ((aF (a+1)∧
 b (a+1) m))))
 (R (.int .i64 (-1:Int)) c))
 0 w
theorem Ur {s:ah} {f:Value} {w:World} {R:Value→World→Prop} (h:GA s f w R):Ok Pr Dn [.slice s.a s.n s.c,f] w R:=
 aL (m:=⟨true,true⟩) (J:=[]) (L:=[(2,[(8,.int .i64)])]) aJ Tryz.func129 (by kernel_rfl) ((by kernel_rfl:aK Pr _ _ _ Tryz.f129 _ w R=GA s f w R).mpr h)
def MG (code:Int) (w:World) (R:Value→World→Prop):Prop:=
 nw pI [.int .i64 code,.string ajB] w fun a b=>
 R (.iface jw (.pointer (some a))) b
theorem adB {code:Int} {w:World} {R:Value→World→Prop} (h:MG code w R):Ok Pr qE [.int .i64 code] w R:=
 aL (m:=⟨true,true⟩) (J:=[]) (L:=[]) aJ Tryz.func151 (by kernel_rfl) ((by kernel_rfl:aK Pr _ _ _ Tryz.f151 _ w R=MG code w R).mpr h)
def LN (eJ:Int) (eR:Int) (eX:Int) (eY:Int) (eZ:Int) (e6:Bool) (free:Addr) (kA:Addr) (w:World) (R:Value→World→Prop):Prop:=
 nw cB [.int .i64 eJ,.int .i64 eR,.int .i64 eX,.int .i64 eY,.int .i64 eZ,.bool e6] w fun a b=>
 ax free (World.drew b) fun c=>
 iJ a (World.drew b) fun d e f g i j=>
 ax kA (World.drew b) fun k=>
 ay Pr GX [.slice c.a c.n c.c,.agg ⟨[.int .i64 d,.int .i64 e,.int .i64 f,.int .i64 g,.int .i64 i,.bool j]⟩] (World.drew b) fun l m=>
 aU l fun n=>
 (kept kA 1 (World.drew b) m∧
 ay Pr DF [.slice n.a n.n n.c,.slice k.a k.n k.c] m fun o p=>
 aW o fun q=>
 R (.bool q) p)
theorem acQ {eJ:Int} {eR:Int} {eX:Int} {eY:Int} {eZ:Int} {e6:Bool} {free:Addr} {kA:Addr} {w:World} {R:Value→World→Prop} (h:LN eJ eR eX eY eZ e6 free kA w R):Ok Pr wL [.agg ⟨[.int .i64 eJ,.int .i64 eR,.int .i64 eX,.int .i64 eY,.int .i64 eZ,.bool e6]⟩,.pointer (some free),.pointer (some kA)] w R:=
 aL (m:=⟨true,true⟩) (J:=[]) (L:=[]) aJ Tryz.func152 (by kernel_rfl) ((by kernel_rfl:aK Pr _ _ _ Tryz.f152 _ w R=LN eJ eR eX eY eZ e6 free kA w R).mpr h)
def Pm (n:Int) (lo:Int) (hi:Int) (w:World) (R:Value→World→Prop):Prop:=
 R (.bool ((decide (lo≤n)) && (decide (n≤hi)))) w
theorem afs {n:Int} {lo:Int} {hi:Int} {w:World} {R:Value→World→Prop} (h:Pm n lo hi w R):Ok Pr yO [.int .i64 n,.int .i64 lo,.int .i64 hi] w R:=
 aL (m:=⟨true,true⟩) (J:=[]) (L:=[]) aJ Tryz.func154 (by kernel_rfl) ((by kernel_rfl:aK Pr _ _ _ Tryz.f154 _ w R=Pm n lo hi w R).mpr h)
end Go.Proofs.YtgjoehgomjgckaaGreatDoor
end
section
set_option linter.unusedVariables false
set_option linter.unusedSimpArgs false
namespace Go.Proofs.YtgjoehgomjgckaaGreatDoor
open Go Go.Ev
set_option maxRecDepth 20000
set_option linter.unusedVariables false
structure bQ where
 (n0 n1 n2 n3 n4:Int)
 rev:Bool
@[reducible] def bQ.cells (g:bQ):List Value:=rE g.n0 g.n1 g.n2 g.n3 g.n4 g.rev
def gz:bQ:=⟨0,0,0,0,0,false⟩
def dK (l:List bQ):List Value:=(l.map bQ.cells).flatten
theorem aih (a b:List bQ):dK (a ++ b)=dK a ++ dK b:=by simp [dK]
theorem Qs (l:List bQ):(dK l).length=6 * l.length:=by
 induction l with
 | nil=>rfl
 | cons a r ih=>
  show (a.cells ++ dK r).length=_
  rw [List.length_append,ih]
  show 6+6 * r.length=6 * (r.length+1)
  omega
theorem YF:∀ (l:List bQ) (i j:Nat) (v:Value),i<l.length→(l.getD i gz).cells[j]? = some v→(dK l)[i * 6+j]? = some v
 | [],i,j,v,h,_=>by simp at h
 | a :: r,0,j,v,_,h=>by
  show (a.cells ++ dK r)[0 * 6+j]? = _
  have h:a.cells[j]? = some v:=h
  rw [Nat.zero_mul,Nat.zero_add,List.getElem?_append_left (List.getElem?_eq_some_iff.1 h).1]
  exact h
 | a :: r,i+1,j,v,hi,h=>by
  show (a.cells ++ dK r)[(i+1) * 6+j]? = _
  have hl:a.cells.length=6:=rfl
  rw [List.getElem?_append_right (by omega),hl,show (i+1) * 6+j - 6=i * 6+j by omega]
  exact YF r i j v (by simpa using hi) (by simpa using h)
theorem Rm (l:List bQ):∀ v∈dK l,ey v=true:=by
 intro v hv
 obtain ⟨c,hc,hv⟩:=List.mem_flatten.1 hv
 obtain ⟨g,-,rfl⟩:=List.mem_map.1 hc
 simp only [List.mem_cons,List.not_mem_nil,or_false] at hv
 rcases hv with rfl | rfl | rfl | rfl | rfl | rfl <;> rfl
def gU (w:World) (s:ah) (l:List bQ):Prop:=Sl w s 6 (dK l)
theorem gU.len {w:World} {s:ah} {l:List bQ} (h:gU w s l):l.length=s.n:=by
 have:=Sl.len h
 rw [Qs] at this
 omega
theorem gU.aG {w w':World} {s:ah} {l:List bQ} (h:gU w s l) (m:Mod [] w w'):gU w' s l:=Sl.aG h m
theorem gU.nil (w:World):gU w ⟨none,0,0⟩ []:=Sl.nil w 6
theorem gU.cell {w:World} {s:ah} {l:List bQ} (h:gU w s l) {i j:Nat} {v:Value} (hi:i<l.length) (hv:(l.getD i gz).cells[j]? = some v):w.cell? (Addr.add (Addr.add (base s.a) (i * 6)) j)=some v:=by
 rw [add_add]
 exact Sl.cell h _ _ (YF l i j v hi hv)
theorem gU.ld {w:World} {s:ah} {l:List bQ} (h:gU w s l) {i:Nat} (hi:i<l.length) {x:Int} (hx:x=(i:Int)) {K:Int→Int→Int→Int→Int→Bool→Prop} (hk:K (l.getD i gz).n0 (l.getD i gz).n1 (l.getD i gz).n2 (l.getD i gz).n3 (l.getD i gz).n4 (l.getD i gz).rev) :
  aQ s.a x s.n (iJ (Addr.add (base s.a) (Int.toNat x * 6)) w K):=by
 subst hx
 have hl:=h.len
 refine ⟨⟨Sl.pre h (by omega),by omega,by omega⟩,?_⟩
 rw [Int.toNat_natCast]
 exact L5 (fun j v hv=>h.cell hi hv) hk
theorem RY:fk Pr mB cB 6 48:=fk.of (by kernel_rfl)
theorem DA (c:Int) (hc:c≠0) (w:World):Ok Pr qE [.int .i64 c] w fun v w'=>cP w w' v c∧Mod [] w w':=by
 refine adB ?_
 unfold MG
 exact qM fun b w' hb h1 h2 _=>⟨cP.mk h1 (by omega) hc,h2⟩
theorem DO (n lo hi:Int) (w:World):Ok Pr yO [.int .i64 n,.int .i64 lo,.int .i64 hi] w fun v w'=>v=.bool (aS lo hi n)∧w'=w:=by
 refine afs ?_
 unfold Pm
 exact ⟨rfl,rfl⟩
def lq (g:bQ):Bool:=aS 1 6 g.n1 && (aS 1 6 g.n2 && (aS 1 1099511627776 g.n4 && ((!decide (g.n3=0)) && decide (vD .i64 g.n3 3584=0))))
theorem U6 (g:bQ) (w:World):Ok Pr G6 [.agg ⟨g.cells⟩] w fun v w'=>v=.bool (lq g)∧Mod [] w w':=by
 refine ad4 ?_
 unfold Nq
 refine (ak.start w).nw fun p w1 H _=>?_
 unfold lq
 refine H.an 0 rfl (au p 1) rfl (aB (DO _ _ _ _) ?_)
 rintro _ w2 ⟨rfl,hw⟩
 subst hw
 refine bz (H.an 0 rfl (au p 2) rfl (bV (fun h1=>?_) (fun h1=>?_)))
 ·rw [h1,Bool.true_and]
  refine aB (DO _ _ _ _) ?_
  rintro _ w3 ⟨rfl,hw⟩
  subst hw
  refine bz (H.an 0 rfl (au p 4) rfl (bV (fun h2=>?_) (fun h2=>?_)))
  ·rw [h2,Bool.true_and]
   refine aB (DO _ _ _ _) ?_
   rintro _ w4 ⟨rfl,hw⟩
   subst hw
   refine bz (H.an 0 rfl (au p 3) rfl (H.an 0 rfl (au p 3) rfl ⟨?_,H.mod⟩))
   rw [Bool.and_assoc]
  ·rw [h2]
   exact H.an 0 rfl (au p 3) rfl (H.an 0 rfl (au p 3) rfl ⟨rfl,H.mod⟩)
 ·rw [h1]
  exact H.an 0 rfl (au p 4) rfl (H.an 0 rfl (au p 3) rfl (H.an 0 rfl (au p 3) rfl ⟨rfl,H.mod⟩))
theorem alf {x:Int} (h:x<0) (h2:-9223372036854775808≤x):¬ vD .i64 x 3584=0:=by
 intro he
 unfold vD at he
 have hm:(BitVec.ofInt 64 x).msb=true:=by
  rw [BitVec.msb_eq_decide,BitVec.toNat_ofInt]
  refine decide_eq_true ?_
  omega
 have hv:(BitVec.ofInt 64 x &&& ~~~ BitVec.ofInt 64 3584).msb=true:=by
  rw [BitVec.msb_and,hm]
  decide
 have hn:=BitVec.msb_eq_decide (BitVec.ofInt 64 x &&& ~~~ BitVec.ofInt 64 3584)
 rw [hv] at hn
 have hn:=of_decide_eq_true hn.symm
 have bZ:=(BitVec.ofInt 64 x &&& ~~~ BitVec.ofInt 64 3584).isLt
 have he:IntKind.wrap .i64 (((BitVec.ofInt 64 x &&& ~~~ BitVec.ofInt 64 3584).toNat:Nat):Int)=0:=he
 generalize (BitVec.ofInt 64 x &&& ~~~ BitVec.ofInt 64 3584).toNat=n at *
 have e:IntKind.wrap .i64 (n:Int)=(n:Int) - 18446744073709551616:=by
  have e:IntKind.wrap .i64 (n:Int)=if (n:Int) % 18446744073709551616 ≥ 9223372036854775808 then (n:Int) % 18446744073709551616 - 18446744073709551616 else (n:Int) % 18446744073709551616:=by
   simp [IntKind.wrap,IntKind.signed,IntKind.bits]
  rw [e,if_pos (by omega)]
  omega
 omega
def bQ.fit (g:bQ):Prop:=-9223372036854775808≤g.n3
theorem ag3 (g:bQ) (hf:g.fit) (w:World):Ok Pr OM [.agg ⟨g.cells⟩] w fun v w'=>v=.bool (lq g)∧Mod [] w w':=by
 refine afr ?_
 unfold Pk
 refine (ak.start w).nw fun p w1 H _=>?_
 refine H.an 0 rfl (au p 1) rfl (H.an 0 rfl (au p 1) rfl (H.an 0 rfl (au p 2) rfl (H.an 0 rfl (au p 2) rfl (H.an 0 rfl (au p 4) rfl (H.an 0 rfl (au p 4) rfl (H.an 0 rfl (au p 3) rfl (H.an 0 rfl (au p 3) rfl ⟨?_,H.mod⟩)))))))
 congr 1
 unfold lq aS
 have e:(decide ((0:Int)<g.n3) && decide (vD .i64 g.n3 3584=0))=((!decide (g.n3=0)) && decide (vD .i64 g.n3 3584=0)):=by
  rcases Int.lt_trichotomy g.n3 0 with h | h | h
  ·rw [decide_eq_false (alf h hf),Bool.and_false,Bool.and_false]
  ·rw [h]; rfl
  ·rw [decide_eq_true h,decide_eq_false (show ¬ g.n3=0 by omega)]; rfl
 rw [← e]
 simp only [Bool.and_assoc]
def p6 (l:List bQ):Nat→Bool
 | 0=>true
 | i+1=>p6 l i && (decide ((l.getD i gz).n0=(i:Int)+1) && lq (l.getD i gz))
def gy (l:List bQ):Bool:=p6 l l.length && decide (l.length≤8)
theorem YG {l:List bQ} {i:Nat} (hi:i<l.length) (h:(decide ((l.getD i gz).n0=(i:Int)+1) && lq (l.getD i gz))=false):p6 l l.length=false:=by
 have:∀ k,i<k→p6 l k=false:=by
  intro k hk
  induction k with
  | zero=>omega
  | succ k ih=>
   unfold p6
   rcases Nat.lt_or_ge i k with h1 | h1
   ·rw [ih h1]; rfl
   ·have:k=i:=by omega
    subst this
    rw [h,Bool.and_false]
 exact this _ hi
theorem Hf (x:ah) (l:List bQ) (hl:l.length≤1000000) (w:World) (hx:gU w x l):Ok Pr A6 [.slice x.a x.n x.c] w fun v w'=>v=.bool (gy l)∧Mod [] w w':=by
 refine aeG ?_
 unfold Om
 have bU:=hx.len
 have qn:zc Pr cB=gz.cells:=by kernel_rfl
 rw [qn]
 unfold gy
 refine dm 0 l.length (fun i w'=>ak w [] w' []∧p6 l i=true) rfl (by omega) ⟨ak.start w,rfl⟩ ?_ ?_
 ·rintro again i w1 _ hi ⟨H,ho⟩ aM
  refine ite_true (decide_eq_true (by omega)) ((hx.aG H.mod).ld hi rfl (H.nw fun p w2 H _=>H.oB 0 rfl rfl fun w3 H=>?_))
  have dz:=YG (l:=l) hi
  have ql:p6 l (i+1)=(p6 l i && (decide ((l.getD i gz).n0=(i:Int)+1) && lq (l.getD i gz))):=rfl
  generalize l.getD i gz=g at *
  refine H.an 0 rfl (au p 0) rfl ⟨⟨by omega,by omega⟩,H.iJ 0 rfl (bV (fun h=>?_) (fun h=>?_))⟩
  ·have h:decide (g.n0=(i:Int)+1)=false:=by simpa using h
   rw [dz (by rw [h]; rfl)]
   exact ⟨rfl,H.mod⟩
  ·have h:decide (g.n0=(i:Int)+1)=true:=by simpa using h
   refine aB (U6 g _) ?_
   rintro _ w4 ⟨rfl,m4⟩
   have H:=H.frame m4
   refine bz (bV (fun h2=>?_) (fun h2=>?_))
   ·have h2:lq g=false:=by simpa using h2
    rw [dz (by rw [h2,Bool.and_false])]
    exact ⟨rfl,H.mod⟩
   ·have h2:lq g=true:=by simpa using h2
    refine ⟨⟨by omega,by omega⟩,aM w4 ⟨H.take 0,?_⟩⟩
    rw [ql,ho,h,h2]; rfl
 ·rintro again w1 ⟨H,ho⟩
  refine ite_false (decide_eq_false (by omega)) ⟨?_,H.mod⟩
  rw [ho,Bool.true_and]
  congr 1
  exact decide_eq_decide.2 (by omega)
theorem ag4 (x:ah) (l:List bQ) (hf:∀ g∈l,g.fit) (hl:l.length≤1000000) (w:World) (hx:gU w x l):Ok Pr OJ [.slice x.a x.n x.c] w fun v w'=>v=.bool (gy l)∧Mod [] w w':=by
 refine afq ?_
 unfold Pj
 have bU:=hx.len
 unfold gy
 refine dm 0 l.length (fun i w'=>ak w [] w' []∧p6 l i=true) rfl (by omega) ⟨ak.start w,rfl⟩ ?_ ?_
 ·rintro again i w1 _ hi ⟨H,ho⟩ aM
  refine bV (fun hc=>?_) (fun hc=>?_)
  ·have Kc:=hx.aG H.mod
   have nC:=Kc.cell (i:=i) (j:=0) hi rfl
   refine ⟨⟨Sl.pre hx (by omega),by omega,by omega⟩,(l.getD i gz).n0,by rw [Int.toNat_natCast]; exact nC,⟨by omega,by omega⟩,?_⟩
   have dz:=YG (l:=l) hi
   have ql:p6 l (i+1)=(p6 l i && (decide ((l.getD i gz).n0=(i:Int)+1) && lq (l.getD i gz))):=rfl
   have JA:=hf (l.getD i gz) (by simp [hi])
   refine bV (fun h=>?_) (fun h=>Kc.ld hi rfl ?_)
   ·have h:decide ((l.getD i gz).n0=(i:Int)+1)=false:=by simpa using h
    rw [dz (by rw [h]; rfl)]
    exact ⟨rfl,H.mod⟩
   ·have h:decide ((l.getD i gz).n0=(i:Int)+1)=true:=by simpa using h
    refine aB (ag3 (l.getD i gz) JA _) ?_
    rintro _ w4 ⟨rfl,m4⟩
    have H:=H.frame m4
    refine bz (bV (fun h2=>?_) (fun h2=>?_))
    ·have h2:lq (l.getD i gz)=false:=by simpa using h2
     rw [dz (by rw [h2,Bool.and_false])]
     exact ⟨rfl,H.mod⟩
    ·have h2:lq (l.getD i gz)=true:=by simpa using h2
     refine ⟨⟨by omega,by omega⟩,aM w4 ⟨H,?_⟩⟩
     rw [ql,ho,h,h2]; rfl
  ·have h8:¬ l.length≤8:=by
    intro h8
    simp only [Bool.and_eq_false_iff,decide_eq_false_iff_not] at hc
    omega
   refine ⟨?_,H.mod⟩
   rw [decide_eq_false h8,Bool.and_false]
   congr 1
   exact decide_eq_false (by omega)
 ·rintro again w1 ⟨H,ho⟩
  refine ite_false (by rw [decide_eq_false (show ¬ ((l.length:Nat):Int)<((x.n:Nat):Int) by omega)]; rfl) ⟨?_,H.mod⟩
  rw [ho,Bool.true_and]
  congr 1
  exact decide_eq_decide.2 (by omega)
theorem GN (x:ah) (l:List bQ) (hl:l.length≤1000000) (w:World) (hx:gU w x l):Ok Pr AS [.slice x.a x.n x.c] w fun v w'=>∃ y:ah,v=.slice y.a y.n y.c∧Own w' w.heap.size cB 6 y (dK l)∧y.n=x.n∧Mod [] w w':=by
 refine abZ ?_
 unfold KB
 have bU:=hx.len
 refine bV (fun h=>?_) (fun h=>?_)
 ·have h0:x.n=0:=by
   rcases Nat.eq_zero_or_pos x.n with e | e
   ·exact e
   ·have:=Sl.pre hx e
    cases ha:x.a with
    | none=>rw [ha] at this; cases this
    | some a=>rw [ha] at h; cases h
  obtain rfl:l=[]:=List.eq_nil_of_length_eq_zero (by omega)
  exact ⟨⟨none,0,0⟩,rfl,Own.nil _ _ _ _,h0.symm,Mod.refl _ _⟩
 ·refine (ak.start w).nw fun p w1 H _=>?_
  have H:=H.rM 0 6 0 0 rfl rfl (Nat.le_refl _) (by simp only [maxLen]; omega)
  refine H.app (s:=⟨some ⟨p,0,none⟩,0,0⟩) (vs:=[]) 0 RY rfl (hx.aG H.mod) (Rm l) (by show (0+x.n) * 48≤_; omega) (by show 0+x.n≤_; omega) fun y w2 H hy=>?_
  exact ⟨y,rfl,H.fS 0 rfl,by rw [hy]; exact Nat.zero_add _,H.mod⟩
end Go.Proofs.YtgjoehgomjgckaaGreatDoor
end
section
set_option linter.unusedVariables false
set_option linter.unusedSimpArgs false
namespace Go.Proofs.YtgjoehgomjgckaaGreatDoor
open Go Go.Ev
set_option maxRecDepth 100000
set_option linter.unusedVariables false
def Oo (cW:Int) (bL:ah) (bM:ah) (bR:ah) (bS:ah) (bT:ah) (w:World) (R:Value→World→Prop):Prop:=
 nw aN [.int .i64 cW,.slice bL.a bL.n bL.c,.slice bM.a bM.n bM.c,.slice bR.a bR.n bR.c,.slice bS.a bS.n bS.c,.slice bT.a bT.n bT.c] w fun a b=>
 nw aN (zc Pr aN) b fun c d=>
 ax (Addr.add a 1) d fun e=>
 cJ Pr [bJ,bJ] bJ [.slice none 0 0,.slice e.a e.n e.c] d fun f g=>
 st (Addr.add a 1) (.slice f.a f.n f.c) g fun i=>
 ax (Addr.add a 2) i fun j=>
 cJ Pr [s9,s9] s9 [.slice none 0 0,.slice j.a j.n j.c] i fun k l=>
 st (Addr.add a 2) (.slice k.a k.n k.c) l fun m=>
 ax (Addr.add a 3) m fun n=>
 cJ Pr [th,th] th [.slice none 0 0,.slice n.a n.n n.c] m fun o p=>
 st (Addr.add a 3) (.slice o.a o.n o.c) p fun q=>
 cX (fun (s:Int)=>[(3,some (.int .i64 s))])
 (fun t s u=>ax (Addr.add a 3) u fun v=>
 aA (decide (s<(v.n:Int)))
 (ax (Addr.add a 3) (World.drew u) fun x=>
 ax (Addr.add a 3) (World.drew u) fun y=>
 aQ y.a s y.n
 (ax (Addr.add (Addr.add (base y.a) (Int.toNat s * 5)) 2) (World.drew u) fun z=>
 cJ Pr [bJ,bJ] bJ [.slice none 0 0,.slice z.a z.n z.c] (World.drew u) fun A B=>
 (kept (Addr.add a 3) 1 (World.drew u) B∧
 aQ x.a s x.n
 (st (Addr.add (Addr.add (base x.a) (Int.toNat s * 5)) 2) (.slice A.a A.n A.c) B fun C=>
 (aF (s+1)∧
 t (s+1) C)))))
 (ax (Addr.add a 4) u fun D=>
 cJ Pr [tr,tr] tr [.slice none 0 0,.slice D.a D.n D.c] u fun E F=>
 st (Addr.add a 4) (.slice E.a E.n E.c) F fun G=>
 cX (fun (I:Int)=>[(4,some (.int .i64 I))])
 (fun J I L=>ax (Addr.add a 4) L fun M=>
 aA (decide (I<(M.n:Int)))
 (ax (Addr.add a 4) (World.drew L) fun N=>
 ax (Addr.add a 4) (World.drew L) fun O=>
 aQ O.a I O.n
 (bA (Addr.add (base O.a) (Int.toNat I * 4)) (World.drew L) fun Q S T U=>
 ay Pr NL [.agg ⟨[.int .i64 Q,.int .i64 S,.int .i64 T,.slice U.a U.n U.c]⟩] (World.drew L) fun V X=>
 rF V fun Y Z aa ba=>
 (kept (Addr.add a 4) 1 (World.drew L) X∧
 aQ N.a I N.n
 (cF (Addr.add (base N.a) (Int.toNat I * 4)) Y Z aa ba X fun ca=>
 (aF (I+1)∧
 J (I+1) ca)))))
 (ax (Addr.add a 5) L fun da=>
 cJ Pr [mB,mB] mB [.slice none 0 0,.slice da.a da.n da.c] L fun ea fa=>
 st (Addr.add a 5) (.slice ea.a ea.n ea.c) fa fun ga=>
 bD a ga fun ia ja ka la ma na=>
 bE c ia ja ka la ma na ga fun oa=>
 bD c oa fun pa qa sa ta ua va=>
 R (.agg ⟨[.int .i64 pa,.slice qa.a qa.n qa.c,.slice sa.a sa.n sa.c,.slice ta.a ta.n ta.c,.slice ua.a ua.n ua.c,.slice va.a va.n va.c]⟩) oa))
 0 G))
 0 q
theorem aeI {cW:Int} {bL:ah} {bM:ah} {bR:ah} {bS:ah} {bT:ah} {w:World} {R:Value→World→Prop} (h:Oo cW bL bM bR bS bT w R):Ok Pr NJ [.agg ⟨[.int .i64 cW,.slice bL.a bL.n bL.c,.slice bM.a bM.n bM.c,.slice bR.a bR.n bR.c,.slice bS.a bS.n bS.c,.slice bT.a bT.n bT.c]⟩] w R:=
 aL (m:=⟨true,true⟩) (J:=[]) (L:=[(5,[(3,.int .i64)]),(10,[(4,.int .i64)])]) aJ Tryz.func22 (by kernel_rfl) ((by kernel_rfl:aK Pr _ _ _ Tryz.f22 _ w R=Oo cW bL bM bR bS bT w R).mpr h)
def Pn (cW:Int) (bL:ah) (bM:ah) (bR:ah) (bS:ah) (bT:ah) (w:World) (R:Value→World→Prop):Prop:=
 nw aN [.int .i64 cW,.slice bL.a bL.n bL.c,.slice bM.a bM.n bM.c,.slice bR.a bR.n bR.c,.slice bS.a bS.n bS.c,.slice bT.a bT.n bT.c] w fun a b=>
 jL []
 (fun c=>cX (fun (d:Int)=>[(3,some (.int .i64 d))])
 (fun e d f=>ax (Addr.add a 5) f fun g=>
 aA (decide (d<(g.n:Int)))
 (ax (Addr.add a 5) (World.drew f) fun i=>
 aQ i.a d i.n
 (an .i64 (Addr.add (Addr.add (base i.a) (Int.toNat d * 6)) 1) (World.drew f) fun j=>
 ax (Addr.add a 4) (World.drew f) fun k=>
 ax (Addr.add a 5) (World.drew f) fun l=>
 aA (decide ((k.n:Int)<j))
 (R (.bool false) (World.drew f))
 (aQ l.a d l.n
 (an .i64 (Addr.add (Addr.add (base l.a) (Int.toNat d * 6)) 2) (World.drew f) fun m=>
 ax (Addr.add a 3) (World.drew f) fun n=>
 aA (decide ((n.n:Int)<m))
 (R (.bool false) (World.drew f))
 ((aF (d+1)∧
 e (d+1) (World.drew f)))))))
 (R (.bool true) f))
 0 c)
 (fun o=>
 an .i64 (Addr.add a 0) b fun p=>
 an .i64 (Addr.add a 0) b fun q=>
 ax (Addr.add a 1) b fun s=>
 ax (Addr.add a 2) b fun t=>
 ax (Addr.add a 2) b fun u=>
 aA ((((decide (p<0)) || (decide (1099511627776<q))) || (!decide ((s.n:Int)=32))) || (decide ((t.n:Int)<1)))
 (bD a b fun v x y z A B=>
 bD a b fun C D E F G I=>
 ax (Addr.add a 5) b fun J=>
 R (.bool false) b)
 (ay Pr OI [.slice u.a u.n u.c] b fun L M=>
 aW L fun N=>
 bD a M fun O Q S T U V=>
 aA (!N)
 (bD a M fun X Y Z aa ba ca=>
 ax (Addr.add a 5) M fun da=>
 R (.bool false) M)
 (ay Pr Ms [.agg ⟨[.int .i64 O,.slice Q.a Q.n Q.c,.slice S.a S.n S.c,.slice T.a T.n T.c,.slice U.a U.n U.c,.slice V.a V.n V.c]⟩] M fun ea fa=>
 aW ea fun ga=>
 bD a fa fun ia ja ka la ma na=>
 aA (!ga)
 (ax (Addr.add a 5) fa fun oa=>
 R (.bool false) fa)
 (ay Pr NM [.agg ⟨[.int .i64 ia,.slice ja.a ja.n ja.c,.slice ka.a ka.n ka.c,.slice la.a la.n la.c,.slice ma.a ma.n ma.c,.slice na.a na.n na.c]⟩] fa fun pa qa=>
 aW pa fun sa=>
 ax (Addr.add a 5) qa fun ta=>
 aA (!sa)
 (R (.bool false) qa)
 (ay Pr OJ [.slice ta.a ta.n ta.c] qa fun ua va=>
 aW ua fun xa=>
 aA (!xa)
 (R (.bool false) va)
 (o va))))))
theorem aft {cW:Int} {bL:ah} {bM:ah} {bR:ah} {bS:ah} {bT:ah} {w:World} {R:Value→World→Prop} (h:Pn cW bL bM bR bS bT w R):Ok Pr OH [.agg ⟨[.int .i64 cW,.slice bL.a bL.n bL.c,.slice bM.a bM.n bM.c,.slice bR.a bR.n bR.c,.slice bS.a bS.n bS.c,.slice bT.a bT.n bT.c]⟩] w R:=
 aL (m:=⟨true,true⟩) (J:=[(3,[])]) (L:=[(4,[(3,.int .i64)])]) aJ Tryz.func24 (by kernel_rfl) ((by kernel_rfl:aK Pr _ _ _ Tryz.f24 _ w R=Pn cW bL bM bR bS bT w R).mpr h)
def Nr (name:ByteArray) (verify:ah) (bG:ah) (w:World) (R:Value→World→Prop):Prop:=
 nw aN (zc Pr aN) w fun a b=>
 nw dh [.int .i64 1,.int .i64 0,.string name] b fun c d=>
 nw eu [.int .i64 1,.int .i64 1,.slice verify.a verify.n verify.c,.int .i64 0,.int .u64 0] d fun e f=>
 ay Pr NJ [.agg ⟨[.int .i64 0,.slice bG.a bG.n bG.c,.slice (some c) 1 1,.slice (some e) 1 1,.slice none 0 0,.slice none 0 0]⟩] f fun g i=>
 dB g fun j k l m n o=>
 nw aN (zc Pr aN) i fun p q=>
 bE p j k l m n o q fun s=>
 bD p s fun t u v x y z=>
 ay Pr OH [.agg ⟨[.int .i64 t,.slice u.a u.n u.c,.slice v.a v.n v.c,.slice x.a x.n x.c,.slice y.a y.n y.c,.slice z.a z.n z.c]⟩] s fun A B=>
 aW A fun C=>
 aA (!C)
 (bE a 0 ⟨none,0,0⟩ ⟨none,0,0⟩ ⟨none,0,0⟩ ⟨none,0,0⟩ ⟨none,0,0⟩ B fun D=>
 bD a D fun E F G I J L=>
 R (.tuple ⟨[.agg ⟨[.int .i64 E,.slice F.a F.n F.c,.slice G.a G.n G.c,.slice I.a I.n I.c,.slice J.a J.n J.c,.slice L.a L.n L.c]⟩,.int .i64 2]⟩) D)
 (bD p B fun M N O Q S T=>
 bE a M N O Q S T B fun U=>
 bD a U fun V X Y Z aa ba=>
 R (.tuple ⟨[.agg ⟨[.int .i64 V,.slice X.a X.n X.c,.slice Y.a Y.n Y.c,.slice Z.a Z.n Z.c,.slice aa.a aa.n aa.c,.slice ba.a ba.n ba.c]⟩,.int .i64 0]⟩) U)
theorem ad5 {name:ByteArray} {verify:ah} {bG:ah} {w:World} {R:Value→World→Prop} (h:Nr name verify bG w R):Ok Pr pE [.string name,.slice verify.a verify.n verify.c,.slice bG.a bG.n bG.c] w R:=
 aL (m:=⟨true,true⟩) (J:=[]) (L:=[]) aJ Tryz.func26 (by kernel_rfl) ((by kernel_rfl:aK Pr _ _ _ Tryz.f26 _ w R=Nr name verify bG w R).mpr h)
def Po (cW:Int) (bL:ah) (bM:ah) (bR:ah) (bS:ah) (bT:ah) (w:World) (R:Value→World→Prop):Prop:=
 nw aN [.int .i64 cW,.slice bL.a bL.n bL.c,.slice bM.a bM.n bM.c,.slice bR.a bR.n bR.c,.slice bS.a bS.n bS.c,.slice bT.a bT.n bT.c] w fun a b=>
 jL []
 (fun c=>ay Pr Hh [.int .i64 1] c fun d e=>
 bw.bC d fun f=>
 aC f fun g i=>
 aY .i64 g fun j=>
 aC i fun k l=>
 aY .i64 k fun m=>
 aC l fun n o=>
 aY .i64 n fun p=>
 (o=[]∧
 ax (Addr.add a 3) e fun q=>
 cX (fun (s:Int)=>[(59,some (.int .i64 s))])
 (fun t s u=>aA (decide (s<(q.n:Int)))
 (aQ q.a s q.n
 (M0 (Addr.add (base q.a) (Int.toNat s * 5)) u fun v x y z A=>
 nw eu (zc Pr eu) u fun B C=>
 AW B v x y z A C fun D=>
 an .i64 (Addr.add B 0) D fun E=>
 (aF (s+1)∧
 an .i64 (Addr.add B 1) D fun F=>
 ax (Addr.add a 2) D fun G=>
 aA (!decide (E=s+1))
 (ax (Addr.add B 2) D fun I=>
 an .i64 (Addr.add B 3) D fun J=>
 an .u64 (Addr.add B 4) D fun L=>
 R (.bool false) D)
 (ay Pr Br [.int .i64 F,.int .i64 1,.int .i64 (G.n:Int)] D fun M N=>
 aW M fun O=>
 ax (Addr.add B 2) N fun Q=>
 an .i64 (Addr.add B 3) N fun S=>
 an .u64 (Addr.add B 4) N fun T=>
 aA ((!O) || (!decide ((Q.n:Int)=j)))
 (R (.bool false) N)
 (ay Pr DK [.int .i64 S,.int .u64 T] N fun U V=>
 aW U fun X=>
 aA (!X)
 (R (.bool false) V)
 ((aF (s+1)∧
 t (s+1) V)))))))
 (ax (Addr.add a 4) u fun Y=>
 cX (fun (Z:Int)=>[(97,some (.int .i64 Z))])
 (fun aa Z ba=>aA (decide (Z<(Y.n:Int)))
 (aQ Y.a Z Y.n
 (bA (Addr.add (base Y.a) (Int.toNat Z * 4)) ba fun ca da ea fa=>
 nw aV (zc Pr aV) ba fun ga ia=>
 cF ga ca da ea fa ia fun ja=>
 an .i64 (Addr.add ga 0) ja fun ka=>
 (aF (Z+1)∧
 an .i64 (Addr.add ga 1) ja fun la=>
 ax (Addr.add a 2) ja fun ma=>
 aA (!decide (ka=Z+1))
 (bA ga ja fun na oa pa qa=>
 R (.bool false) ja)
 (ay Pr Br [.int .i64 la,.int .i64 1,.int .i64 (ma.n:Int)] ja fun sa ta=>
 aW sa fun ua=>
 bA ga ta fun va xa ya za=>
 aA (!ua)
 (R (.bool false) ta)
 (ay Pr tu [.agg ⟨[.int .i64 va,.int .i64 xa,.int .i64 ya,.slice za.a za.n za.c]⟩] ta fun Aa Ba=>
 aW Aa fun Ca=>
 aA (!Ca)
 (R (.bool false) Ba)
 ((aF (Z+1)∧
 aa (Z+1) Ba)))))))
 (ax (Addr.add a 5) ba fun Da=>
 ay Pr Kt [.slice Da.a Da.n Da.c,.func (.func MQ) ⟨[]⟩ ⟨[.pointer (some a)]⟩] ba fun Ea Fa=>
 aW Ea fun Ga=>
 R (.bool (!Ga)) Fa))
 0 u))
 0 e))
 (fun Ia=>
 an .i64 (Addr.add a 0) b fun Ja=>
 ay Pr Br [.int .i64 Ja,.int .i64 0,.int .i64 1099511627776] b fun La Ma=>
 aW La fun Na=>
 ax (Addr.add a 1) Ma fun Oa=>
 ax (Addr.add a 2) Ma fun Qa=>
 ax (Addr.add a 2) Ma fun Sa=>
 aA (((!Na) || (!decide ((Oa.n:Int)=32))) || (decide ((Qa.n:Int)=0)))
 (ax (Addr.add a 3) Ma fun Ta=>
 ax (Addr.add a 4) Ma fun Ua=>
 ax (Addr.add a 5) Ma fun Va=>
 R (.bool false) Ma)
 (ay Pr DE [.slice Sa.a Sa.n Sa.c] Ma fun Xa Ya=>
 aW Xa fun Za=>
 ax (Addr.add a 3) Ya fun ab=>
 aA (!Za)
 (ax (Addr.add a 4) Ya fun bb=>
 ax (Addr.add a 5) Ya fun cb=>
 R (.bool false) Ya)
 (ay Pr Br [.int .i64 (ab.n:Int),.int .i64 1,.int .i64 6] Ya fun db eb=>
 aW db fun fb=>
 ax (Addr.add a 4) eb fun gb=>
 ax (Addr.add a 5) eb fun ib=>
 aA ((!fb) || (decide (6<(gb.n:Int))))
 (R (.bool false) eb)
 (ay Pr A6 [.slice ib.a ib.n ib.c] eb fun jb kb=>
 aW jb fun lb=>
 aA (!lb)
 (R (.bool false) kb)
 (Ia kb)))))
theorem afu {cW:Int} {bL:ah} {bM:ah} {bR:ah} {bS:ah} {bT:ah} {w:World} {R:Value→World→Prop} (h:Po cW bL bM bR bS bT w R):Ok Pr Hr [.agg ⟨[.int .i64 cW,.slice bL.a bL.n bL.c,.slice bM.a bM.n bM.c,.slice bR.a bR.n bR.c,.slice bS.a bS.n bS.c,.slice bT.a bT.n bT.c]⟩] w R:=
 aL (m:=⟨true,true⟩) (J:=[(3,[])]) (L:=[(5,[(59,.int .i64)]),(11,[(97,.int .i64)])]) aJ Tryz.func34 (by kernel_rfl) ((by kernel_rfl:aK Pr _ _ _ Tryz.f34 _ w R=Po cW bL bM bR bS bT w R).mpr h)
def Oq (cW:Int) (bL:ah) (bM:ah) (bR:ah) (bS:ah) (bT:ah) (w:World) (R:Value→World→Prop):Prop:=
 nw aN [.int .i64 cW,.slice bL.a bL.n bL.c,.slice bM.a bM.n bM.c,.slice bR.a bR.n bR.c,.slice bS.a bS.n bS.c,.slice bT.a bT.n bT.c] w fun a b=>
 nw aN (zc Pr aN) b fun c d=>
 ax (Addr.add a 1) (World.drew d) fun e=>
 ax (Addr.add a 2) (World.drew d) fun f=>
 ax (Addr.add a 3) (World.drew d) fun g=>
 ax (Addr.add a 4) (World.drew d) fun i=>
 ax (Addr.add a 5) (World.drew d) fun j=>
 ay Pr s6 [.slice e.a e.n e.c] (World.drew d) fun k l=>
 aU k fun m=>
 (kept (Addr.add a 5) 1 (World.drew d) l∧
 (kept (Addr.add a 4) 1 (World.drew d) l∧
 (kept (Addr.add a 3) 1 (World.drew d) l∧
 (kept (Addr.add a 2) 1 (World.drew d) l∧
 ay Pr GB [.slice f.a f.n f.c] l fun n o=>
 aU n fun p=>
 (kept (Addr.add a 5) 1 l o∧
 (kept (Addr.add a 4) 1 l o∧
 (kept (Addr.add a 3) 1 l o∧
 ay Pr Ky [.slice g.a g.n g.c] o fun q s=>
 aU q fun t=>
 (kept (Addr.add a 5) 1 o s∧
 (kept (Addr.add a 4) 1 o s∧
 ay Pr KC [.slice i.a i.n i.c] s fun u v=>
 aU u fun x=>
 (kept (Addr.add a 5) 1 s v∧
 ay Pr AS [.slice j.a j.n j.c] v fun y z=>
 aU y fun A=>
 st (Addr.add a 1) (.slice m.a m.n m.c) z fun B=>
 st (Addr.add a 2) (.slice p.a p.n p.c) B fun C=>
 st (Addr.add a 3) (.slice t.a t.n t.c) C fun D=>
 st (Addr.add a 4) (.slice x.a x.n x.c) D fun E=>
 st (Addr.add a 5) (.slice A.a A.n A.c) E fun F=>
 ax (Addr.add a 3) F fun G=>
 cX (fun (I:Int)=>[(30,some (.int .i64 I))])
 (fun J I L=>aA (decide (I<(G.n:Int)))
 (ax (Addr.add a 3) (World.drew L) fun M=>
 ax (Addr.add a 3) (World.drew L) fun N=>
 aQ N.a I N.n
 (ax (Addr.add (Addr.add (base N.a) (Int.toNat I * 5)) 2) (World.drew L) fun O=>
 ay Pr s6 [.slice O.a O.n O.c] (World.drew L) fun Q S=>
 aU Q fun T=>
 (kept (Addr.add a 3) 1 (World.drew L) S∧
 aQ M.a I M.n
 (st (Addr.add (Addr.add (base M.a) (Int.toNat I * 5)) 2) (.slice T.a T.n T.c) S fun U=>
 (aF (I+1)∧
 J (I+1) U)))))
 (ax (Addr.add a 4) L fun V=>
 cX (fun (X:Int)=>[(49,some (.int .i64 X))])
 (fun Y X Z=>aA (decide (X<(V.n:Int)))
 (ax (Addr.add a 4) Z fun aa=>
 aQ aa.a X aa.n
 (ax (Addr.add (Addr.add (base aa.a) (Int.toNat X * 4)) 3) Z fun ba=>
 ay Pr Gz [.slice ba.a ba.n ba.c] Z fun ca da=>
 aU ca fun ea=>
 st (Addr.add (Addr.add (base aa.a) (Int.toNat X * 4)) 3) (.slice ea.a ea.n ea.c) da fun fa=>
 ax (Addr.add (Addr.add (base aa.a) (Int.toNat X * 4)) 3) fa fun ga=>
 cX (fun (ia:Int)=>[(69,some (.int .i64 ia))])
 (fun ja ia ka=>aA (decide (ia<(ga.n:Int)))
 (ax (Addr.add (Addr.add (base aa.a) (Int.toNat X * 4)) 3) (World.drew ka) fun la=>
 ax (Addr.add (Addr.add (base aa.a) (Int.toNat X * 4)) 3) (World.drew ka) fun ma=>
 aQ ma.a ia ma.n
 (ax (Addr.add (Addr.add (base ma.a) (Int.toNat ia * 4)) 3) (World.drew ka) fun na=>
 ay Pr s6 [.slice na.a na.n na.c] (World.drew ka) fun oa pa=>
 aU oa fun qa=>
 (kept (Addr.add (Addr.add (base aa.a) (Int.toNat X * 4)) 3) 1 (World.drew ka) pa∧
 aQ la.a ia la.n
 (st (Addr.add (Addr.add (base la.a) (Int.toNat ia * 4)) 3) (.slice qa.a qa.n qa.c) pa fun sa=>
 (aF (ia+1)∧
 ja (ia+1) sa)))))
 ((aF (X+1)∧
 Y (X+1) ka)))
 0 fa))
 (bD a Z fun ta ua va xa ya za=>
 bE c ta ua va xa ya za Z fun Aa=>
 bD c Aa fun Ba Ca Da Ea Fa Ga=>
 R (.agg ⟨[.int .i64 Ba,.slice Ca.a Ca.n Ca.c,.slice Da.a Da.n Da.c,.slice Ea.a Ea.n Ea.c,.slice Fa.a Fa.n Fa.c,.slice Ga.a Ga.n Ga.c]⟩) Aa))
 0 L))
 0 F))))))))))
theorem aeJ {cW:Int} {bL:ah} {bM:ah} {bR:ah} {bS:ah} {bT:ah} {w:World} {R:Value→World→Prop} (h:Oq cW bL bM bR bS bT w R):Ok Pr DJ [.agg ⟨[.int .i64 cW,.slice bL.a bL.n bL.c,.slice bM.a bM.n bM.c,.slice bR.a bR.n bR.c,.slice bS.a bS.n bS.c,.slice bT.a bT.n bT.c]⟩] w R:=
 aL (m:=⟨true,true⟩) (J:=[]) (L:=[(3,[(30,.int .i64)]),(8,[(49,.int .i64)]),(13,[(69,.int .i64)])]) aJ Tryz.func36 (by kernel_rfl) ((by kernel_rfl:aK Pr _ _ _ Tryz.f36 _ w R=Oq cW bL bM bR bS bT w R).mpr h)
def Ot (cl:Int) (cm:Int) (cr:Int) (bk:ah) (clock:Int) (w:World) (R:Value→World→Prop):Prop:=
 nw aV [.int .i64 cl,.int .i64 cm,.int .i64 cr,.slice bk.a bk.n bk.c] w fun a b=>
 nw aV (zc Pr aV) b fun c d=>
 bA a d fun e f g i=>
 ay Pr tu [.agg ⟨[.int .i64 e,.int .i64 f,.int .i64 g,.slice i.a i.n i.c]⟩] d fun j k=>
 aW j fun l=>
 aA (!l)
 (cF c 0 0 0 ⟨none,0,0⟩ k fun m=>
 bA c m fun n o p q=>
 R (.tuple ⟨[.agg ⟨[.int .i64 n,.int .i64 o,.int .i64 p,.slice q.a q.n q.c]⟩,.int .i64 0]⟩) m)
 (bA a k fun s t u v=>
 ay Pr Bs [.agg ⟨[.int .i64 s,.int .i64 t,.int .i64 u,.slice v.a v.n v.c]⟩] k fun x y=>
 rF x fun z A B C=>
 cF a z A B C y fun D=>
 ax (Addr.add a 3) D fun E=>
 iA (fun (F:Int) (G:Int)=>[(6,some (.int .i64 F)),(18,some (.int .i64 G))])
 (fun I F G J=>aA (decide (G<(E.n:Int)))
 (aQ E.a G E.n
 (gE (Addr.add (base E.a) (Int.toNat G * 4)) J fun L M N O=>
 nw cw (zc Pr cw) J fun Q S=>
 fz Q L M N O S fun T=>
 an .i64 (Addr.add Q 1) T fun U=>
 an .i64 (Addr.add Q 2) T fun V=>
 aA ((decide (U=3)) && (decide (V≤clock)))
 (ax (Addr.add a 3) T fun X=>
 an .i64 (Addr.add Q 0) T fun Y=>
 aQ X.a G X.n
 (fz (Addr.add (base X.a) (Int.toNat G * 4)) Y 4 0 ⟨none,0,0⟩ T fun Z=>
 (aF (F+1)∧
 (aF (G+1)∧
 I (F+1) (G+1) Z))))
 ((aF (G+1)∧
 I F (G+1) T))))
 (bA a J fun aa ba ca da=>
 cF c aa ba ca da J fun ea=>
 bA c ea fun fa ga ia ja=>
 R (.tuple ⟨[.agg ⟨[.int .i64 fa,.int .i64 ga,.int .i64 ia,.slice ja.a ja.n ja.c]⟩,.int .i64 F]⟩) ea))
 0 0 D)
theorem aeK {cl:Int} {cm:Int} {cr:Int} {bk:ah} {clock:Int} {w:World} {R:Value→World→Prop} (h:Ot cl cm cr bk clock w R):Ok Pr NK [.agg ⟨[.int .i64 cl,.int .i64 cm,.int .i64 cr,.slice bk.a bk.n bk.c]⟩,.int .i64 clock] w R:=
 aL (m:=⟨true,true⟩) (J:=[]) (L:=[(6,[(6,.int .i64),(18,.int .i64)])]) aJ Tryz.func37 (by kernel_rfl) ((by kernel_rfl:aK Pr _ _ _ Tryz.f37 _ w R=Ot cl cm cr bk clock w R).mpr h)
def Ou (cl:Int) (cm:Int) (cr:Int) (bk:ah) (w:World) (R:Value→World→Prop):Prop:=
 nw aV [.int .i64 cl,.int .i64 cm,.int .i64 cr,.slice bk.a bk.n bk.c] w fun a b=>
 nw aV (zc Pr aV) b fun c d=>
 ax (Addr.add a 3) d fun e=>
 cJ Pr [s8,s8] s8 [.slice none 0 0,.slice e.a e.n e.c] d fun f g=>
 st (Addr.add a 3) (.slice f.a f.n f.c) g fun i=>
 cX (fun (j:Int)=>[(3,some (.int .i64 j))])
 (fun k j l=>ax (Addr.add a 3) l fun m=>
 aA (decide (j<(m.n:Int)))
 (ax (Addr.add a 3) (World.drew l) fun n=>
 ax (Addr.add a 3) (World.drew l) fun o=>
 aQ o.a j o.n
 (ax (Addr.add (Addr.add (base o.a) (Int.toNat j * 4)) 3) (World.drew l) fun p=>
 cJ Pr [bJ,bJ] bJ [.slice none 0 0,.slice p.a p.n p.c] (World.drew l) fun q s=>
 (kept (Addr.add a 3) 1 (World.drew l) s∧
 aQ n.a j n.n
 (st (Addr.add (Addr.add (base n.a) (Int.toNat j * 4)) 3) (.slice q.a q.n q.c) s fun t=>
 (aF (j+1)∧
 k (j+1) t)))))
 (bA a l fun u v x y=>
 cF c u v x y l fun z=>
 bA c z fun A B C D=>
 R (.agg ⟨[.int .i64 A,.int .i64 B,.int .i64 C,.slice D.a D.n D.c]⟩) z))
 0 i
theorem aeL {cl:Int} {cm:Int} {cr:Int} {bk:ah} {w:World} {R:Value→World→Prop} (h:Ou cl cm cr bk w R):Ok Pr NL [.agg ⟨[.int .i64 cl,.int .i64 cm,.int .i64 cr,.slice bk.a bk.n bk.c]⟩] w R:=
 aL (m:=⟨true,true⟩) (J:=[]) (L:=[(3,[(3,.int .i64)])]) aJ Tryz.func39 (by kernel_rfl) ((by kernel_rfl:aK Pr _ _ _ Tryz.f39 _ w R=Ou cl cm cr bk w R).mpr h)
def Pp (l:ah) (w:World) (R:Value→World→Prop):Prop:=
 cX (fun (a:Int)=>[(3,some (.int .i64 a))])
 (fun b a c=>aA ((decide (a<(l.n:Int))) && (decide ((l.n:Int)≤8)))
 (aQ l.a a l.n
 (AX (Addr.add (base l.a) (Int.toNat a * 3)) c fun d e f=>
 nw dh (zc Pr dh) c fun g i=>
 AY g d e f i fun j=>
 an .i64 (Addr.add g 0) j fun k=>
 (aF (a+1)∧
 gp (Addr.add g 2) j fun m=>
 gp (Addr.add g 2) j fun n=>
 an .i64 (Addr.add g 1) j fun o=>
 an .i64 (Addr.add g 1) j fun p=>
 an .i64 (Addr.add g 1) j fun q=>
 aA ((((((!decide (k=a+1)) || (decide (((ByteArray.size m:Nat):Int)<1))) || (decide (300<((ByteArray.size n:Nat):Int)))) || (!((decide (o=0)) == (decide (a=0))))) || (decide (p<0))) || (decide (a<q)))
 (R (.bool false) j)
 (cX (fun (s:Int)=>[(5,some (.int .i64 s))])
 (fun t s u=>aA (decide (s<a))
 (aQ l.a s l.n
 (an .i64 (Addr.add (Addr.add (base l.a) (Int.toNat s * 3)) 1) (World.drew u) fun v=>
 an .i64 (Addr.add g 1) (World.drew u) fun x=>
 aA (decide (v=x))
 (aQ l.a s l.n
 (gp (Addr.add (Addr.add (base l.a) (Int.toNat s * 3)) 2) (World.drew u) fun y=>
 gp (Addr.add g 2) (World.drew u) fun z=>
 aA (decide (y=z))
 (R (.bool false) (World.drew u))
 ((aF (s+1)∧
 t (s+1) (World.drew u)))))
 ((aF (s+1)∧
 t (s+1) (World.drew u)))))
 ((aF (a+1)∧
 b (a+1) u)))
 0 j))))
 (R (.bool (decide ((l.n:Int)≤8))) c))
 0 w
theorem afv {l:ah} {w:World} {R:Value→World→Prop} (h:Pp l w R):Ok Pr OI [.slice l.a l.n l.c] w R:=
 aL (m:=⟨true,true⟩) (J:=[]) (L:=[(2,[(3,.int .i64)]),(8,[(5,.int .i64)])]) aJ Tryz.func46 (by kernel_rfl) ((by kernel_rfl:aK Pr _ _ _ Tryz.f46 _ w R=Pp l w R).mpr h)
def MH (cW:Int) (bL:ah) (bM:ah) (bR:ah) (bS:ah) (bT:ah) (w:World) (R:Value→World→Prop):Prop:=
 nw aN [.int .i64 cW,.slice bL.a bL.n bL.c,.slice bM.a bM.n bM.c,.slice bR.a bR.n bR.c,.slice bS.a bS.n bS.c,.slice bT.a bT.n bT.c] w fun a b=>
 ay Pr MR [.int .i64 1] b fun c d=>
 bw.bC c fun e=>
 aC e fun f g=>
 aY .i64 f fun i=>
 aC g fun j k=>
 aY .i64 j fun l=>
 aC k fun m n=>
 aY .i64 m fun o=>
 (n=[]∧
 cX (fun (p:Int)=>[(6,some (.int .i64 p))])
 (fun q p s=>ax (Addr.add a 3) s fun t=>
 ax (Addr.add a 3) s fun u=>
 aA ((decide (p<(t.n:Int))) && (decide ((u.n:Int)≤6)))
 (ax (Addr.add a 3) s fun v=>
 aQ v.a p v.n
 (M0 (Addr.add (base v.a) (Int.toNat p * 5)) s fun x y z A B=>
 nw eu (zc Pr eu) s fun C D=>
 AW C x y z A B D fun E=>
 an .i64 (Addr.add C 0) E fun F=>
 (aF (p+1)∧
 ax (Addr.add a 2) E fun G=>
 an .i64 (Addr.add C 1) E fun I=>
 aA (!decide (F=p+1))
 (ax (Addr.add C 2) E fun J=>
 an .i64 (Addr.add C 3) E fun L=>
 an .u64 (Addr.add C 4) E fun M=>
 R (.bool false) E)
 (ay Pr G0 [.slice G.a G.n G.c,.int .i64 I] E fun N O=>
 aW N fun Q=>
 ax (Addr.add C 2) O fun S=>
 an .i64 (Addr.add C 3) O fun T=>
 an .u64 (Addr.add C 4) O fun U=>
 aA ((!Q) || (!decide ((S.n:Int)=i)))
 (R (.bool false) O)
 (ay Pr OK [.int .i64 T,.int .u64 U] O fun V X=>
 aW V fun Y=>
 aA (!Y)
 (R (.bool false) X)
 ((aF (p+1)∧
 q (p+1) X)))))))
 (ax (Addr.add a 3) s fun Z=>
 ax (Addr.add a 3) s fun aa=>
 R (.bool ((decide (1≤(Z.n:Int))) && (decide ((aa.n:Int)≤6)))) s))
 0 d)
theorem adC {cW:Int} {bL:ah} {bM:ah} {bR:ah} {bS:ah} {bT:ah} {w:World} {R:Value→World→Prop} (h:MH cW bL bM bR bS bT w R):Ok Pr Ms [.agg ⟨[.int .i64 cW,.slice bL.a bL.n bL.c,.slice bM.a bM.n bM.c,.slice bR.a bR.n bR.c,.slice bS.a bS.n bS.c,.slice bT.a bT.n bT.c]⟩] w R:=
 aL (m:=⟨true,true⟩) (J:=[]) (L:=[(3,[(6,.int .i64)])]) aJ Tryz.func47 (by kernel_rfl) ((by kernel_rfl:aK Pr _ _ _ Tryz.f47 _ w R=MH cW bL bM bR bS bT w R).mpr h)
def Ov (cW:Int) (bL:ah) (bM:ah) (bR:ah) (bS:ah) (bT:ah) (w:World) (R:Value→World→Prop):Prop:=
 nw aN [.int .i64 cW,.slice bL.a bL.n bL.c,.slice bM.a bM.n bM.c,.slice bR.a bR.n bR.c,.slice bS.a bS.n bS.c,.slice bT.a bT.n bT.c] w fun a b=>
 cX (fun (c:Int)=>[(3,some (.int .i64 c))])
 (fun d c e=>ax (Addr.add a 4) e fun f=>
 ax (Addr.add a 4) e fun g=>
 aA ((decide (c<(f.n:Int))) && (decide ((g.n:Int)≤6)))
 (ax (Addr.add a 4) e fun i=>
 aQ i.a c i.n
 (bA (Addr.add (base i.a) (Int.toNat c * 4)) e fun j k l m=>
 nw aV (zc Pr aV) e fun n o=>
 cF n j k l m o fun p=>
 an .i64 (Addr.add n 0) p fun q=>
 (aF (c+1)∧
 bA n p fun s t u v=>
 aA (!decide (q=c+1))
 (ax (Addr.add a 2) p fun x=>
 an .i64 (Addr.add n 1) p fun y=>
 R (.bool false) p)
 (ay Pr OL [.agg ⟨[.int .i64 s,.int .i64 t,.int .i64 u,.slice v.a v.n v.c]⟩] p fun z A=>
 aW z fun B=>
 ax (Addr.add a 2) A fun C=>
 an .i64 (Addr.add n 1) A fun D=>
 aA (!B)
 (R (.bool false) A)
 (ay Pr G0 [.slice C.a C.n C.c,.int .i64 D] A fun E F=>
 aW E fun G=>
 aA (!G)
 (R (.bool false) F)
 ((aF (c+1)∧
 d (c+1) F)))))))
 (ax (Addr.add a 4) e fun I=>
 R (.bool (decide ((I.n:Int)≤6))) e))
 0 b
theorem aeM {cW:Int} {bL:ah} {bM:ah} {bR:ah} {bS:ah} {bT:ah} {w:World} {R:Value→World→Prop} (h:Ov cW bL bM bR bS bT w R):Ok Pr NM [.agg ⟨[.int .i64 cW,.slice bL.a bL.n bL.c,.slice bM.a bM.n bM.c,.slice bR.a bR.n bR.c,.slice bS.a bS.n bS.c,.slice bT.a bT.n bT.c]⟩] w R:=
 aL (m:=⟨true,true⟩) (J:=[]) (L:=[(2,[(3,.int .i64)])]) aJ Tryz.func48 (by kernel_rfl) ((by kernel_rfl:aK Pr _ _ _ Tryz.f48 _ w R=Ov cW bL bM bR bS bT w R).mpr h)
def Ow (high:Int) (used:Int) (n:Int) (w:World) (R:Value→World→Prop):Prop:=
 ay Pr DK [.int .i64 high,.int .u64 used] w fun a b=>
 aW a fun c=>
 aA (!c)
 (nw pI [.int .i64 2,.string Q8] b fun d e=>
 R (.tuple ⟨[.int .i64 0,.int .u64 0,.iface jw (.pointer (some d))]⟩) e)
 (ay Pr Mt [.int .i64 high,.int .u64 used,.int .i64 n] b fun f g=>
 aW f fun i=>
 aA (!i)
 (nw pI [.int .i64 8,.string Q8] g fun j k=>
 R (.tuple ⟨[.int .i64 0,.int .u64 0,.iface jw (.pointer (some j))]⟩) k)
 (aA (decide (high<n))
 ((aF (n - high)∧
 gX (min (n - high) 64) (R (.tuple ⟨[.int .i64 n,.int .u64 (sw .u64 (shl .u64 used (min (n - high) 64)) 1),.nilIface]⟩) (World.drew g))))
 ((aF (high - n)∧
 gX (high - n) (R (.tuple ⟨[.int .i64 high,.int .u64 (sw .u64 used (shl .u64 1 (high - n))),.nilIface]⟩) (World.drew g))))))
theorem aeN {high:Int} {used:Int} {n:Int} {w:World} {R:Value→World→Prop} (h:Ow high used n w R):Ok Pr NN [.int .i64 high,.int .u64 used,.int .i64 n] w R:=
 aL (m:=⟨true,true⟩) (J:=[]) (L:=[]) aJ Tryz.func52 (by kernel_rfl) ((by kernel_rfl:aK Pr _ _ _ Tryz.f52 _ w R=Ow high used n w R).mpr h)
def Qt (n:Int) (lo:Int) (hi:Int) (w:World) (R:Value→World→Prop):Prop:=
 R (.bool ((decide (lo≤n)) && (decide (n≤hi)))) w
theorem agu {n:Int} {lo:Int} {hi:Int} {w:World} {R:Value→World→Prop} (h:Qt n lo hi w R):Ok Pr Br [.int .i64 n,.int .i64 lo,.int .i64 hi] w R:=
 aL (m:=⟨true,true⟩) (J:=[]) (L:=[]) aJ Tryz.func67 (by kernel_rfl) ((by kernel_rfl:aK Pr _ _ _ Tryz.f67 _ w R=Qt n lo hi w R).mpr h)
def Ns (l:ah) (w:World) (R:Value→World→Prop):Prop:=
 aA (decide (8<(l.n:Int)))
 (R (.bool false) w)
 (cX (fun (a:Int)=>[(11,some (.int .i64 a))])
 (fun b a c=>aA (decide (a<(l.n:Int)))
 (aQ l.a a l.n
 (AX (Addr.add (base l.a) (Int.toNat a * 3)) c fun d e f=>
 nw dh (zc Pr dh) c fun g i=>
 AY g d e f i fun j=>
 an .i64 (Addr.add g 0) (World.drew j) fun k=>
 (aF (a+1)∧
 an .i64 (Addr.add g 1) (World.drew j) fun m=>
 an .i64 (Addr.add g 1) (World.drew j) fun n=>
 gp (Addr.add g 2) (World.drew j) fun o=>
 aA (((!decide (k=a+1)) || (decide (m<min a 1))) || (decide (a<n)))
 (R (.bool false) (World.drew j))
 (ay Pr GO [.string o] (World.drew j) fun p q=>
 aW p fun s=>
 aA (!s)
 (R (.bool false) q)
 (vQ l a fun t=>
 an .i64 (Addr.add g 1) q fun u=>
 gp (Addr.add g 2) q fun v=>
 ay Pr GQ [.slice t.a t.n t.c,.int .i64 u,.string v] q fun x y=>
 aW x fun z=>
 aA z
 (R (.bool false) y)
 ((aF (a+1)∧
 b (a+1) y)))))))
 (R (.bool true) c))
 0 w)
theorem ad6 {l:ah} {w:World} {R:Value→World→Prop} (h:Ns l w R):Ok Pr DE [.slice l.a l.n l.c] w R:=
 aL (m:=⟨true,true⟩) (J:=[]) (L:=[(4,[(11,.int .i64)])]) aJ Tryz.func68 (by kernel_rfl) ((by kernel_rfl:aK Pr _ _ _ Tryz.f68 _ w R=Ns l w R).mpr h)
def Ox (high:Int) (used:Int) (w:World) (R:Value→World→Prop):Prop:=
 jL []
 (fun a=>R (.bool (decide (iC .u64 used 1=1))) a)
 (fun b=>
 aA ((decide (high<0)) || (decide (1099511627776<high)))
 (R (.bool false) w)
 (aA (decide (high=0))
 (R (.bool (decide (used=0))) w)
 (aA (decide (high<64))
 (gX high (aA (!decide (shr .u64 used high=0))
 (R (.bool false) w)
 (b w)))
 (b w))))
theorem aeO {high:Int} {used:Int} {w:World} {R:Value→World→Prop} (h:Ox high used w R):Ok Pr DK [.int .i64 high,.int .u64 used] w R:=
 aL (m:=⟨true,true⟩) (J:=[(7,[])]) (L:=[]) aJ Tryz.func71 (by kernel_rfl) ((by kernel_rfl:aK Pr _ _ _ Tryz.f71 _ w R=Ox high used w R).mpr h)
def Qu (cl:Int) (cm:Int) (cr:Int) (bk:ah) (w:World) (R:Value→World→Prop):Prop:=
 nw aV [.int .i64 cl,.int .i64 cm,.int .i64 cr,.slice bk.a bk.n bk.c] w fun a b=>
 jL []
 (fun c=>ax (Addr.add a 3) c fun d=>
 cX (fun (e:Int)=>[(31,some (.int .i64 e))])
 (fun f e g=>aA (decide (e<(d.n:Int)))
 (aQ d.a e d.n
 (gE (Addr.add (base d.a) (Int.toNat e * 4)) g fun i j k l=>
 nw cw (zc Pr cw) g fun m n=>
 fz m i j k l n fun o=>
 gE m o fun p q s t=>
 (aF (e+1)∧
 ay Pr PG [.agg ⟨[.int .i64 p,.int .i64 q,.int .i64 s,.slice t.a t.n t.c]⟩,.int .i64 (e+1)] o fun u v=>
 aW u fun x=>
 aA (!x)
 (R (.bool false) v)
 ((aF (e+1)∧
 f (e+1) v)))))
 (R (.bool true) g))
 0 c)
 (fun y=>
 an .i64 (Addr.add a 0) b fun z=>
 ay Pr uV [.int .i64 z,.int .i64 1,.int .i64 6] b fun A B=>
 aW A fun C=>
 an .i64 (Addr.add a 1) B fun D=>
 aA (!C)
 (an .i64 (Addr.add a 2) B fun E=>
 ax (Addr.add a 3) B fun F=>
 R (.bool false) B)
 (ay Pr uV [.int .i64 D,.int .i64 1,.int .i64 8] B fun G I=>
 aW G fun J=>
 an .i64 (Addr.add a 2) I fun L=>
 aA (!J)
 (ax (Addr.add a 3) I fun M=>
 R (.bool false) I)
 (ay Pr uV [.int .i64 L,.int .i64 1,.int .i64 3] I fun N O=>
 aW N fun Q=>
 ax (Addr.add a 3) O fun S=>
 aA (!Q)
 (R (.bool false) O)
 (ay Pr uV [.int .i64 (S.n:Int),.int .i64 1,.int .i64 5] O fun T U=>
 aW T fun V=>
 aA (!V)
 (R (.bool false) U)
 (y U)))))
theorem agv {cl:Int} {cm:Int} {cr:Int} {bk:ah} {w:World} {R:Value→World→Prop} (h:Qu cl cm cr bk w R):Ok Pr tu [.agg ⟨[.int .i64 cl,.int .i64 cm,.int .i64 cr,.slice bk.a bk.n bk.c]⟩] w R:=
 aL (m:=⟨true,true⟩) (J:=[(3,[])]) (L:=[(4,[(31,.int .i64)])]) aJ Tryz.func72 (by kernel_rfl) ((by kernel_rfl:aK Pr _ _ _ Tryz.f72 _ w R=Qu cl cm cr bk w R).mpr h)
def Nt (eJ:Int) (eR:Int) (eX:Int) (eY:Int) (eZ:Int) (e6:Bool) (free:Addr) (w:World) (R:Value→World→Prop):Prop:=
 nw cB [.int .i64 eJ,.int .i64 eR,.int .i64 eX,.int .i64 eY,.int .i64 eZ,.bool e6] w fun a b=>
 an .i64 (Addr.add a 1) b fun c=>
 ax (Addr.add free 4) b fun d=>
 an .i64 (Addr.add a 2) b fun e=>
 ax (Addr.add free 3) b fun f=>
 R (.bool ((decide ((d.n:Int)<c)) || (decide ((f.n:Int)<e)))) b
theorem ad7 {eJ:Int} {eR:Int} {eX:Int} {eY:Int} {eZ:Int} {e6:Bool} {free:Addr} {w:World} {R:Value→World→Prop} (h:Nt eJ eR eX eY eZ e6 free w R):Ok Pr MQ [.agg ⟨[.int .i64 eJ,.int .i64 eR,.int .i64 eX,.int .i64 eY,.int .i64 eZ,.bool e6]⟩,.pointer (some free)] w R:=
 aL (m:=⟨true,true⟩) (J:=[]) (L:=[]) aJ Tryz.func74 (by kernel_rfl) ((by kernel_rfl:aK Pr _ _ _ Tryz.f74 _ w R=Nt eJ eR eX eY eZ e6 free w R).mpr h)
def Qv (cl:Int) (cm:Int) (cr:Int) (bk:ah) (w:World) (R:Value→World→Prop):Prop:=
 nw aV [.int .i64 cl,.int .i64 cm,.int .i64 cr,.slice bk.a bk.n bk.c] w fun a b=>
 nw aV (zc Pr aV) b fun c d=>
 ax (Addr.add a 3) d fun e=>
 ay Pr Gz [.slice e.a e.n e.c] d fun f g=>
 aU f fun i=>
 st (Addr.add a 3) (.slice i.a i.n i.c) g fun j=>
 ax (Addr.add a 3) j fun k=>
 cX (fun (l:Int)=>[(11,some (.int .i64 l))])
 (fun m l n=>aA (decide (l<(k.n:Int)))
 (ax (Addr.add a 3) (World.drew n) fun o=>
 ax (Addr.add a 3) (World.drew n) fun p=>
 aQ p.a l p.n
 (ax (Addr.add (Addr.add (base p.a) (Int.toNat l * 4)) 3) (World.drew n) fun q=>
 ay Pr s6 [.slice q.a q.n q.c] (World.drew n) fun s t=>
 aU s fun u=>
 (kept (Addr.add a 3) 1 (World.drew n) t∧
 aQ o.a l o.n
 (st (Addr.add (Addr.add (base o.a) (Int.toNat l * 4)) 3) (.slice u.a u.n u.c) t fun v=>
 (aF (l+1)∧
 m (l+1) v)))))
 (bA a n fun x y z A=>
 cF c x y z A n fun B=>
 bA c B fun C D E F=>
 R (.agg ⟨[.int .i64 C,.int .i64 D,.int .i64 E,.slice F.a F.n F.c]⟩) B))
 0 j
theorem agw {cl:Int} {cm:Int} {cr:Int} {bk:ah} {w:World} {R:Value→World→Prop} (h:Qv cl cm cr bk w R):Ok Pr Bs [.agg ⟨[.int .i64 cl,.int .i64 cm,.int .i64 cr,.slice bk.a bk.n bk.c]⟩] w R:=
 aL (m:=⟨true,true⟩) (J:=[]) (L:=[(3,[(11,.int .i64)])]) aJ Tryz.func81 (by kernel_rfl) ((by kernel_rfl:aK Pr _ _ _ Tryz.f81 _ w R=Qv cl cm cr bk w R).mpr h)
def Nu (l:ah) (fC:Int) (w:World) (R:Value→World→Prop):Prop:=
 R (.bool ((decide (1≤fC)) && (decide (fC≤(l.n:Int))))) w
theorem ad8 {l:ah} {fC:Int} {w:World} {R:Value→World→Prop} (h:Nu l fC w R):Ok Pr G0 [.slice l.a l.n l.c,.int .i64 fC] w R:=
 aL (m:=⟨true,true⟩) (J:=[]) (L:=[]) aJ Tryz.func98 (by kernel_rfl) ((by kernel_rfl:aK Pr _ _ _ Tryz.f98 _ w R=Nu l fC w R).mpr h)
def Pt (high:Int) (used:Int) (w:World) (R:Value→World→Prop):Prop:=
 aA ((decide (high<0)) || (decide (1099511627776<high)))
 (R (.bool false) w)
 (cX (fun (a:Int)=>[(5,some (.int .i64 a))])
 (fun b a c=>aA (decide (a<64))
 (aA (decide (high≤a))
 (gX a (aA (decide (iC .u64 (shr .u64 used a) 1=1))
 (R (.bool false) c)
 ((aF (a+1)∧
 b (a+1) c))))
 ((aF (a+1)∧
 b (a+1) c)))
 (R (.bool ((decide (high=0)) || (decide (iC .u64 used 1=1)))) c))
 0 w)
theorem afw {high:Int} {used:Int} {w:World} {R:Value→World→Prop} (h:Pt high used w R):Ok Pr OK [.int .i64 high,.int .u64 used] w R:=
 aL (m:=⟨true,true⟩) (J:=[]) (L:=[(4,[(5,.int .i64)])]) aJ Tryz.func99 (by kernel_rfl) ((by kernel_rfl:aK Pr _ _ _ Tryz.f99 _ w R=Pt high used w R).mpr h)
def Pu (cl:Int) (cm:Int) (cr:Int) (bk:ah) (w:World) (R:Value→World→Prop):Prop:=
 nw aV [.int .i64 cl,.int .i64 cm,.int .i64 cr,.slice bk.a bk.n bk.c] w fun a b=>
 an .i64 (Addr.add a 0) b fun c=>
 an .i64 (Addr.add a 0) b fun d=>
 an .i64 (Addr.add a 1) b fun e=>
 an .i64 (Addr.add a 1) b fun f=>
 an .i64 (Addr.add a 2) b fun g=>
 an .i64 (Addr.add a 2) b fun i=>
 ax (Addr.add a 3) b fun j=>
 ax (Addr.add a 3) b fun k=>
 aA ((((((((decide (c<1)) || (decide (6<d))) || (decide (e<1))) || (decide (8<f))) || (decide (g<1))) || (decide (3<i))) || (decide ((j.n:Int)<1))) || (decide (5<(k.n:Int))))
 (R (.bool false) b)
 (cX (fun (l:Int)=>[(3,some (.int .i64 l))])
 (fun m l n=>ax (Addr.add a 3) n fun o=>
 aA (decide (l<(o.n:Int)))
 (ax (Addr.add a 3) n fun p=>
 aQ p.a l p.n
 (gE (Addr.add (base p.a) (Int.toNat l * 4)) n fun q s t u=>
 (aF (l+1)∧
 ay Pr LX [.agg ⟨[.int .i64 q,.int .i64 s,.int .i64 t,.slice u.a u.n u.c]⟩,.int .i64 (l+1)] n fun v x=>
 aW v fun y=>
 aA (!y)
 (R (.bool false) x)
 ((aF (l+1)∧
 m (l+1) x)))))
 (R (.bool true) n))
 0 b)
theorem afx {cl:Int} {cm:Int} {cr:Int} {bk:ah} {w:World} {R:Value→World→Prop} (h:Pu cl cm cr bk w R):Ok Pr OL [.agg ⟨[.int .i64 cl,.int .i64 cm,.int .i64 cr,.slice bk.a bk.n bk.c]⟩] w R:=
 aL (m:=⟨true,true⟩) (J:=[]) (L:=[(4,[(3,.int .i64)])]) aJ Tryz.func100 (by kernel_rfl) ((by kernel_rfl:aK Pr _ _ _ Tryz.f100 _ w R=Pu cl cm cr bk w R).mpr h)
def MI (high:Int) (used:Int) (n:Int) (w:World) (R:Value→World→Prop):Prop:=
 ay Pr DK [.int .i64 high,.int .u64 used] w fun a b=>
 aW a fun c=>
 aA ((((!c) || (decide (n<1))) || (decide (1099511627776<n))) || (decide (64≤IntKind.wrap .i64 (high - n))))
 (R (.bool false) b)
 (aA (decide (high<n))
 (R (.bool true) b)
 (gX (IntKind.wrap .i64 (high - n)) (R (.bool (decide (iC .u64 (shr .u64 used (IntKind.wrap .i64 (high - n))) 1=0))) b)))
theorem adD {high:Int} {used:Int} {n:Int} {w:World} {R:Value→World→Prop} (h:MI high used n w R):Ok Pr Mt [.int .i64 high,.int .u64 used,.int .i64 n] w R:=
 aL (m:=⟨true,true⟩) (J:=[]) (L:=[]) aJ Tryz.func106 (by kernel_rfl) ((by kernel_rfl:aK Pr _ _ _ Tryz.f106 _ w R=MI high used n w R).mpr h)
def Pv (cl:Int) (cm:Int) (cr:Int) (bk:ah) (version:Int) (w:World) (R:Value→World→Prop):Prop:=
 nw aV [.int .i64 cl,.int .i64 cm,.int .i64 cr,.slice bk.a bk.n bk.c] w fun a b=>
 nw cw (zc Pr cw) b fun c d=>
 jL []
 (fun e=>bA a e fun f g i j=>
 ay Pr Bs [.agg ⟨[.int .i64 f,.int .i64 g,.int .i64 i,.slice j.a j.n j.c]⟩] e fun k l=>
 rF k fun m n o p=>
 (aF (version - 1)∧
 aQ p.a (version - 1) p.n
 (gE (Addr.add (base p.a) (Int.toNat (version - 1) * 4)) l fun q s t u=>
 fz c q s t u l fun v=>
 gE c v fun x y z A=>
 R (.tuple ⟨[.agg ⟨[.int .i64 x,.int .i64 y,.int .i64 z,.slice A.a A.n A.c]⟩,.bool true]⟩) v)))
 (fun B=>
 jz (fun (C:Bool)=>[(16,some (.bool C))])
 (fun C D=>aA C
 (fz c 0 0 0 ⟨none,0,0⟩ D fun E=>
 gE c E fun F G I J=>
 R (.tuple ⟨[.agg ⟨[.int .i64 F,.int .i64 G,.int .i64 I,.slice J.a J.n J.c]⟩,.bool false]⟩) E)
 (B D))
 (fun L=>
 bA a d fun M N O Q=>
 ay Pr tu [.agg ⟨[.int .i64 M,.int .i64 N,.int .i64 O,.slice Q.a Q.n Q.c]⟩] d fun S T=>
 aW S fun U=>
 ax (Addr.add a 3) T fun V=>
 aA (!U)
 (L true T)
 (ay Pr uV [.int .i64 version,.int .i64 1,.int .i64 (V.n:Int)] T fun X Y=>
 aW X fun Z=>
 L (!Z) Y)))
theorem afy {cl:Int} {cm:Int} {cr:Int} {bk:ah} {version:Int} {w:World} {R:Value→World→Prop} (h:Pv cl cm cr bk version w R):Ok Pr yN [.agg ⟨[.int .i64 cl,.int .i64 cm,.int .i64 cr,.slice bk.a bk.n bk.c]⟩,.int .i64 version] w R:=
 aL (m:=⟨true,true⟩) (J:=[(3,[]),(2,[(16,.bool)])]) (L:=[]) aJ Tryz.func107 (by kernel_rfl) ((by kernel_rfl:aK Pr _ _ _ Tryz.f107 _ w R=Pv cl cm cr bk version w R).mpr h)
def L9 (l:ah) (a:Int) (b:Int) (w:World) (R:Value→World→Prop):Prop:=
 ay Pr Mu [.slice l.a l.n l.c,.int .i64 b] w fun c d=>
 aU c fun e=>
 ay Pr Uv [.slice e.a e.n e.c,.int .i64 a] d fun f g=>
 aW f fun i=>
 R (.bool i) g
theorem adi {l:ah} {a:Int} {b:Int} {w:World} {R:Value→World→Prop} (h:L9 l a b w R):Ok Pr LU [.slice l.a l.n l.c,.int .i64 a,.int .i64 b] w R:=
 aL (m:=⟨true,true⟩) (J:=[]) (L:=[]) aJ Tryz.func108 (by kernel_rfl) ((by kernel_rfl:aK Pr _ _ _ Tryz.f108 _ w R=L9 l a b w R).mpr h)
def Nv (l:ah) (parent:Int) (name:ByteArray) (w:World) (R:Value→World→Prop):Prop:=
 ay Pr DE [.slice l.a l.n l.c] w fun a b=>
 aW a fun c=>
 aA (!c)
 (ay Pr wM [.int .i64 2] b fun d e=>
 R (.tuple ⟨[.slice none 0 0,.int .i64 0,d]⟩) e)
 (ay Pr GR [.slice l.a l.n l.c,.int .i64 parent] b fun f g=>
 aW f fun i=>
 aA (!i)
 (ay Pr wM [.int .i64 9] g fun j k=>
 R (.tuple ⟨[.slice none 0 0,.int .i64 0,j]⟩) k)
 (ay Pr GO [.string name] g fun m n=>
 aW m fun o=>
 aA (!o)
 (ay Pr wM [.int .i64 2] n fun p q=>
 R (.tuple ⟨[.slice none 0 0,.int .i64 0,p]⟩) q)
 (ay Pr GQ [.slice l.a l.n l.c,.int .i64 parent,.string name] n fun s t=>
 aW s fun u=>
 aA u
 (ay Pr wM [.int .i64 13] t fun v x=>
 R (.tuple ⟨[.slice none 0 0,.int .i64 0,v]⟩) x)
 (aA (decide ((l.n:Int)=8))
 (ay Pr wM [.int .i64 12] t fun y z=>
 R (.tuple ⟨[.slice none 0 0,.int .i64 0,y]⟩) z)
 ((aF ((l.n:Int)+1)∧
 lt (A:=Int) ((l.n:Int)+1) fun B=>
 ay Pr GB [.slice l.a l.n l.c] t fun C D=>
 aU C fun E=>
 nw dh [.int .i64 B,.int .i64 parent,.string name] D fun F G=>
 cJ Pr [s9,s9] s9 [.slice E.a E.n E.c,.slice (some F) 1 1] G fun I J=>
 R (.tuple ⟨[.slice I.a I.n I.c,.int .i64 B,.nilIface]⟩) J))))))
theorem ad9 {l:ah} {parent:Int} {name:ByteArray} {w:World} {R:Value→World→Prop} (h:Nv l parent name w R):Ok Pr MU [.slice l.a l.n l.c,.int .i64 parent,.string name] w R:=
 aL (m:=⟨true,true⟩) (J:=[]) (L:=[]) aJ Tryz.func111 (by kernel_rfl) ((by kernel_rfl:aK Pr _ _ _ Tryz.f111 _ w R=Nv l parent name w R).mpr h)
def Qw (fC:Int) (EL:Int) (aZ:Int) (aq:ah) (w:World) (R:Value→World→Prop):Prop:=
 nw aV (zc Pr aV) w fun a b=>
 ay Pr Hi [.int .i64 1,.slice aq.a aq.n aq.c] b fun c d=>
 uP c fun e f g i=>
 nw cw [.int .i64 e,.int .i64 f,.int .i64 g,.slice i.a i.n i.c] d fun j k=>
 nw aV (zc Pr aV) k fun l m=>
 cF l fC EL aZ ⟨some j,1,1⟩ m fun n=>
 bA l n fun o p q s=>
 ay Pr tu [.agg ⟨[.int .i64 o,.int .i64 p,.int .i64 q,.slice s.a s.n s.c]⟩] n fun t u=>
 aW t fun v=>
 aA (!v)
 (ay Pr kZ [.int .i64 2] u fun x y=>
 cF a 0 0 0 ⟨none,0,0⟩ y fun z=>
 bA a z fun A B C D=>
 R (.tuple ⟨[.agg ⟨[.int .i64 A,.int .i64 B,.int .i64 C,.slice D.a D.n D.c]⟩,x]⟩) z)
 (bA l u fun E F G I=>
 cF a E F G I u fun J=>
 bA a J fun L M N O=>
 R (.tuple ⟨[.agg ⟨[.int .i64 L,.int .i64 M,.int .i64 N,.slice O.a O.n O.c]⟩,.nilIface]⟩) J)
theorem agx {fC:Int} {EL:Int} {aZ:Int} {aq:ah} {w:World} {R:Value→World→Prop} (h:Qw fC EL aZ aq w R):Ok Pr HJ [.int .i64 fC,.int .i64 EL,.int .i64 aZ,.slice aq.a aq.n aq.c] w R:=
 aL (m:=⟨true,true⟩) (J:=[]) (L:=[]) aJ Tryz.func112 (by kernel_rfl) ((by kernel_rfl:aK Pr _ _ _ Tryz.f112 _ w R=Qw fC EL aZ aq w R).mpr h)
def Nw (cl:Int) (cm:Int) (cr:Int) (bk:ah) (version:Int) (w:World) (R:Value→World→Prop):Prop:=
 nw aV [.int .i64 cl,.int .i64 cm,.int .i64 cr,.slice bk.a bk.n bk.c] w fun a b=>
 bA a b fun c d e f=>
 ay Pr DS [.agg ⟨[.int .i64 c,.int .i64 d,.int .i64 e,.slice f.a f.n f.c]⟩,.int .i64 version,.func (.func GU) ⟨[]⟩ ⟨[]⟩] b fun g i=>
 bw.bC g fun j=>
 aC j fun k l=>
 aU k fun m=>
 aC l fun n o=>
 aU n fun p=>
 aC o fun q s=>
 (s=[]∧
 R (.tuple ⟨[.slice m.a m.n m.c,q]⟩) i)
theorem aea {cl:Int} {cm:Int} {cr:Int} {bk:ah} {version:Int} {w:World} {R:Value→World→Prop} (h:Nw cl cm cr bk version w R):Ok Pr G5 [.agg ⟨[.int .i64 cl,.int .i64 cm,.int .i64 cr,.slice bk.a bk.n bk.c]⟩,.int .i64 version] w R:=
 aL (m:=⟨true,true⟩) (J:=[]) (L:=[]) aJ Tryz.func113 (by kernel_rfl) ((by kernel_rfl:aK Pr _ _ _ Tryz.f113 _ w R=Nw cl cm cr bk version w R).mpr h)
def Pw (cl:Int) (cm:Int) (cr:Int) (bk:ah) (version:Int) (c:ah) (w:World) (R:Value→World→Prop):Prop:=
 nw aV [.int .i64 cl,.int .i64 cm,.int .i64 cr,.slice bk.a bk.n bk.c] w fun a b=>
 bA a b fun d e f g=>
 ay Pr DS [.agg ⟨[.int .i64 d,.int .i64 e,.int .i64 f,.slice g.a g.n g.c]⟩,.int .i64 version,.func (.func DB) ⟨[]⟩ ⟨[]⟩] b fun i j=>
 bw.bC i fun k=>
 aC k fun l m=>
 aU l fun n=>
 aC m fun o p=>
 aU o fun q=>
 aC p fun s t=>
 (t=[]∧
 fm s fun u=>
 aA (!u)
 (R (.tuple ⟨[.slice none 0 0,s]⟩) j)
 (an .i64 (Addr.add a 2) j fun v=>
 ay Pr PJ [.int .i64 v,.slice q.a q.n q.c,.slice c.a c.n c.c] j fun x y=>
 bw.bC x fun z=>
 aC z fun A B=>
 aU A fun C=>
 aC B fun D E=>
 (E=[]∧
 R (.tuple ⟨[.slice C.a C.n C.c,D]⟩) y)))
theorem afz {cl:Int} {cm:Int} {cr:Int} {bk:ah} {version:Int} {c:ah} {w:World} {R:Value→World→Prop} (h:Pw cl cm cr bk version c w R):Ok Pr ON [.agg ⟨[.int .i64 cl,.int .i64 cm,.int .i64 cr,.slice bk.a bk.n bk.c]⟩,.int .i64 version,.slice c.a c.n c.c] w R:=
 aL (m:=⟨true,true⟩) (J:=[]) (L:=[]) aJ Tryz.func114 (by kernel_rfl) ((by kernel_rfl:aK Pr _ _ _ Tryz.f114 _ w R=Pw cl cm cr bk version c w R).mpr h)
def Px (cl:Int) (cm:Int) (cr:Int) (bk:ah) (m:ah) (w:World) (R:Value→World→Prop):Prop:=
 nw aV [.int .i64 cl,.int .i64 cm,.int .i64 cr,.slice bk.a bk.n bk.c] w fun a b=>
 bA a b fun c d e f=>
 ay Pr tu [.agg ⟨[.int .i64 c,.int .i64 d,.int .i64 e,.slice f.a f.n f.c]⟩] b fun g i=>
 aW g fun j=>
 aA (!j)
 (ay Pr kZ [.int .i64 2] i fun k l=>
 R (.tuple ⟨[.int .i64 0,.slice none 0 0,.slice none 0 0,k]⟩) l)
 (bA a i fun n o p q=>
 ay Pr Mv [.agg ⟨[.int .i64 n,.int .i64 o,.int .i64 p,.slice q.a q.n q.c]⟩] i fun s t=>
 bw.bC s fun u=>
 aC u fun v x=>
 uP v fun y z A B=>
 aC x fun C D=>
 aW C fun E=>
 (D=[]∧
 nw cw (zc Pr cw) t fun F G=>
 fz F y z A B G fun I=>
 aA (!E)
 (ay Pr kZ [.int .i64 11] I fun J L=>
 R (.tuple ⟨[.int .i64 0,.slice none 0 0,.slice none 0 0,J]⟩) L)
 (bA a I fun M N O Q=>
 an .i64 (Addr.add F 0) I fun S=>
 ay Pr DS [.agg ⟨[.int .i64 M,.int .i64 N,.int .i64 O,.slice Q.a Q.n Q.c]⟩,.int .i64 S,.func (.func DB) ⟨[]⟩ ⟨[]⟩] I fun T U=>
 bw.bC T fun V=>
 aC V fun X Y=>
 aU X fun Z=>
 aC Y fun aa ba=>
 aU aa fun ca=>
 aC ba fun da ea=>
 (ea=[]∧
 fm da fun fa=>
 aA (!fa)
 (R (.tuple ⟨[.int .i64 0,.slice none 0 0,.slice none 0 0,da]⟩) U)
 (an .i64 (Addr.add a 2) U fun ga=>
 ay Pr PK [.int .i64 ga,.slice Z.a Z.n Z.c,.slice m.a m.n m.c] U fun ia ja=>
 bw.bC ia fun ka=>
 aC ka fun la ma=>
 aU la fun na=>
 aC ma fun oa pa=>
 aU oa fun qa=>
 aC pa fun sa ta=>
 (ta=[]∧
 fm sa fun ua=>
 aA (!ua)
 (R (.tuple ⟨[.int .i64 0,.slice none 0 0,.slice none 0 0,sa]⟩) ja)
 (an .i64 (Addr.add F 0) ja fun va=>
 R (.tuple ⟨[.int .i64 va,.slice na.a na.n na.c,.slice qa.a qa.n qa.c,.nilIface]⟩) ja)))))))
theorem afA {cl:Int} {cm:Int} {cr:Int} {bk:ah} {m:ah} {w:World} {R:Value→World→Prop} (h:Px cl cm cr bk m w R):Ok Pr OO [.agg ⟨[.int .i64 cl,.int .i64 cm,.int .i64 cr,.slice bk.a bk.n bk.c]⟩,.slice m.a m.n m.c] w R:=
 aL (m:=⟨true,true⟩) (J:=[]) (L:=[]) aJ Tryz.func115 (by kernel_rfl) ((by kernel_rfl:aK Pr _ _ _ Tryz.f115 _ w R=Px cl cm cr bk m w R).mpr h)
def Nx (cl:Int) (cm:Int) (cr:Int) (bk:ah) (aq:ah) (w:World) (R:Value→World→Prop):Prop:=
 nw aV [.int .i64 cl,.int .i64 cm,.int .i64 cr,.slice bk.a bk.n bk.c] w fun a b=>
 nw aV (zc Pr aV) b fun c d=>
 bA a d fun e f g i=>
 ay Pr tu [.agg ⟨[.int .i64 e,.int .i64 f,.int .i64 g,.slice i.a i.n i.c]⟩] d fun j k=>
 aW j fun l=>
 aA (!l)
 (ay Pr kZ [.int .i64 2] k fun m n=>
 cF c 0 0 0 ⟨none,0,0⟩ n fun o=>
 bA c o fun p q s t=>
 R (.tuple ⟨[.agg ⟨[.int .i64 p,.int .i64 q,.int .i64 s,.slice t.a t.n t.c]⟩,m]⟩) o)
 (aA (!decide ((aq.n:Int)=64))
 (ay Pr kZ [.int .i64 3] k fun u v=>
 cF c 0 0 0 ⟨none,0,0⟩ v fun x=>
 bA c x fun y z A B=>
 R (.tuple ⟨[.agg ⟨[.int .i64 y,.int .i64 z,.int .i64 A,.slice B.a B.n B.c]⟩,u]⟩) x)
 (ax (Addr.add a 3) k fun C=>
 aA (decide ((C.n:Int)=5))
 (ay Pr kZ [.int .i64 12] k fun D E=>
 cF c 0 0 0 ⟨none,0,0⟩ E fun F=>
 bA c F fun G I J L=>
 R (.tuple ⟨[.agg ⟨[.int .i64 G,.int .i64 I,.int .i64 J,.slice L.a L.n L.c]⟩,D]⟩) F)
 (bA a k fun M N O Q=>
 ay Pr Bs [.agg ⟨[.int .i64 M,.int .i64 N,.int .i64 O,.slice Q.a Q.n Q.c]⟩] k fun S T=>
 rF S fun U V X Y=>
 cF a U V X Y T fun Z=>
 ax (Addr.add a 3) (World.drew Z) fun aa=>
 ax (Addr.add a 3) (World.drew Z) fun ba=>
 (aF ((ba.n:Int)+1)∧
 ay Pr Hi [.int .i64 ((ba.n:Int)+1),.slice aq.a aq.n aq.c] (World.drew Z) fun ca da=>
 uP ca fun ea fa ga ia=>
 (kept (Addr.add a 3) 1 (World.drew Z) da∧
 nw cw [.int .i64 ea,.int .i64 fa,.int .i64 ga,.slice ia.a ia.n ia.c] da fun ja ka=>
 (kept (Addr.add a 3) 1 da ka∧
 cJ Pr [s8,s8] s8 [.slice aa.a aa.n aa.c,.slice (some ja) 1 1] ka fun la ma=>
 st (Addr.add a 3) (.slice la.a la.n la.c) ma fun na=>
 bA a na fun oa pa qa sa=>
 cF c oa pa qa sa na fun ta=>
 bA c ta fun ua va xa ya=>
 R (.tuple ⟨[.agg ⟨[.int .i64 ua,.int .i64 va,.int .i64 xa,.slice ya.a ya.n ya.c]⟩,.nilIface]⟩) ta))))))
theorem aeb {cl:Int} {cm:Int} {cr:Int} {bk:ah} {aq:ah} {w:World} {R:Value→World→Prop} (h:Nx cl cm cr bk aq w R):Ok Pr MV [.agg ⟨[.int .i64 cl,.int .i64 cm,.int .i64 cr,.slice bk.a bk.n bk.c]⟩,.slice aq.a aq.n aq.c] w R:=
 aL (m:=⟨true,true⟩) (J:=[]) (L:=[]) aJ Tryz.func119 (by kernel_rfl) ((by kernel_rfl:aK Pr _ _ _ Tryz.f119 _ w R=Nx cl cm cr bk aq w R).mpr h)
def Qx (cl:Int) (cm:Int) (cr:Int) (bk:ah) (op:Int) (version:Int) (zG:Int) (clock:Int) (w:World) (R:Value→World→Prop):Prop:=
 nw aV [.int .i64 cl,.int .i64 cm,.int .i64 cr,.slice bk.a bk.n bk.c] w fun a b=>
 nw aV (zc Pr aV) b fun c d=>
 bA a d fun e f g i=>
 ay Pr tu [.agg ⟨[.int .i64 e,.int .i64 f,.int .i64 g,.slice i.a i.n i.c]⟩] d fun j k=>
 aW j fun l=>
 aA (((!l) || (decide (op<5))) || (decide (8<op)))
 (ay Pr kZ [.int .i64 2] k fun m n=>
 cF c 0 0 0 ⟨none,0,0⟩ n fun o=>
 bA c o fun p q s t=>
 R (.tuple ⟨[.agg ⟨[.int .i64 p,.int .i64 q,.int .i64 s,.slice t.a t.n t.c]⟩,m]⟩) o)
 (bA a k fun u v x y=>
 ay Pr yN [.agg ⟨[.int .i64 u,.int .i64 v,.int .i64 x,.slice y.a y.n y.c]⟩,.int .i64 version] k fun z A=>
 bw.bC z fun B=>
 aC B fun C D=>
 uP C fun E F G I=>
 aC D fun J L=>
 aW J fun M=>
 (L=[]∧
 nw cw (zc Pr cw) A fun N O=>
 fz N E F G I O fun Q=>
 aA (!M)
 (ay Pr kZ [.int .i64 9] Q fun S T=>
 cF c 0 0 0 ⟨none,0,0⟩ T fun U=>
 bA c U fun V X Y Z=>
 R (.tuple ⟨[.agg ⟨[.int .i64 V,.int .i64 X,.int .i64 Y,.slice Z.a Z.n Z.c]⟩,S]⟩) U)
 (an .i64 (Addr.add N 1) Q fun aa=>
 ay Pr OQ [.int .i64 op,.int .i64 aa] Q fun ba ca=>
 bw.bC ba fun da=>
 aC da fun ea fa=>
 aY .i64 ea fun ga=>
 aC fa fun ia ja=>
 aW ia fun ka=>
 (ja=[]∧
 jz (fun (la:Int)=>[(3,some (.int .i64 la))])
 (fun la ma=>bA a ma fun na oa pa qa=>
 ay Pr Bs [.agg ⟨[.int .i64 na,.int .i64 oa,.int .i64 pa,.slice qa.a qa.n qa.c]⟩] ma fun sa ta=>
 rF sa fun ua va xa ya=>
 cF a ua va xa ya ta fun za=>
 ax (Addr.add a 3) (World.drew za) fun Aa=>
 (aF (version - 1)∧
 ax (Addr.add a 3) (World.drew za) fun Ba=>
 (aF (version - 1)∧
 aQ Aa.a (version - 1) Aa.n
 (st (Addr.add (Addr.add (base Aa.a) (Int.toNat (version - 1) * 4)) 1) (.int .i64 ga) (World.drew za) fun Ca=>
 (kept (Addr.add a 3) 1 (World.drew za) Ca∧
 aQ Ba.a (version - 1) Ba.n
 (st (Addr.add (Addr.add (base Ba.a) (Int.toNat (version - 1) * 4)) 2) (.int .i64 la) Ca fun Da=>
 bA a Da fun Ea Fa Ga Ia=>
 cF c Ea Fa Ga Ia Da fun Ja=>
 bA c Ja fun La Ma Na Oa=>
 R (.tuple ⟨[.agg ⟨[.int .i64 La,.int .i64 Ma,.int .i64 Na,.slice Oa.a Oa.n Oa.c]⟩,.nilIface]⟩) Ja))))))
 (fun Qa=>
 aA (!ka)
 (ay Pr kZ [.int .i64 11] ca fun Sa Ta=>
 cF c 0 0 0 ⟨none,0,0⟩ Ta fun Ua=>
 bA c Ua fun Va Xa Ya Za=>
 R (.tuple ⟨[.agg ⟨[.int .i64 Va,.int .i64 Xa,.int .i64 Ya,.slice Za.a Za.n Za.c]⟩,Sa]⟩) Ua)
 (aA (!decide (op=7))
 (Qa 0 ca)
 (jz (fun (ab:Bool)=>[(53,some (.bool ab))])
 (fun ab bb=>aA ab
 (ay Pr kZ [.int .i64 2] bb fun cb db=>
 cF c 0 0 0 ⟨none,0,0⟩ db fun eb=>
 bA c eb fun fb gb ib jb=>
 R (.tuple ⟨[.agg ⟨[.int .i64 fb,.int .i64 gb,.int .i64 ib,.slice jb.a jb.n jb.c]⟩,cb]⟩) eb)
 (Qa zG bb))
 (fun kb=>
 aA (decide (zG≤clock))
 (kb true ca)
 (ay Pr uV [.int .i64 zG,.int .i64 1,.int .i64 1099511627776] ca fun lb mb=>
 aW lb fun nb=>
 kb (!nb) mb)))))))))
theorem agy {cl:Int} {cm:Int} {cr:Int} {bk:ah} {op:Int} {version:Int} {zG:Int} {clock:Int} {w:World} {R:Value→World→Prop} (h:Qx cl cm cr bk op version zG clock w R):Ok Pr PF [.agg ⟨[.int .i64 cl,.int .i64 cm,.int .i64 cr,.slice bk.a bk.n bk.c]⟩,.int .i64 op,.int .i64 version,.int .i64 zG,.int .i64 clock] w R:=
 aL (m:=⟨true,true⟩) (J:=[(13,[(3,.int .i64)]),(12,[(53,.bool)])]) (L:=[]) aJ Tryz.func120 (by kernel_rfl) ((by kernel_rfl:aK Pr _ _ _ Tryz.f120 _ w R=Qx cl cm cr bk op version zG clock w R).mpr h)
def Mh (s:ByteArray) (w:World) (R:Value→World→Prop):Prop:=
 R (.bool ((decide (1≤((ByteArray.size s:Nat):Int))) && (decide (((ByteArray.size s:Nat):Int)≤300)))) w
theorem adj {s:ByteArray} {w:World} {R:Value→World→Prop} (h:Mh s w R):Ok Pr GO [.string s] w R:=
 aL (m:=⟨true,true⟩) (J:=[]) (L:=[]) aJ Tryz.func123 (by kernel_rfl) ((by kernel_rfl:aK Pr _ _ _ Tryz.f123 _ w R=Mh s w R).mpr h)
def Mj (l:ah) (parent:Int) (name:ByteArray) (w:World) (R:Value→World→Prop):Prop:=
 nw bH [.int .i64 parent] w fun a b=>
 nw zn [.string name] b fun c d=>
 ay Pr Kq [.slice l.a l.n l.c,.func (.func Lv) ⟨[]⟩ ⟨[.pointer (some a),.pointer (some c)]⟩] d fun e f=>
 aW e fun g=>
 R (.bool g) f
theorem adk {l:ah} {parent:Int} {name:ByteArray} {w:World} {R:Value→World→Prop} (h:Mj l parent name w R):Ok Pr GQ [.slice l.a l.n l.c,.int .i64 parent,.string name] w R:=
 aL (m:=⟨true,true⟩) (J:=[]) (L:=[]) aJ Tryz.func124 (by kernel_rfl) ((by kernel_rfl:aK Pr _ _ _ Tryz.f124 _ w R=Mj l parent name w R).mpr h)
def QW (n:Int) (lo:Int) (hi:Int) (w:World) (R:Value→World→Prop):Prop:=
 R (.bool ((decide (lo≤n)) && (decide (n≤hi)))) w
theorem ag5 {n:Int} {lo:Int} {hi:Int} {w:World} {R:Value→World→Prop} (h:QW n lo hi w R):Ok Pr uV [.int .i64 n,.int .i64 lo,.int .i64 hi] w R:=
 aL (m:=⟨true,true⟩) (J:=[]) (L:=[]) aJ Tryz.func127 (by kernel_rfl) ((by kernel_rfl:aK Pr _ _ _ Tryz.f127 _ w R=QW n lo hi w R).mpr h)
def Qy (sP:Int) (sQ:Int) (sR:Int) (kW:ah) (n:Int) (w:World) (R:Value→World→Prop):Prop:=
 nw cw [.int .i64 sP,.int .i64 sQ,.int .i64 sR,.slice kW.a kW.n kW.c] w fun a b=>
 an .i64 (Addr.add a 2) (World.drew b) fun c=>
 ax (Addr.add a 3) (World.drew b) fun d=>
 lt (A:=Bool) (decide ((d.n:Int)=64)) fun e=>
 tQ (fun (f:Bool) (g:Bool)=>[(5,some (.bool f)),(6,some (.bool g))])
 (fun f g i=>an .i64 (Addr.add a 0) i fun j=>
 R (.bool (((decide (j=n)) && f) && g)) i)
 (fun k=>
 an .i64 (Addr.add a 1) (World.drew b) fun l=>
 aA (decide (l=3))
 (an .i64 (Addr.add a 2) (World.drew b) fun m=>
 ay Pr uV [.int .i64 m,.int .i64 1,.int .i64 1099511627776] (World.drew b) fun o p=>
 aW o fun q=>
 k q e p)
 (aA (decide (l=4))
 (ax (Addr.add a 3) (World.drew b) fun s=>
 lt (A:=Bool) (decide ((s.n:Int)=0)) fun t=>
 k (decide (c=0)) t (World.drew b))
 (aA (decide (l=1))
 (aA (decide (l=1))
 (k (decide (c=0)) e (World.drew b))
 (R (.bool false) (World.drew b)))
 (aA (decide (l=2))
 (k (decide (c=0)) e (World.drew b))
 (R (.bool false) (World.drew b))))))
theorem agz {sP:Int} {sQ:Int} {sR:Int} {kW:ah} {n:Int} {w:World} {R:Value→World→Prop} (h:Qy sP sQ sR kW n w R):Ok Pr PG [.agg ⟨[.int .i64 sP,.int .i64 sQ,.int .i64 sR,.slice kW.a kW.n kW.c]⟩,.int .i64 n] w R:=
 aL (m:=⟨true,true⟩) (J:=[(10,[(5,.bool),(6,.bool)])]) (L:=[]) aJ Tryz.func128 (by kernel_rfl) ((by kernel_rfl:aK Pr _ _ _ Tryz.f128 _ w R=Qy sP sQ sR kW n w R).mpr h)
def Mk (sP:Int) (sQ:Int) (sR:Int) (kW:ah) (n:Int) (w:World) (R:Value→World→Prop):Prop:=
 nw cw [.int .i64 sP,.int .i64 sQ,.int .i64 sR,.slice kW.a kW.n kW.c] w fun a b=>
 an .i64 (Addr.add a 0) b fun c=>
 an .i64 (Addr.add a 1) b fun d=>
 an .i64 (Addr.add a 1) b fun e=>
 aA (((!decide (c=n)) || (decide (d<1))) || (decide (4<e)))
 (R (.bool false) b)
 (an .i64 (Addr.add a 1) b fun f=>
 ax (Addr.add a 3) b fun g=>
 an .i64 (Addr.add a 1) b fun i=>
 ax (Addr.add a 3) b fun j=>
 aA (((decide (f=4)) && (!decide ((g.n:Int)=0))) || ((!decide (i=4)) && (!decide ((j.n:Int)=64))))
 (R (.bool false) b)
 (an .i64 (Addr.add a 1) b fun k=>
 aA (decide (k=3))
 (an .i64 (Addr.add a 2) b fun l=>
 an .i64 (Addr.add a 2) b fun m=>
 R (.bool ((decide (1≤l)) && (decide (m≤1099511627776)))) b)
 (an .i64 (Addr.add a 2) b fun o=>
 R (.bool (decide (o=0))) b)))
theorem adl {sP:Int} {sQ:Int} {sR:Int} {kW:ah} {n:Int} {w:World} {R:Value→World→Prop} (h:Mk sP sQ sR kW n w R):Ok Pr LX [.agg ⟨[.int .i64 sP,.int .i64 sQ,.int .i64 sR,.slice kW.a kW.n kW.c]⟩,.int .i64 n] w R:=
 aL (m:=⟨true,true⟩) (J:=[]) (L:=[]) aJ Tryz.func147 (by kernel_rfl) ((by kernel_rfl:aK Pr _ _ _ Tryz.f147 _ w R=Mk sP sQ sR kW n w R).mpr h)
def MJ (l:ah) (a:Int) (w:World) (R:Value→World→Prop):Prop:=
 ay Pr DE [.slice l.a l.n l.c] w fun b c=>
 aW b fun d=>
 aA (!d)
 (R (.slice none 0 0) c)
 (iA (fun (e:Int) (f:ah)=>[(1,some (.int .i64 e)),(5,some (.slice f.a f.n f.c))])
 (fun g e f i=>ay Pr GR [.slice l.a l.n l.c,.int .i64 e] i fun j k=>
 aW j fun m=>
 aA m
 (nw bH [.int .i64 e] k fun n o=>
 cJ Pr [fo,fo] fo [.slice f.a f.n f.c,.slice (some n) 1 1] o fun p q=>
 (aF (e - 1)∧
 aQ l.a (e - 1) l.n
 (an .i64 (Addr.add (Addr.add (base l.a) (Int.toNat (e - 1) * 3)) 1) q fun s=>
 g s p q)))
 (R (.slice f.a f.n f.c) k))
 a ⟨none,0,0⟩ c)
theorem adE {l:ah} {a:Int} {w:World} {R:Value→World→Prop} (h:MJ l a w R):Ok Pr Mu [.slice l.a l.n l.c,.int .i64 a] w R:=
 aL (m:=⟨true,true⟩) (J:=[]) (L:=[(4,[(1,.int .i64),(5,.sl)])]) aJ Tryz.func150 (by kernel_rfl) ((by kernel_rfl:aK Pr _ _ _ Tryz.f150 _ w R=MJ l a w R).mpr h)
def Ml (code:Int) (w:World) (R:Value→World→Prop):Prop:=
 nw pI [.int .i64 code,.string aiG] w fun a b=>
 R (.iface jw (.pointer (some a))) b
theorem adm {code:Int} {w:World} {R:Value→World→Prop} (h:Ml code w R):Ok Pr wM [.int .i64 code] w R:=
 aL (m:=⟨true,true⟩) (J:=[]) (L:=[]) aJ Tryz.func155 (by kernel_rfl) ((by kernel_rfl:aK Pr _ _ _ Tryz.f155 _ w R=Ml code w R).mpr h)
def Mm (l:ah) (fC:Int) (w:World) (R:Value→World→Prop):Prop:=
 R (.bool ((decide (1≤fC)) && (decide (fC≤(l.n:Int))))) w
theorem adn {l:ah} {fC:Int} {w:World} {R:Value→World→Prop} (h:Mm l fC w R):Ok Pr GR [.slice l.a l.n l.c,.int .i64 fC] w R:=
 aL (m:=⟨true,true⟩) (J:=[]) (L:=[]) aJ Tryz.func156 (by kernel_rfl) ((by kernel_rfl:aK Pr _ _ _ Tryz.f156 _ w R=Mm l fC w R).mpr h)
def Oy (n:Int) (aq:ah) (w:World) (R:Value→World→Prop):Prop:=
 nw cw (zc Pr cw) w fun a b=>
 ay Pr s6 [.slice aq.a aq.n aq.c] b fun c d=>
 aU c fun e=>
 fz a n 1 0 e d fun f=>
 gE a f fun g i j k=>
 R (.agg ⟨[.int .i64 g,.int .i64 i,.int .i64 j,.slice k.a k.n k.c]⟩) f
theorem aeP {n:Int} {aq:ah} {w:World} {R:Value→World→Prop} (h:Oy n aq w R):Ok Pr Hi [.int .i64 n,.slice aq.a aq.n aq.c] w R:=
 aL (m:=⟨true,true⟩) (J:=[]) (L:=[]) aJ Tryz.func157 (by kernel_rfl) ((by kernel_rfl:aK Pr _ _ _ Tryz.f157 _ w R=Oy n aq w R).mpr h)
def Oz (code:Int) (w:World) (R:Value→World→Prop):Prop:=
 nw pI [.int .i64 code,.string alK] w fun a b=>
 R (.iface jw (.pointer (some a))) b
theorem aeQ {code:Int} {w:World} {R:Value→World→Prop} (h:Oz code w R):Ok Pr kZ [.int .i64 code] w R:=
 aL (m:=⟨true,true⟩) (J:=[]) (L:=[]) aJ Tryz.func158 (by kernel_rfl) ((by kernel_rfl:aK Pr _ _ _ Tryz.f158 _ w R=Oz code w R).mpr h)
def Py (cl:Int) (cm:Int) (cr:Int) (bk:ah) (version:Int) (usable:Value) (w:World) (R:Value→World→Prop):Prop:=
 nw aV [.int .i64 cl,.int .i64 cm,.int .i64 cr,.slice bk.a bk.n bk.c] w fun a b=>
 bA a b fun c d e f=>
 ay Pr tu [.agg ⟨[.int .i64 c,.int .i64 d,.int .i64 e,.slice f.a f.n f.c]⟩] b fun g i=>
 aW g fun j=>
 aA (!j)
 (ay Pr kZ [.int .i64 2] i fun k l=>
 R (.tuple ⟨[.slice none 0 0,.slice none 0 0,k]⟩) l)
 (bA a i fun m n o p=>
 ay Pr yN [.agg ⟨[.int .i64 m,.int .i64 n,.int .i64 o,.slice p.a p.n p.c]⟩,.int .i64 version] i fun q s=>
 bw.bC q fun t=>
 aC t fun u v=>
 uP u fun x y z A=>
 aC v fun B C=>
 aW B fun D=>
 (C=[]∧
 nw cw (zc Pr cw) s fun E F=>
 fz E x y z A F fun G=>
 aA (!D)
 (ay Pr kZ [.int .i64 9] G fun I J=>
 R (.tuple ⟨[.slice none 0 0,.slice none 0 0,I]⟩) J)
 (an .i64 (Addr.add E 1) G fun L=>
 lX Pr usable [.int .i64 L] G fun M N=>
 aW M fun O=>
 aA (!O)
 (ay Pr kZ [.int .i64 11] N fun Q S=>
 R (.tuple ⟨[.slice none 0 0,.slice none 0 0,Q]⟩) S)
 (an .i64 (Addr.add a 2) N fun T=>
 ax (Addr.add E 3) N fun U=>
 ay Pr PL [.int .i64 T,.slice U.a U.n U.c] N fun V X=>
 bw.bC V fun Y=>
 aC Y fun Z aa=>
 aU Z fun ba=>
 aC aa fun ca da=>
 aU ca fun ea=>
 aC da fun fa ga=>
 (ga=[]∧
 R (.tuple ⟨[.slice ba.a ba.n ba.c,.slice ea.a ea.n ea.c,fa]⟩) X)))))
theorem afB {cl:Int} {cm:Int} {cr:Int} {bk:ah} {version:Int} {usable:Value} {w:World} {R:Value→World→Prop} (h:Py cl cm cr bk version usable w R):Ok Pr DS [.agg ⟨[.int .i64 cl,.int .i64 cm,.int .i64 cr,.slice bk.a bk.n bk.c]⟩,.int .i64 version,usable] w R:=
 aL (m:=⟨true,true⟩) (J:=[]) (L:=[]) aJ Tryz.func159 (by kernel_rfl) ((by kernel_rfl:aK Pr _ _ _ Tryz.f159 _ w R=Py cl cm cr bk version usable w R).mpr h)
def Mn (state:Int) (w:World) (R:Value→World→Prop):Prop:=
 R (.bool (!decide (state=4))) w
theorem ado {state:Int} {w:World} {R:Value→World→Prop} (h:Mn state w R):Ok Pr GU [.int .i64 state] w R:=
 aL (m:=⟨true,true⟩) (J:=[]) (L:=[]) aJ Tryz.func160 (by kernel_rfl) ((by kernel_rfl:aK Pr _ _ _ Tryz.f160 _ w R=Mn state w R).mpr h)
def MK (state:Int) (w:World) (R:Value→World→Prop):Prop:=
 R (.bool (decide (state=1))) w
theorem adF {state:Int} {w:World} {R:Value→World→Prop} (h:MK state w R):Ok Pr DB [.int .i64 state] w R:=
 aL (m:=⟨true,true⟩) (J:=[]) (L:=[]) aJ Tryz.func161 (by kernel_rfl) ((by kernel_rfl:aK Pr _ _ _ Tryz.f161 _ w R=MK state w R).mpr h)
def ML (cl:Int) (cm:Int) (cr:Int) (bk:ah) (w:World) (R:Value→World→Prop):Prop:=
 nw aV [.int .i64 cl,.int .i64 cm,.int .i64 cr,.slice bk.a bk.n bk.c] w fun a b=>
 nw cw (zc Pr cw) b fun c d=>
 ax (Addr.add a 3) d fun e=>
 cX (fun (f:Int)=>[(4,some (.int .i64 f))])
 (fun g f i=>aA (decide (0<f))
 (bA a i fun j k l m=>
 ay Pr yN [.agg ⟨[.int .i64 j,.int .i64 k,.int .i64 l,.slice m.a m.n m.c]⟩,.int .i64 f] i fun n o=>
 bw.bC n fun p=>
 aC p fun q s=>
 uP q fun t u v x=>
 aC s fun y z=>
 aW y fun A=>
 (z=[]∧
 nw cw (zc Pr cw) o fun B C=>
 fz B t u v x C fun D=>
 an .i64 (Addr.add B 1) D fun E=>
 aA (A && (decide (E=1)))
 (gE B D fun F G I J=>
 fz c F G I J D fun L=>
 gE c L fun M N O Q=>
 R (.tuple ⟨[.agg ⟨[.int .i64 M,.int .i64 N,.int .i64 O,.slice Q.a Q.n Q.c]⟩,.bool true]⟩) L)
 ((aF (f - 1)∧
 g (f - 1) D))))
 (fz c 0 0 0 ⟨none,0,0⟩ i fun S=>
 gE c S fun T U V X=>
 R (.tuple ⟨[.agg ⟨[.int .i64 T,.int .i64 U,.int .i64 V,.slice X.a X.n X.c]⟩,.bool false]⟩) S))
 (e.n:Int) d
theorem adG {cl:Int} {cm:Int} {cr:Int} {bk:ah} {w:World} {R:Value→World→Prop} (h:ML cl cm cr bk w R):Ok Pr Mv [.agg ⟨[.int .i64 cl,.int .i64 cm,.int .i64 cr,.slice bk.a bk.n bk.c]⟩] w R:=
 aL (m:=⟨true,true⟩) (J:=[]) (L:=[(2,[(4,.int .i64)])]) aJ Tryz.func163 (by kernel_rfl) ((by kernel_rfl:aK Pr _ _ _ Tryz.f163 _ w R=ML cl cm cr bk w R).mpr h)
def Pz (op:Int) (state:Int) (w:World) (R:Value→World→Prop):Prop:=
 jz (fun (a:Int)=>[(1,some (.int .i64 a))])
 (fun a b=>R (.tuple ⟨[.int .i64 2,.bool (decide (a=3))]⟩) b)
 (fun c=>
 aA (decide (op=5))
 (R (.tuple ⟨[.int .i64 1,.bool (decide (state=2))]⟩) w)
 (aA (decide (op=7))
 (aA ((decide (state=1)) || (decide (state=2)))
 (R (.tuple ⟨[.int .i64 3,.bool true]⟩) w)
 (R (.tuple ⟨[.int .i64 0,.bool false]⟩) w))
 (aA (decide (op=6))
 (aA (!decide (state=1))
 (R (.tuple ⟨[.int .i64 0,.bool false]⟩) w)
 (c 3 w))
 (aA (decide (op=8))
 (c state w)
 (R (.tuple ⟨[.int .i64 0,.bool false]⟩) w)))))
theorem afC {op:Int} {state:Int} {w:World} {R:Value→World→Prop} (h:Pz op state w R):Ok Pr OQ [.int .i64 op,.int .i64 state] w R:=
 aL (m:=⟨true,true⟩) (J:=[(11,[(1,.int .i64)])]) (L:=[]) aJ Tryz.func168 (by kernel_rfl) ((by kernel_rfl:aK Pr _ _ _ Tryz.f168 _ w R=Pz op state w R).mpr h)
def LB (cW:Int) (bL:Int) (bM:ByteArray) (free:Addr) (kA:Addr) (w:World) (R:Value→World→Prop):Prop:=
 nw dh [.int .i64 cW,.int .i64 bL,.string bM] w fun a b=>
 an .i64 (Addr.add a 1) b fun c=>
 an .i64 free b fun d=>
 gp (Addr.add a 2) b fun e=>
 gp kA b fun f=>
 R (.bool ((decide (c=d)) && (decide (e=f)))) b
theorem acF {cW:Int} {bL:Int} {bM:ByteArray} {free:Addr} {kA:Addr} {w:World} {R:Value→World→Prop} (h:LB cW bL bM free kA w R):Ok Pr Lv [.agg ⟨[.int .i64 cW,.int .i64 bL,.string bM]⟩,.pointer (some free),.pointer (some kA)] w R:=
 aL (m:=⟨true,true⟩) (J:=[]) (L:=[]) aJ Tryz.func170 (by kernel_rfl) ((by kernel_rfl:aK Pr _ _ _ Tryz.f170 _ w R=LB cW bL bM free kA w R).mpr h)
end Go.Proofs.YtgjoehgomjgckaaGreatDoor
end
section
set_option linter.unusedVariables false
set_option linter.unusedSimpArgs false
namespace Go.Proofs.YtgjoehgomjgckaaGreatDoor
open Go Go.Ev
set_option maxRecDepth 20000
set_option linter.unusedVariables false
structure bq where
 n:Int
 st:Int
 due:Int
 aq:List B8
def vz:bq:=⟨0,0,0,[]⟩
def bq.cs (v:bq) (x:ah):List Value:=uQ v.n v.st v.due x
theorem bq.cz (v:bq) (x:ah):(v.cs x).length=4:=rfl
def jM (w:World) (x:ah) (v:bq):Prop:=Bytes w x v.aq
theorem jM.aG {w w':World} {x:ah} {v:bq} (m:Mod [] w w') (h:jM w x v):jM w' x v:=Bytes.aG h m
def gh (w:World) (s:ah) (vs:List bq):Prop:=Dv bq.cs 4 jM w s vs
theorem gh.aG {w w':World} {s:ah} {vs:List bq} (h:gh w s vs) (m:Mod [] w w'):gh w' s vs:=Dv.aG (E:=jM) (fun m h=>jM.aG m h) h m
theorem gh.len {w:World} {s:ah} {vs:List bq} (h:gh w s vs):vs.length=s.n:=Dv.len bq.cz (by omega) h
structure aP where
 id:Int
 ten:Int
 set:Int
 aH:List bq
def kz:aP:=⟨0,0,0,[]⟩
def aP.cs (k:aP) (x:ah):List Value:=dH k.id k.ten k.set x
theorem aP.cz (k:aP) (x:ah):(k.cs x).length=4:=rfl
def iB (w:World) (x:ah) (v:bq):Prop:=Own w 0 aX 1 x (bp v.aq)
theorem iB.r {w:World} {x:ah} {v:bq} (h:iB w x v):jM w x v:=Own.bytes h
theorem aj7 {w:World} {xs:List ah} {vs:List bq} (h:bn iB w xs vs):bn jM w xs vs:=⟨h.1,fun i x v hx hv=>(h.2 i x v hx hv).r⟩
def jZ (w:World) (s:ah) (vs:List bq):Prop:=∃ ys,Own w 0 cw 4 s (bh bq.cs vs ys)∧bn iB w ys vs
theorem jZ.aH {w:World} {s:ah} {vs:List bq} (h:jZ w s vs):gh w s vs:=by
 obtain ⟨ys,h1,h2⟩:=h
 exact ⟨ys,h1.sl,aj7 h2⟩
def JD (w w':World) (y:ah) (vs:List bq):Prop:=∃ ys fp,ak w [] w' [.row cw 4 y (bh bq.cs vs ys),.box fp fun w=>bn iB w ys vs]
theorem JD.box {w w':World} {y:ah} {vs:List bq} (h:JD w w' y vs):fK w w' fun w=>jZ w y vs:=by
 obtain ⟨ys,fp,H⟩:=h
 refine H.boxed fun w' k=>⟨ys,k 0 _ rfl,?_⟩
 have h2:(aD.box fp fun w=>bn iB w ys vs).ok w':=k 1 _ rfl
 exact h2.2 w' fun _ _=>rfl
theorem A5 (c:Int) (hc:c≠0) (w:World):Ok Pr kZ [.int .i64 c] w fun v w'=>cP w w' v c∧Mod [] w w':=by
 refine aeQ ?_
 unfold Oz
 exact qM fun b w' hb h1 h2 _=>⟨cP.mk h1 (by omega) hc,h2⟩
theorem yZ (n lo hi:Int) (w:World):Ok Pr uV [.int .i64 n,.int .i64 lo,.int .i64 hi] w fun v w'=>v=.bool (aS lo hi n)∧w'=w:=by
 refine ag5 ?_
 unfold QW
 exact ⟨rfl,rfl⟩
def gl (v:bq) (n:Int):Bool:=decide (v.n=n) && (if v.st=3 then aS 1 1099511627776 v.due && decide (v.aq.length=64) else if v.st=4 then decide (v.due=0) && decide (v.aq.length=0) else if v.st=1∨v.st=2 then decide (v.due=0) && decide (v.aq.length=64) else false)
theorem ahH (v:bq) (x:ah) (n:Int) (w:World) (hx:jM w x v):Ok Pr PG [.agg ⟨v.cs x⟩,.int .i64 n] w fun r w'=>r=.bool (gl v n)∧Mod [] w w':=by
 refine agz ?_
 unfold Qy
 have bU:=Bytes.len hx
 refine (ak.start w).nw fun p w1 H _=>?_
 have H:ak w [] w1.drew [.av p (uQ v.n v.st v.due x) cw]:=H.drew
 refine H.an 0 rfl (au p 2) rfl (H.ax 0 rfl (au p 3) rfl (rN (uZ fun go bY=>H.an 0 rfl (au p 1) rfl ?_)))
 have fin:∀ (d s:Bool),gl v n=(decide (v.n=n) && (d && s))→go d s w1.drew:=fun d s e=>by
  refine bY _ _ _ (H.an 0 rfl (au p 0) rfl ⟨?_,H.mod⟩)
  rw [e,Bool.and_assoc]
 have TW:decide (((x.n:Nat):Int)=64)=decide (v.aq.length=64):=decide_eq_decide.2 (by omega)
 have e0:decide (((x.n:Nat):Int)=0)=decide (v.aq.length=0):=decide_eq_decide.2 (by omega)
 rw [TW]
 refine bV (fun hc=>?_) (fun hc=>?_)
 ·have hc:=of_decide_eq_true hc
  refine H.an 0 rfl (au p 2) rfl (aB (yZ _ _ _ _) ?_)
  rintro _ w2 ⟨rfl,hw⟩
  subst hw
  exact bz (fin _ _ (by unfold gl; rw [if_pos hc]))
 ·have h3:=of_decide_eq_false hc
  refine bV (fun hc=>?_) (fun hc=>?_)
  ·have hc:=of_decide_eq_true hc
   refine H.ax 0 rfl (au p 3) rfl (rN ?_)
   rw [e0]
   exact fin _ _ (by unfold gl; rw [if_neg h3,if_pos hc])
  ·have h4:=of_decide_eq_false hc
   have no:¬ (v.st=1∨v.st=2)→gl v n=false:=fun h=>by unfold gl; rw [if_neg h3,if_neg h4,if_neg h,Bool.and_false]
   refine bV (fun hc=>?_) (fun hc=>?_)
   ·refine ite_true hc ?_
    have hc:=of_decide_eq_true hc
    exact fin _ _ (by unfold gl; rw [if_neg h3,if_neg h4,if_pos (.inl hc)])
   ·have h1:=of_decide_eq_false hc
    refine bV (fun hc=>?_) (fun hc=>?_)
    ·have hc:=of_decide_eq_true hc
     exact fin _ _ (by unfold gl; rw [if_neg h3,if_neg h4,if_pos (.inr hc)])
    ·have h2:=of_decide_eq_false hc
     exact ⟨by rw [no (fun h=>h.elim h1 h2)],H.mod⟩
def mz (vs:List bq):Nat→Bool
 | 0=>true
 | i+1=>mz vs i && gl (vs.getD i vz) ((i:Int)+1)
theorem RZ {vs:List bq} {i:Nat} (h:gl (vs.getD i vz) ((i:Int)+1)=false):∀ n,i<n→mz vs n=false
 | 0,hn=>by omega
 | n+1,hn=>by
  show (mz vs n && _)=false
  rcases Nat.lt_or_ge i n with h2 | h2
  ·rw [RZ h n h2,Bool.false_and]
  ·rw [show n=i by omega,h,Bool.and_false]
def cL (k:aP):Bool:=aS 1 6 k.id && (aS 1 8 k.ten && (aS 1 3 k.set && (aS 1 5 (k.aH.length:Int) && mz k.aH k.aH.length)))
theorem wV (k:aP) (x:ah) (hl:k.aH.length≤1000000) (w:World) (hx:gh w x k.aH):Ok Pr tu [.agg ⟨k.cs x⟩] w fun r w'=>r=.bool (cL k)∧Mod [] w w':=by
 refine agv ?_
 unfold Qu
 have bU:=hx.len
 refine (ak.start w).nw fun p w1 H _=>?_
 have H:ak w [] w1 [.av p (dH k.id k.ten k.set x) aV]:=H
 refine jJ fun go bY=>H.an 0 rfl (au p 0) rfl (aB (yZ _ _ _ _) ?_)
 rintro _ w2 ⟨rfl,hw⟩
 subst hw
 refine bz (H.an 0 rfl (au p 1) rfl ?_)
 unfold cL
 cases h1:aS 1 6 k.id with
 | false=>exact ite_true rfl (H.an 0 rfl (au p 2) rfl (H.ax 0 rfl (au p 3) rfl ⟨rfl,H.mod⟩))
 | true=>
  refine ite_false rfl (aB (yZ _ _ _ _) ?_)
  rintro _ w2 ⟨rfl,hw⟩
  subst hw
  refine bz (H.an 0 rfl (au p 2) rfl ?_)
  cases h2:aS 1 8 k.ten with
  | false=>exact ite_true rfl (H.ax 0 rfl (au p 3) rfl ⟨rfl,H.mod⟩)
  | true=>
   refine ite_false rfl (aB (yZ _ _ _ _) ?_)
   rintro _ w2 ⟨rfl,hw⟩
   subst hw
   refine bz (H.ax 0 rfl (au p 3) rfl ?_)
   cases h3:aS 1 3 k.set with
   | false=>exact ite_true rfl ⟨rfl,H.mod⟩
   | true=>
    refine ite_false rfl (aB (yZ _ _ _ _) ?_)
    rintro _ w2 ⟨rfl,hw⟩
    subst hw
    rw [show ((x.n:Nat):Int)=(k.aH.length:Int) by omega]
    refine bz ?_
    cases h4:aS 1 5 (k.aH.length:Int) with
    | false=>exact ite_true rfl ⟨rfl,H.mod⟩
    | true=>
     have eK:cL k=mz k.aH k.aH.length:=by unfold cL; rw [h1,h2,h3,h4]; rfl
     refine ite_false rfl (bY _ (H.ax 0 rfl (au p 3) rfl ?_))
     refine dm 0 k.aH.length (fun i w'=>mz k.aH i=true∧Mod [] w w') rfl (by omega) ⟨rfl,H.mod⟩ ?_ ?_
     ·rintro again i w3 _ hi ⟨dV,m⟩ aM
      have ha:k.aH[i]? = some (k.aH.getD i vz):=by rw [List.getD_eq_getElem?_getD,List.getElem?_eq_getElem hi]; rfl
      obtain ⟨dw,y,hy,hc⟩:=Dv.at bq.cz (by omega) (hx.aG m) ha
      have hs:mz k.aH (i+1)=(mz k.aH i && gl (k.aH.getD i vz) ((i:Int)+1)):=rfl
      have dz:=RZ (vs:=k.aH) (i:=i)
      generalize k.aH.getD i vz=v at *
      have D:=ak.start w3
      refine ite_true (decide_eq_true (by omega)) ⟨dw,uO hc (D.nw fun p2 w4 D _=>D.fz 0 rfl rfl fun w5 D=>D.gE 0 rfl ⟨⟨by omega,by omega⟩,aB (ahH v y _ _ (jM.aG D.mod hy)) ?_⟩)⟩
      ·rintro _ w6 ⟨rfl,m6⟩
       refine bz ?_
       cases hv:gl v ((i:Int)+1) with
       | false=>exact ite_true rfl ⟨by rw [eK,dz hv _ hi],m.trans (D.mod.trans m6)⟩
       | true=>exact ite_false rfl ⟨⟨by omega,by omega⟩,aM _ ⟨by rw [hs,dV,hv]; rfl,m.trans (D.mod.trans m6)⟩⟩
     ·rintro again w3 ⟨dV,m⟩
      exact ite_false (decide_eq_false (by omega)) ⟨by rw [eK,dV],m⟩
end Go.Proofs.YtgjoehgomjgckaaGreatDoor
end
section
set_option linter.unusedVariables false
set_option linter.unusedSimpArgs false
namespace Go.Proofs.YtgjoehgomjgckaaGreatDoor
open Go Go.Ev
set_option maxRecDepth 20000
set_option linter.unusedVariables false
theorem Rz:fk Pr s8 cw 4 48:=fk.of (by kernel_rfl)
theorem bq.l7 (v:bq) (x:ah):∀ u∈v.cs x,ey u=true:=by
 intro u hu
 simp only [bq.cs,uQ,List.mem_cons,List.not_mem_nil,or_false] at hu
 rcases hu with rfl | rfl | rfl | rfl <;> rfl
theorem UA (x:ah) (vs:List bq) (xs:List ah) (jR:xs.length=vs.length) (hl:vs.length≤1000000) (w:World) (hx:Sl w x 4 (bh bq.cs vs xs)):Ok Pr Gz [.slice x.a x.n x.c] w fun v w'=>∃ y:ah,v=.slice y.a y.n y.c∧Own w' w.heap.size cw 4 y (bh bq.cs vs xs)∧y.n=x.n∧Mod [] w w':=by
 refine abW ?_
 unfold Kx
 have bU:=hx.len
 rw [iQ bq.cz vs xs jR] at bU
 refine bV (fun h=>?_) (fun h=>?_)
 ·have h0:x.n=0:=by
   rcases Nat.eq_zero_or_pos x.n with e | e
   ·exact e
   ·have:=Sl.pre hx e
    cases ha:x.a with
    | none=>rw [ha] at this; cases this
    | some a=>rw [ha] at h; cases h
  obtain rfl:vs=[]:=List.eq_nil_of_length_eq_zero (by omega)
  exact ⟨⟨none,0,0⟩,rfl,Own.nil _ _ _ _,h0.symm,Mod.refl _ _⟩
 ·refine (ak.start w).nw fun p w1 H _=>?_
  have H:=H.rM 0 4 0 0 rfl rfl (Nat.le_refl _) (by simp only [maxLen]; omega)
  refine H.app (s:=⟨some ⟨p,0,none⟩,0,0⟩) (vs:=[]) 0 Rz rfl (hx.aG H.mod) (vh bq.l7 vs xs) (by show (0+x.n) * 48≤_; omega) (by show 0+x.n≤_; omega) fun y w2 H hy=>?_
  exact ⟨y,rfl,H.fS 0 rfl,by rw [hy]; exact Nat.zero_add _,H.mod⟩
theorem pM:zc Pr aV=[.int .i64 0,.int .i64 0,.int .i64 0,.slice none 0 0]:=by kernel_rfl
theorem xy:zc Pr cw=[.int .i64 0,.int .i64 0,.int .i64 0,.slice none 0 0]:=by kernel_rfl
theorem Rn (a:bq) (x z:ah):a.cs z=(a.cs x).set 3 z.v:=rfl
theorem nN.Th {w w':World} {v:Value} {l:List B8} (h:nN w w' v l):∃ y:ah,v=.slice y.a y.n y.c∧fK w w' fun w=>Own w 0 aX 1 y (bp l):=by
 obtain ⟨y,rfl,hy,m⟩:=h
 exact ⟨y,rfl,fK.EI hy m fun w2 h=>h⟩
theorem HE (k:aP) (x:ah) (hl:k.aH.length≤1000) (hs:∀ v∈k.aH,v.aq.length≤1000000) (w:World) (hx:gh w x k.aH):Ok Pr Bs [.agg ⟨k.cs x⟩] w fun r w'=>∃ y:ah,r=.agg ⟨k.cs y⟩∧JD w w' y k.aH:=by
 refine agw ?_
 unfold Qv
 rw [pM]
 have bU:=hx.len
 obtain ⟨xs,dU,cD⟩:=hx
 refine (ak.start w).nw fun p w1 H _=>H.nw fun p1 w2 H _=>?_
 have H:ak w [] w2 [.av p (dH k.id k.ten k.set x) aV,.av p1 [.int .i64 0,.int .i64 0,.int .i64 0,.slice none 0 0] aV]:=H
 refine H.ax 0 rfl (au p 3) rfl (aB (UA x k.aH xs cD.1 (by omega) _ (dU.aG H.mod)) ?_)
 rintro _ w3 ⟨y,rfl,hy,ym,m3⟩
 have H:=H.cG m3 hy
 refine bW (H.st 0 rfl (au p 3) (by show 3<4; omega) rfl fun w4 H=>H.ax 0 rfl (au p 3) rfl ?_)
 have H:ak w [] w4 ([.av p (dH k.id k.ten k.set y) aV,.av p1 [.int .i64 0,.int .i64 0,.int .i64 0,.slice none 0 0] aV] ++ [.row cw 4 y (bh bq.cs k.aH xs)]):=H
 refine dm 0 k.aH.length (fun i w'=>gq bq.cs 4 iB cw w [] [.av p (dH k.id k.ten k.set y) aV,.av p1 [.int .i64 0,.int .i64 0,.int .i64 0,.slice none 0 0] aV] w' y k.aH xs i) rfl (by omega) (gq.start H) ?_ ?_
 ·intro again i w5 _ hi R aM
  have R:=R.frame (Mod.drew [] w5)
  have ha:k.aH[i]? = some k.aH[i]:=List.getElem?_eq_getElem hi
  have dA:xs[i]? = some (xs[i]'(by rw [cD.1]; exact hi)):=List.getElem?_eq_getElem _
  have gY:=hs _ (List.getElem_mem hi)
  have sS:=cD.2 i _ _ dA ha
  obtain ⟨dw,hc⟩:=R.at bq.cz (by omega) cD.1 ha dA
  generalize k.aH[i]=v at *
  generalize xs[i]'(by rw [cD.1]; exact hi)=z at *
  have F:=R.front
  refine ite_true (decide_eq_true (by omega)) (F.ax 0 rfl (au p 3) rfl (F.ax 0 rfl (au p 3) rfl ⟨dw,z,hc 3 z.v rfl,aB (Dr z v.aq gY _ (Bytes.aG sS F.mod)) ?_⟩))
  rintro _ w6 h6
  obtain ⟨u,rfl,hu⟩:=h6.Th
  refine bW ⟨F.jY 0 rfl hu.mod 3,dw,R.step bq.cz cD.1 ha dA (hu:fK _ _ fun w=>iB w u v) (by omega:3<4) (Rn v z u) fun w7 R=>⟨⟨by omega,by omega⟩,aM w7 R⟩⟩
 ·intro again w5 R
  obtain ⟨ys,fp,H⟩:=R.done rfl cD.1
  refine ite_false (decide_eq_false (by omega)) (H.bA 0 rfl (H.cF 1 rfl rfl fun w8 H=>H.bA 1 rfl ⟨y,rfl,ys,fp,H.drop 2⟩))
theorem Vu (n:Int) (x:ah) (aq:List B8) (hs:aq.length≤1000000) (w:World) (hx:Bytes w x aq):Ok Pr Hi [.int .i64 n,.slice x.a x.n x.c] w fun r w'=>∃ y:ah,r=.agg ⟨(bq.mk n 1 0 aq).cs y⟩∧fK w w' fun w=>Own w 0 aX 1 y (bp aq):=by
 refine aeP ?_
 unfold Oy
 rw [xy]
 refine (ak.start w).nw fun p w1 H _=>aB (Dr x aq hs _ (hx.aG H.mod)) ?_
 rintro _ w2 ⟨y,rfl,hy,m2⟩
 have H:=H.cG m2 hy
 refine bW (H.fz 0 rfl rfl fun w3 H=>H.gE 0 rfl ⟨y,rfl,?_⟩)
 exact H.boxed fun w' h=>h 1 _ rfl
def Al (id ten set:Int) (aq:List B8):aP:=⟨id,ten,set,[⟨1,1,0,aq⟩]⟩
def mF (id ten set:Int) (aq:List B8):Int:=if cL (Al id ten set aq)=true then 0 else 2
def qY (id ten set:Int) (aq:List B8):aP:=if mF id ten set aq=0 then Al id ten set aq else kz
def BW (w w':World) (v:Value) (k:aP) (c:Int):Prop:=∃ (y:ah) (er:Value),v=.tuple ⟨[.agg ⟨k.cs y⟩,er]⟩∧(fK w w' fun w=>jZ w y k.aH)∧cP w w' er c
theorem Ex {w w':World} {Q:World→Prop} (m:Mod [] w w') (h:∀ w,Q w):fK w w' Q:=((ak.start w).frame m).boxed fun w' _=>h w'
theorem gh.one {w:World} {p:Nat} {y:ah} {v:bq} {t:TypeId} (h:bX w p (v.cs y) t) (hy:jM w y v):gh w ⟨some ⟨p,0,none⟩,1,1⟩ [v]:=by
 refine ⟨[y],?_,rfl,fun i x l hx hl=>?_⟩
 ·have:=h.sl 4 1 1 (by rw [bq.cz]; decide) (by omega)
  rw [zB]
  simpa [bq.cs,uQ] using this
 ·cases i with
  | zero=>
   simp only [List.getElem?_cons_zero,Option.some.injEq] at hx hl
   subst hx hl; exact hy
  | succ i=>simp at hx
theorem jZ.nil (w:World):jZ w ⟨none,0,0⟩ []:=⟨[],Own.nil w 0 cw 4,rfl,fun i x l h=>by simp at h⟩
theorem jZ.one {w:World} {p:Nat} {y:ah} {v:bq} (h:bX w p (v.cs y) cw) (hy:iB w y v):jZ w ⟨some ⟨p,0,none⟩,1,1⟩ [v]:=by
 refine ⟨[y],?_,rfl,fun i x l hx hl=>?_⟩
 ·have:=h.own 4 1 1 (by rw [bq.cz]) (by omega) (by simp only [maxLen]; omega)
  rw [zB]
  exact this
 ·cases i with
  | zero=>
   simp only [List.getElem?_cons_zero,Option.some.injEq] at hx hl
   subst hx hl; exact hy
  | succ i=>simp at hx
theorem VY (id ten set:Int) (x:ah) (aq:List B8) (hs:aq.length≤1000000) (w:World) (hx:Bytes w x aq):Ok Pr HJ [.int .i64 id,.int .i64 ten,.int .i64 set,.slice x.a x.n x.c] w fun r w'=>BW w w' r (qY id ten set aq) (mF id ten set aq):=by
 refine agx ?_
 unfold Qw
 rw [pM]
 have hC:mF id ten set aq=if cL (Al id ten set aq)=true then 0 else 2:=rfl
 have hR:qY id ten set aq=if mF id ten set aq=0 then Al id ten set aq else kz:=rfl
 generalize mF id ten set aq=C at *
 generalize qY id ten set aq=R at *
 refine (ak.start w).nw fun p w1 H _=>aB (Vu 1 x aq hs _ (hx.aG H.mod)) ?_
 rintro _ w2 ⟨y,rfl,hy⟩
 obtain ⟨fp,H⟩:=H.iy hy
 refine wK (H.nw fun p1 w3 H _=>H.nw fun p2 w4 H _=>H.cF 3 rfl rfl fun w5 H=>H.bA 3 rfl ?_)
 have H:ak w [] w5 [.av p [.int .i64 0,.int .i64 0,.int .i64 0,.slice none 0 0] aV,.box fp fun w=>Own w 0 aX 1 y (bp aq),.av p1 ((bq.mk 1 1 0 aq).cs y) cw,.av p2 (dH id ten set ⟨some ⟨p1,0,none⟩,1,1⟩) aV]:=H
 refine aB (wV (Al id ten set aq) ⟨some ⟨p1,0,none⟩,1,1⟩ (by show 1≤1000000; omega) _ (gh.one (H.av 2 rfl) (iB.r (v:=⟨1,1,0,aq⟩) (H.box 1 rfl)))) ?_
 rintro _ w6 ⟨rfl,m6⟩
 have H:=H.frame m6
 refine bz ?_
 cases hm:cL (Al id ten set aq) with
 | false=>
  rw [hm,if_neg (by decide)] at hC
  rw [hC,if_neg (by decide)] at hR
  subst hR
  rw [hC]
  refine ite_true rfl (aB (A5 2 (by decide) w6) ?_)
  rintro e w7 ⟨h,m7⟩
  have H:=H.gH m7 h
  refine H.cF 0 rfl rfl fun w8 H=>H.bA 0 rfl ⟨⟨none,0,0⟩,e,rfl,Ex H.mod fun w=>jZ.nil w,?_⟩
  exact ⟨H.ok 4 _ rfl,fun b hb=>(H.own 4 _ rfl b hb).resolve_left (by simp)⟩
 | true=>
  rw [hm,if_pos rfl] at hC
  rw [hC,if_pos rfl] at hR
  subst hR
  rw [hC]
  refine ite_false rfl (H.bA 3 rfl (H.cF 0 rfl rfl fun w8 H=>H.bA 0 rfl ⟨⟨some ⟨p1,0,none⟩,1,1⟩,.nilIface,rfl,?_,qN _ _⟩))
  refine H.boxed fun w' h=>jZ.one (h 2 _ rfl) ?_
  have h2:(aD.box fp fun w=>Own w 0 aX 1 y (bp aq)).ok w':=h 1 _ rfl
  exact h2.2 w' fun _ _=>rfl
end Go.Proofs.YtgjoehgomjgckaaGreatDoor
end
section
set_option linter.unusedVariables false
set_option linter.unusedSimpArgs false
namespace Go.Proofs.YtgjoehgomjgckaaGreatDoor
open Go Go.Ev
set_option maxRecDepth 20000
set_option linter.unusedVariables false
theorem ZA {vs:List bq}:∀ n,mz vs n=true→∀ i,i<n→gl (vs.getD i vz) ((i:Int)+1)=true
 | 0,_,i,hi=>by omega
 | n+1,h,i,hi=>by
  change (mz vs n && gl (vs.getD n vz) ((n:Int)+1))=true at h
  rw [Bool.and_eq_true] at h
  rcases Nat.lt_or_ge i n with h2 | h2
  ·exact ZA n h.1 i h2
  ·rw [show i=n by omega]; exact h.2
theorem IV {v:bq} {n:Int} (h:gl v n=true):v.n=n∧1≤v.st∧v.st≤4∧(v.st=4→v.aq.length=0)∧(v.st≠4→v.aq.length=64)∧(v.st≠3→v.due=0)∧(v.st=3→1≤v.due∧v.due≤1099511627776):=by
 unfold gl at h
 rw [Bool.and_eq_true,decide_eq_true_eq] at h
 obtain ⟨h1,h2⟩:=h
 refine ⟨h1,?_⟩
 split at h2
 ·rename_i h3
  unfold aS at h2
  simp only [Bool.and_eq_true,decide_eq_true_eq] at h2
  exact ⟨by omega,by omega,fun h=>by omega,fun _=>h2.2,fun h=>absurd h3 h,fun _=>h2.1⟩
 ·rename_i h3
  split at h2
  ·rename_i h4
   simp only [Bool.and_eq_true,decide_eq_true_eq] at h2
   exact ⟨by omega,by omega,fun _=>h2.2,fun h=>absurd h4 h,fun _=>h2.1,fun h=>absurd h h3⟩
  ·rename_i h4
   split at h2
   ·rename_i h5
    simp only [Bool.and_eq_true,decide_eq_true_eq] at h2
    exact ⟨by omega,by omega,fun h=>absurd h h4,fun _=>h2.2,fun _=>h2.1,fun h=>absurd h h3⟩
   ·cases h2
theorem vm {k:aP} (h:cL k=true):(1≤k.id∧k.id≤6)∧(1≤k.ten∧k.ten≤8)∧(1≤k.set∧k.set≤3)∧(1≤k.aH.length∧k.aH.length≤5)∧∀ i,i<k.aH.length→gl (k.aH.getD i vz) ((i:Int)+1)=true:=by
 unfold cL aS at h
 simp only [Bool.and_eq_true,decide_eq_true_eq] at h
 obtain ⟨h1,h2,h3,h4,h5⟩:=h
 exact ⟨h1,h2,h3,⟨by omega,by omega⟩,ZA _ h5⟩
theorem aj8 {k:aP} (h:cL k=true):isSet k.set=true:=by
 obtain ⟨_,_,h3,_⟩:=vm h
 unfold isSet
 have:k.set=1∨k.set=2∨k.set=3:=by omega
 rcases this with e | e | e <;> rw [e] <;> rfl
theorem HU {k:aP} (h:cL k=true):k.aH.length≤1000∧∀ v∈k.aH,v.aq.length≤64:=by
 obtain ⟨_,_,_,h4,h5⟩:=vm h
 refine ⟨by omega,fun v hv=>?_⟩
 obtain ⟨i,hi,rfl⟩:=List.getElem_of_mem hv
 have:=h5 i hi
 rw [List.getD_eq_getElem?_getD,List.getElem?_eq_getElem hi] at this
 change gl k.aH[i] _=true at this
 obtain ⟨_,_,_,h6,h7,_⟩:=IV this
 by_cases h:(k.aH[i]).st=4
 ·have:=h6 h; omega
 ·have:=h7 h; omega
def iS (k:aP) (n:Int):Option bq:=if (cL k && aS 1 (k.aH.length:Int) n)=true then some (k.aH.getD (n - 1).toNat vz) else none
def ZB (w w':World) (v:Value) (o:Option bq):Prop:=∃ y:ah,v=.tuple ⟨[.agg ⟨(o.getD vz).cs y⟩,.bool o.isSome]⟩∧fK w w' fun w=>jM w y (o.getD vz)
theorem YH (w:World):jM w ⟨none,0,0⟩ vz:=Sl.nil w 1
theorem Qz {k:aP} {n:Int} {v:bq} (h:iS k n=some v):cL k=true∧1≤n∧n≤k.aH.length∧v=k.aH.getD (n - 1).toNat vz∧gl v n=true:=by
 unfold iS at h
 split at h
 ·rename_i hc
  rw [Bool.and_eq_true] at hc
  obtain ⟨h1,h2⟩:=hc
  unfold aS at h2
  simp only [Bool.and_eq_true,decide_eq_true_eq] at h2
  have e:v=k.aH.getD (n - 1).toNat vz:=(Option.some.inj h).symm
  refine ⟨h1,h2.1,h2.2,e,?_⟩
  obtain ⟨_,_,_,_,h5⟩:=vm h1
  have:=h5 (n - 1).toNat (by omega)
  rw [← e,show (((n - 1).toNat:Nat):Int)+1=n by omega] at this
  exact this
 ·cases h
theorem DP (k:aP) (x:ah) (n:Int) (hl:k.aH.length≤1000000) (w:World) (hx:gh w x k.aH):Ok Pr yN [.agg ⟨k.cs x⟩,.int .i64 n] w fun r w'=>ZB w w' r (iS k n):=by
 refine afy ?_
 unfold Pv
 rw [xy]
 have bU:=hx.len
 refine (ak.start w).nw fun p w1 H _=>H.nw fun p1 w2 H _=>?_
 have H:ak w [] w2 [.av p (dH k.id k.ten k.set x) aV,.av p1 [.int .i64 0,.int .i64 0,.int .i64 0,.slice none 0 0] cw]:=H
 refine jJ fun go bY=>jK fun j6 jl=>H.bA 0 rfl (aB (wV k x hl _ (hx.aG H.mod)) ?_)
 rintro _ w3 ⟨rfl,m3⟩
 have H:=H.frame m3
 have no:∀ w4,ak w [] w4 [.av p (dH k.id k.ten k.set x) aV,.av p1 [.int .i64 0,.int .i64 0,.int .i64 0,.slice none 0 0] cw]→iS k n=none→j6 true w4:=fun w4 H e=>by
  refine jl _ _ (ite_true rfl (H.fz 1 rfl rfl fun w5 H=>H.gE 1 rfl ?_))
  rw [e]
  exact ⟨⟨none,0,0⟩,rfl,Ex H.mod fun w=>YH w⟩
 refine bz (H.ax 0 rfl (au p 3) rfl ?_)
 cases hm:cL k with
 | false=>exact ite_true rfl (no _ H (by unfold iS; rw [hm]; rfl))
 | true=>
  refine ite_false rfl (aB (yZ _ _ _ _) ?_)
  rintro _ w4 ⟨rfl,hw⟩
  subst hw
  rw [show ((x.n:Nat):Int)=(k.aH.length:Int) by omega]
  refine bz ?_
  cases hi:aS 1 (k.aH.length:Int) n with
  | false=>exact no _ H (by unfold iS; rw [hm,hi]; rfl)
  | true=>
   have e:iS k n=some (k.aH.getD (n - 1).toNat vz):=by unfold iS; rw [hm,hi]; rfl
   unfold aS at hi
   simp only [Bool.and_eq_true,decide_eq_true_eq] at hi
   obtain ⟨h1,h2⟩:=HU hm
   refine jl _ _ (ite_false rfl (bY _ (H.bA 0 rfl (aB (HE k x (by omega) (fun v hv=>Nat.le_trans (h2 v hv) (by omega)) _ (hx.aG H.mod)) ?_))))
   rintro _ w5 ⟨y,rfl,hy⟩
   have hb:=hy.box
   refine oA ⟨⟨by omega,by omega⟩,?_⟩
   obtain ⟨j,hj⟩:∃ j:Nat,n - 1=(j:Int):=⟨(n - 1).toNat,by omega⟩
   rw [e]
   rw [hj] at e ⊢
   rw [Int.toNat_natCast] at e ⊢
   have ha:k.aH[j]? = some (k.aH.getD j vz):=by rw [List.getD_eq_getElem?_getD,List.getElem?_eq_getElem (by omega)]; rfl
   obtain ⟨ys,fp,D⟩:=hy
   have hv:gh w5 y k.aH:=hb.now.aH
   obtain ⟨dw,z,hz,hc⟩:=Dv.at bq.cz (by omega) hv ha
   generalize k.aH.getD j vz=v at *
   have jU:=hb.now.aH.len
   have C4:∃ u,ys[j]? = some u:=by
    have hE:bn iB w5 ys k.aH:=D.box 1 rfl
    exact ⟨_,List.getElem?_eq_getElem (by rw [hE.1]; omega)⟩
   obtain ⟨u,hu⟩:=C4
   have hcu:∀ (q:Nat) (t:Value),(v.cs u)[q]? = some t→w5.cell? (Addr.add (Addr.add (base y.a) (j * 4)) q)=some t:=fun q t ht=>(D.fJ 0 rfl).vw bq.cz ha hu ht
   have H:=H.join D
   refine ⟨dw,?_⟩
   refine uO hcu (H.fz 1 rfl rfl fun w6 H=>H.gE 1 rfl ⟨u,rfl,?_⟩)
   refine H.boxed fun w' h=>?_
   have h2:(aD.box fp fun w=>bn iB w ys k.aH).ok w':=h 3 _ rfl
   exact ((h2.2 w' fun _ _=>rfl).2 j u v hu ha).r
def kO (op st:Int):Option Int:=if op=5 then (if st=2 then some 1 else none) else if op=7 then (if st=1∨st=2 then some 3 else none) else if op=6 then (if st=1 then some 2 else none) else if op=8 then (if st=3 then some 2 else none) else none
theorem ag6 (op st:Int) (w:World):Ok Pr OQ [.int .i64 op,.int .i64 st] w fun v w'=>∃ z:Int,v=.tuple ⟨[.int .i64 z,.bool (kO op st).isSome]⟩∧(∀ s,kO op st=some s→z=s)∧w'=w:=by
 refine afC ?_
 unfold Pz
 refine jK fun go bY=>?_
 unfold kO
 refine bV (fun hc=>?_) (fun hc=>?_)
 ·have hc:=of_decide_eq_true hc
  rw [if_pos hc]
  by_cases h:st=2
  ·rw [if_pos h,decide_eq_true h]; exact ⟨1,rfl,fun s h=>Option.some.inj h,rfl⟩
  ·rw [if_neg h,decide_eq_false h]; exact ⟨1,rfl,fun s h=>(by cases h),rfl⟩
 ·have hc:=of_decide_eq_false hc
  rw [if_neg hc]
  refine bV (fun hd=>?_) (fun hd=>?_)
  ·have hd:=of_decide_eq_true hd
   rw [if_pos hd]
   refine bV (fun h=>?_) (fun h=>?_)
   ·have h:st=1∨st=2:=by simpa using h
    rw [if_pos h]; exact ⟨3,rfl,fun s h=>Option.some.inj h,rfl⟩
   ·have h:¬ (st=1∨st=2):=by simpa using h
    rw [if_neg h]; exact ⟨0,rfl,fun s h=>(by cases h),rfl⟩
  ·have hd:=of_decide_eq_false hd
   rw [if_neg hd]
   refine bV (fun he=>?_) (fun he=>?_)
   ·have he:=of_decide_eq_true he
    rw [if_pos he]
    by_cases h:st=1
    ·have e:kO op st=some 2:=by unfold kO; rw [if_neg hc,if_neg hd,if_pos he,if_pos h]
     exact ite_false (by rw [decide_eq_true h]; rfl) (bY _ _ ⟨2,by rw [e]; rfl,fun s h=>by rw [e] at h; exact Option.some.inj h,rfl⟩)
    ·rw [if_neg h]
     exact ite_true (by rw [decide_eq_false h]; rfl) ⟨0,rfl,fun s h=>(by cases h),rfl⟩
   ·have he:=of_decide_eq_false he
    rw [if_neg he]
    refine bV (fun hf=>?_) (fun hf=>?_)
    ·have hf:=of_decide_eq_true hf
     refine bY _ _ ?_
     by_cases h:st=3
     ·have e:kO op st=some 2:=by unfold kO; rw [if_neg hc,if_neg hd,if_neg he,if_pos hf,if_pos h]
      rw [e,decide_eq_true h]; exact ⟨2,rfl,fun s h=>Option.some.inj h,rfl⟩
     ·have e:kO op st=none:=by unfold kO; rw [if_neg hc,if_neg hd,if_neg he,if_pos hf,if_neg h]
      rw [e,decide_eq_false h]; exact ⟨2,rfl,fun s h=>(by cases h),rfl⟩
    ·have hf:=of_decide_eq_false hf
     rw [if_neg hf]; exact ⟨0,rfl,fun s h=>(by cases h),rfl⟩
end Go.Proofs.YtgjoehgomjgckaaGreatDoor
end
