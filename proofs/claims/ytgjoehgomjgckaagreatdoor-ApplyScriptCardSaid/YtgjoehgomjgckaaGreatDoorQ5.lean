/- Texts of this claim, packed and shortened. -/
import Derived.Laws.StructEq
import Derived.Test.YtgjoehgomjgckaaGreatDoorQ4
import Derived.Test.YtgjoehgomjgckaaGreatDoorQ3
import Derived.Test.YtgjoehgomjgckaaGreatDoorQ2
import Derived.Test.YtgjoehgomjgckaaGreatDoorQ1
section
set_option linter.unusedVariables false
set_option linter.unusedSimpArgs false
namespace Go.Proofs.YtgjoehgomjgckaaGreatDoor
open Go Go.Ev Go.RowKit
set_option maxRecDepth 20000
set_option linter.unusedVariables false
theorem agD:((Pr.fieldsOf cc).toList.map λf=>(f.type,f.offset,decide (f.name= "_")))=[(aU,0,false),(aU,1,false),(aU,2,false),(aU,3,false),(aU,4,false),(p8,5,false)]:=by kernel_rfl
theorem ajz:Pr.underlying cc=some (.struct (Pr.fieldsOf cc)):=by kernel_rfl
theorem aiJ:Pr.stoodInHeld cc=false:=by kernel_rfl
theorem ahF:Pr.eqGuardType Pr.depth cc=false:=by kernel_rfl
theorem Uy:Pr.underlying aU=some (.int .i64):=by kernel_rfl
theorem ahG:Pr.underlying p8=some .bool:=by kernel_rfl
theorem JZ{P:Program}(d:Nat)(xs ys:Array Value)(w:World):∀(fs:List Field),(∀f∈fs,∃v,f.name≠ "_"/\(part f.type xs f.offset).run P w=.ok v w/\(part f.type ys f.offset).run P w=.ok v w/\(Op.equalIn d f.type v v).run P w=.ok true w)->(Op.eqFields d xs ys fs).run P w=.ok true w
 |[],_=>rfl
 |f::fs,h=>by
  obtain⟨v,hn,h1,h2,h3⟩:=h f List.mem_cons_self
  have ih:=JZ d xs ys w fs λg hg=>h g (List.mem_cons_of_mem _ hg)
  unfold Op.eqFields
  rw[if_pos hn]
  simp only[Sem.run_bind,h1,h2,h3,Result.andThen]
  exact ih
theorem ahH(g:bu)(w:World):(Op.equalIn 10000 cc (.agg ⟨g.cells⟩) (.agg ⟨g.cells⟩)).run Pr w=.ok true w:=by
 rw[show 10000=9999+1 from rfl,run_equalIn_struct w 9999 cc _ _ ajz aiJ]
 refine JZ _ _ _ _ _ λf hf=>?_
 have hm:(f.type,f.offset,decide (f.name= "_"))∈((Pr.fieldsOf cc).toList.map λf=>(f.type,f.offset,decide (f.name= "_"))):=List.mem_map_of_mem hf
 rw[agD]at hm
 have hI:∀z:Int,(Op.equalIn 9999 aU (.int .i64 z) (.int .i64 z)).run Pr w=.ok true w:=λz=>by
  rw[show 9999=9998+1 from rfl,run_equalIn_int w 9998 aU .i64 .i64 z z Uy]
  simp
 have hB:∀z:Bool,(Op.equalIn 9999 p8 (.bool z) (.bool z)).run Pr w=.ok true w:=λz=>by
  rw[show 9999=9998+1 from rfl,run_equalIn_bool' w 9998 p8 z z ahG]
  simp
 obtain⟨n0,n1,n2,n3,n4,rv⟩:=g
 have q0:(part aU ⟨sD n0 n1 n2 n3 n4 rv⟩ 0).run Pr w=.ok (.int .i64 n0) w:=by kernel_rfl
 have q1:(part aU ⟨sD n0 n1 n2 n3 n4 rv⟩ 1).run Pr w=.ok (.int .i64 n1) w:=by kernel_rfl
 have q2:(part aU ⟨sD n0 n1 n2 n3 n4 rv⟩ 2).run Pr w=.ok (.int .i64 n2) w:=by kernel_rfl
 have q3:(part aU ⟨sD n0 n1 n2 n3 n4 rv⟩ 3).run Pr w=.ok (.int .i64 n3) w:=by kernel_rfl
 have q4:(part aU ⟨sD n0 n1 n2 n3 n4 rv⟩ 4).run Pr w=.ok (.int .i64 n4) w:=by kernel_rfl
 have q5:(part p8 ⟨sD n0 n1 n2 n3 n4 rv⟩ 5).run Pr w=.ok (.bool rv) w:=by kernel_rfl
 simp only[List.mem_cons,List.not_mem_nil,or_false,Prod.mk.injEq,decide_eq_false_iff_not]at hm
 rcases hm with ⟨h1,h2,h3⟩|⟨h1,h2,h3⟩|⟨h1,h2,h3⟩|⟨h1,h2,h3⟩|⟨h1,h2,h3⟩|⟨h1,h2,h3⟩
 ·rw[h1,h2];exact⟨_,h3,q0,q0,hI _⟩
 ·rw[h1,h2];exact⟨_,h3,q1,q1,hI _⟩
 ·rw[h1,h2];exact⟨_,h3,q2,q2,hI _⟩
 ·rw[h1,h2];exact⟨_,h3,q3,q3,hI _⟩
 ·rw[h1,h2];exact⟨_,h3,q4,q4,hI _⟩
 ·rw[h1,h2];exact⟨_,h3,q5,q5,hB _⟩
theorem ajA{g:bu}{w:World}{K:Bool->World->Prop}(h:K false w):IW Pr .neq cc g.cells g.cells w K:=by
 refine⟨.bool false,w,?_,false,rfl,h⟩
 simp only[Sem.run_bind,run_eqGuard_agg w _ _ _ _ _ _ ahF,Result.andThen,run_neq_struct,ahH]
 rfl
theorem Yd(x y:ag)(l:List bu)(w:World)(hx:fN w x l)(hy:fN w y l)(hl:l.length<=1000000):Ok Pr YJ [.slice x.a x.n x.c,.slice y.a y.n y.c] w λv w'=>v=.bool true/\Mod [] w w':=by
 refine aC Tryz.func31 (L:=[(4,[(5,.int .i64)])]) ?_
 have aT:=hx.len
 have gb:=hy.len
 refine ite_false (by rw[<- aT,<- gb];simp) ?_
 refine bG 0 l.length (λi w'=>Mod [] w w') rfl (by omega) (Mod.refl _ _) ?_ ?_
 ·intro again i w1 _ hi m aB
  have m':=m.trans (Mod.drew [] w1)
  refine ite_true (decide_eq_true (by omega)) ((hx.av m').ld hi rfl ((hy.av m').ld hi rfl (ajA (ite_false rfl ⟨⟨by omega,by omega⟩,aB _ m'⟩))))
 ·intro again w1 m
  exact ite_false (decide_eq_false (by omega)) ⟨rfl,m⟩
theorem YT(g:bu)(p q:Addr)(x y:ag)(s t:List B8)(hs:s.length<=1000)(w:World)(hp:w.cell? p=some x.v)(hq:w.cell? q=some y.v)(hx:Bytes w x s)(hy:Bytes w y t):
  Ok Pr Bp [.agg ⟨g.cells⟩,.pointer (some p),.pointer (some q)] w λv w'=>v=.bool (decide (tok s g=t))/\Mod [] w w':=by
 refine aC Tryz.func152 ?_
 refine(ah.start w).nw λb w1 H _=>?_
 have H:=H.drew
 refine⟨x,H.mod.qa hp,H.lU 0 rfl ⟨y,H.mod.qa hq,?_⟩⟩
 have WX:=H.mod.qa hq
 refine an (Pw x s g hs _ (hx.av H.mod)) ?_
 rintro _ w2 ⟨z,rfl,hz,m2⟩
 have H:=H.bg m2 hz
 refine aS ⟨Mz WX (H.mod.qa hq),an (JR z y _ _ _ hz.bytes (hy.av H.mod)) ?_⟩
 rintro _ w3 ⟨rfl,hw⟩
 subst hw
 exact aN ⟨rfl,H.mod⟩
theorem aew:jB Pr Bp=true:=by kernel_rfl
def akq(l:List bu)(s t:List B8)(n:Int):Prop:=(n = -1/\∀j,j<l.length->tok s (l.getD j gz)≠t)\/∃i:Nat,n=(i:Int)/\i<l.length/\tok s (l.getD i gz)=t/\∀j,j<i->tok s (l.getD j gz)≠t
theorem ZP(l:List bu)(xl:ag)(p q:Addr)(x y:ag)(s t:List B8)(hs:s.length<=1000)(hl:l.length<=100000)(w:World)(hg:fN w xl l)(hp:w.cell? p=some x.v)(hq:w.cell? q=some y.v)(hx:Bytes w x s)(hy:Bytes w y t):
  Ok Pr OO [.slice xl.a xl.n xl.c,.func (.func Bp) ⟨[]⟩ ⟨[.pointer (some p),.pointer (some q)]⟩] w λv w'=>∃n:Int,v=.int .i64 n/\akq l s t n/\Mod [] w w':=by
 refine aC Tryz.func129 (L:=[(2,[(8,.int .i64)])]) ?_
 have aT:=hg.len
 refine bG 0 l.length (λi w'=>Mod [] w w'/\∀j,j<i->tok s (l.getD j gz)≠t) rfl (by omega) ⟨Mod.refl _ _,λj h=>by omega⟩ ?_ ?_
 ·rintro again i w1 _ hi ⟨m,cr⟩ aB
  refine ite_true (decide_eq_true (by omega)) ((hg.av m).ld hi rfl ?_)
  have akr:∀ {K:Value->World->Prop},ek Pr Bp [.agg ⟨(l.getD i gz).cells⟩,.pointer (some p),.pointer (some q)] w1 K->qH Pr (.func (.func Bp) ⟨[]⟩ ⟨[.pointer (some p),.pointer (some q)]⟩) [.agg ⟨(l.getD i gz).cells⟩] w1 K:=by
   intro K h
   show cond (jB Pr Bp) _ False
   rw[aew]
   exact h
  refine akr ?_
  refine an (YT (l.getD i gz) p q x y s t hs _ (m.qa hp) (m.qa hq) (hx.av m) (hy.av m)) ?_
  rintro _ w2 ⟨rfl,m2⟩
  refine aN (aZ (λh=>?_) (λh=>?_))
  ·exact⟨_,rfl,.inr ⟨i,rfl,hi,of_decide_eq_true h,cr⟩,m.trans m2⟩
  ·have h:=of_decide_eq_false h
   refine⟨⟨by omega,by omega⟩,aB w2 ⟨m.trans m2,λj hj=>?_⟩⟩
   rcases Nat.lt_or_ge j i with h1|h1
   ·exact cr j h1
   ·have:j=i:=by omega
    rw[this];exact h
 ·rintro again w1 ⟨m,cr⟩
  exact ite_false (decide_eq_false (by omega)) ⟨_,rfl,.inl ⟨rfl,cr⟩,m⟩
def Told(l:List bu)(s t:List B8)(g:bu)(c:Int):Prop:=
 (fy l=false/\g=gz/\c=2)\/(fy l=true/\(∀j,j<l.length->tok s (l.getD j gz)≠t)/\g=gz/\c=15)\/(fy l=true/\(∃i,i<l.length/\tok s (l.getD i gz)=t/\(∀j,j<i->tok s (l.getD j gz)≠t)/\g=l.getD i gz)/\c=0)
theorem Told.unique{l:List bu}{s t:List B8}{g g':bu}{c c':Int}(h:Told l s t g c)(h':Told l s t g' c'):g=g'/\c=c':=by
 rcases h with ⟨h1,rfl,rfl⟩|⟨h1,h2,rfl,rfl⟩|⟨h1,⟨i,h2,h3,h4,rfl⟩,rfl⟩<;>rcases h' with ⟨k1,rfl,rfl⟩|⟨k1,k2,rfl,rfl⟩|⟨k1,⟨j,k2,k3,k4,rfl⟩,rfl⟩
 ·exact⟨rfl,rfl⟩
 ·rw[h1]at k1;cases k1
 ·rw[h1]at k1;cases k1
 ·rw[h1]at k1;cases k1
 ·exact⟨rfl,rfl⟩
 ·exact absurd k3 (h2 j k2)
 ·rw[h1]at k1;cases k1
 ·exact absurd h3 (k2 i h2)
 ·have:i=j:=by
   rcases Nat.lt_trichotomy i j with h|h|h
   ·exact absurd h3 (k4 i h)
   ·exact h
   ·exact absurd k3 (h4 j h)
  subst this
  exact⟨rfl,rfl⟩
theorem ID:zc Pr cc=gz.cells:=by kernel_rfl
theorem Px(l:List bu)(xl x y:ag)(s t:List B8)(hs:s.length<=1000)(hl:l.length<=100000)(w:World)(hg:fN w xl l)(hx:Bytes w x s)(hy:Bytes w y t):
  Ok Pr Z4 [.slice xl.a xl.n xl.c,.slice x.a x.n x.c,.slice y.a y.n y.c] w λv w'=>∃g c er,v=.tuple ⟨[.agg ⟨g.cells⟩,er]⟩/\Told l s t g c/\cA w w' er c/\Mod [] w w':=by
 refine aC Tryz.func109 ?_
 rw[ID]
 have aT:=hg.len
 refine(ah.start w).nw λp w1 H _=>H.nw λp1 w2 H _=>H.nw λp2 w3 H _=>an (Gf xl l (by omega) _ (hg.av H.mod)) ?_
 rintro _ w4 ⟨rfl,m4⟩
 have H:=H.frame m4
 refine aN ?_
 have no:∀(c:Int) (w':World),Mod [] w4 w'->c≠0->Told l s t gz c->ek Pr JP [.int .i64 c] w' λv w5=>pP ⟨p2,0,none⟩ 0 0 0 0 0 false w5 λw6=>lU ⟨p2,0,none⟩ w6 λr0 r1 r2 r3 r4 r5=>
   ∃g c er,Value.tuple ⟨[.agg ⟨[.int .i64 r0,.int .i64 r1,.int .i64 r2,.int .i64 r3,.int .i64 r4,.bool r5]⟩,v]⟩=.tuple ⟨[.agg ⟨g.cells⟩,er]⟩/\Told l s t g c/\cA w w6 er c/\Mod [] w w6:=by
  intro c w' m hc ht
  have H:=H.frame m
  refine an (Dn c hc _) ?_
  rintro e w5 ⟨h5,m5⟩
  have H:=H.gW m5 h5
  exact H.pP 2 rfl rfl λw6 H=>H.lU 2 rfl ⟨gz,c,e,rfl,ht,⟨H.err 3 rfl,λb hb=>(H.own 3 _ rfl b hb).resolve_left (by simp)⟩,H.mod⟩
 cases hm:fy l with
 |false=>exact ite_true rfl (no 2 w4 (Mod.refl _ _) (by decide) (.inl ⟨hm,rfl,rfl⟩))
 |true=>
  refine ite_false rfl (an (ZP l xl ⟨p,0,none⟩ ⟨p1,0,none⟩ x y s t hs hl _ (hg.av H.mod) (H.cell 0 rfl rfl rfl) (H.cell 1 rfl rfl rfl) (hx.av H.mod) (hy.av H.mod)) ?_)
  rintro _ w5 ⟨n,rfl,hn,m5⟩
  refine bH ?_
  rcases hn with ⟨rfl,cr⟩|⟨i,rfl,hi,sj,cr⟩
  ·exact ite_true rfl (no 15 w5 m5 (by decide) (.inr (.inl ⟨hm,cr,rfl,rfl⟩)))
  ·have H:=H.frame m5
   refine ite_false (decide_eq_false (by omega)) ((hg.av H.mod).ld hi rfl (H.pP 2 rfl rfl λw6 H=>H.lU 2 rfl ⟨l.getD i gz,0,.nilIface,rfl,.inr (.inr ⟨hm,⟨i,hi,sj,cr,rfl⟩,rfl⟩),cA.zero _ _,H.mod⟩))
theorem aax(l:List bu)(xl x y:ag)(s t:List B8)(hf:∀h∈l,h.fit)(hs:s.length<=1000)(hl:l.length<=100000)(w:World)(hg:fN w xl l)(hx:Bytes w x s)(hy:Bytes w y t):
  Ok Pr aaT [.slice xl.a xl.n xl.c,.slice x.a x.n x.c,.slice y.a y.n y.c] w λv w'=>∃g c,v=.tuple ⟨[.agg ⟨g.cells⟩,.int .i64 c]⟩/\Told l s t g c/\Mod [] w w':=by
 refine aC Tryz.func91 (J:=[(7,[(28,.bool)])]) (L:=[(4,[(8,.int .i64)])]) ?_
 rw[ID]
 have aT:=hg.len
 refine(ah.start w).nw λp w1 H _=>an (Gn xl l hf (by omega) _ (hg.av H.mod)) ?_
 rintro _ w2 ⟨rfl,m2⟩
 have H:=H.frame m2
 refine aN ?_
 cases hm:fy l with
 |false=>exact ite_true rfl (H.pP 0 rfl rfl λw3 H=>H.lU 0 rfl ⟨gz,2,rfl,.inl ⟨hm,rfl,rfl⟩,H.mod⟩)
 |true=>
  refine ite_false rfl ?_
  refine bG 0 l.length (λi w'=>ah w [] w' [.aj p gz.cells cc]/\∀j,j<i->tok s (l.getD j gz)≠t) rfl (by omega) ⟨H,λj h=>by omega⟩ ?_ ?_
  ·rintro again i w3 _ hi ⟨H,cr⟩ aB
   refine ite_true (decide_eq_true (by omega)) (fo λgo aV=>?_)
   have rest:∀(w':World) (L:List aA),ah w [] w' L->L[0]? = some (.aj p gz.cells cc)->go (decide (tok s (l.getD i gz)=t)) w':=by
    intro w' L H h0
    have H:=H.only 0 h0
    refine aV _ w' (aZ (λh=>?_) (λh=>?_))
    ·exact(hg.av H.mod).ld hi rfl (H.pP 0 rfl rfl λw6 H=>H.lU 0 rfl ⟨l.getD i gz,0,rfl,.inr (.inr ⟨hm,⟨i,hi,of_decide_eq_true h,cr,rfl⟩,rfl⟩),H.mod⟩)
    ·have h:=of_decide_eq_false h
     refine⟨⟨by omega,by omega⟩,aB w' ⟨H,λj hj=>?_⟩⟩
     rcases Nat.lt_or_ge j i with h1|h1
     ·exact cr j h1
     ·have:j=i:=by omega
      rw[this];exact h
   have eb:decide (strOf (tok s (l.getD i gz))=strOf t)=decide (tok s (l.getD i gz)=t):=decide_eq_decide.2 BM
   have H:=H.drew
   have tk:∀ {w':World} {L:List aA} {K:ag->World->Prop},ah w [] w' L->(∀z bS,ah w [] bS (L++[.row aE 1 z (aG (tok s (l.getD i gz)))])->K z bS)->ek Pr Qa [.slice x.a x.n x.c,.agg ⟨(l.getD i gz).cells⟩] w' λv bS=>iU v λt=>K t bS:=by
    intro w' L K H hK
    refine an (PV x s (l.getD i gz) hs _ (hx.av H.mod)) ?_
    rintro _ bS ⟨z,rfl,hz,m⟩
    exact aS (hK z bS (H.bg m hz))
   have kk:∀ {w' bS:World} {L L':List aA},ah w [] w' L->ah w [] bS L'->kept (Addr.add (base xl.a) (Int.toNat ((i:Nat):Int)*6)) 6 w' bS:=λH H'=>hg.kept H.mod H'.mod hi rfl
   refine(hg.av H.mod).ld hi rfl ⟨?_,?_⟩
   ·refine tk H λz w4 H4=>⟨?_,?_⟩
    ·refine nt (H4.bytes 1 rfl) (nt (hy.av H4.mod) ⟨kk H4 H4,?_⟩)
     rw[eb]
     exact rest w4 _ H4 rfl
    ·refine nt (hy.av H4.mod) ⟨kk H4 H4,nt (H4.bytes 1 rfl) ?_⟩
     rw[eb]
     exact rest w4 _ H4 rfl
   ·refine nt (hy.av H.mod) ⟨kk H H,tk H λz w4 H4=>nt (H4.bytes 1 rfl) ?_⟩
    rw[eb]
    exact rest w4 _ H4 rfl
  ·rintro again w3 ⟨H,cr⟩
   exact ite_false (decide_eq_false (by omega)) (H.pP 0 rfl rfl λw4 H=>H.lU 0 rfl ⟨gz,15,rfl,.inr (.inl ⟨hm,cr,rfl,rfl⟩),H.mod⟩)
def qG(g:bu)(key bI op clock:Int):Int:=if g.rev=true\/g.n1≠key\/g.n2≠bI\/op<1\/13<op\/nF .i64 (shr .i64 g.n3 op) 1=0\/g.n4<clock then 10 else 0
theorem Zd(g:bu)(key bI op clock:Int)(w:World):Ok Pr Zn [.agg ⟨g.cells⟩,.int .i64 key,.int .i64 bI,.int .i64 op,.int .i64 clock] w λv w'=>cA w w' v (qG g key bI op clock)/\Mod [] w w':=by
 refine aC Tryz.func110 (J:=[(2,[(43,.bool)])]) ?_
 refine(ah.start w).nw λp w1 H _=>fo λgo aV=>?_
 have yes:(g.rev=true\/g.n1≠key\/g.n2≠bI\/op<1\/13<op\/nF .i64 (shr .i64 g.n3 op) 1=0\/g.n4<clock)->go true w1:=by
  intro h
  have ec:qG g key bI op clock=10:=by unfold qG;rw[if_pos h]
  rw[ec]at aV
  refine aV true w1 (ite_true rfl (an (Dn 10 (by decide) _) ?_))
  rintro e w2 ⟨h2,m2⟩
  exact⟨h2.from H.mod.size,(H.frame m2).mod⟩
 refine H.mV 0 rfl (ai p 5) rfl (H.au 0 rfl (ai p 1) rfl (H.au 0 rfl (ai p 2) rfl (aZ (λh=>?_) (λh=>?_))))
 ·refine H.au 0 rfl (ai p 3) rfl (H.au 0 rfl (ai p 4) rfl (yes ?_))
  simp only[Bool.or_eq_true,Bool.not_eq_true',decide_eq_false_iff_not]at h
  rcases h with (h|h)|h
  ·exact .inl h
  ·exact .inr (.inl h)
  ·exact .inr (.inr (.inl h))
 ·simp only[Bool.or_eq_false_iff,Bool.not_eq_false',decide_eq_true_eq]at h
  refine an (Du _ _ _ _) ?_
  rintro _ w2 ⟨rfl,hw⟩
  subst hw
  refine aN (H.au 0 rfl (ai p 3) rfl ?_)
  by_cases Bb:1<=op/\op<=13
  ·have dw:aF 1 13 op=true:=by unfold aF;rw[decide_eq_true Bb.1,decide_eq_true Bb.2];rfl
   rw[dw]
   refine ite_false rfl (fG (by omega) (H.au 0 rfl (ai p 4) rfl ?_))
   cases hb:(decide (nF .i64 (shr .i64 g.n3 op) (1:Int)=(0:Int))||decide (g.n4<clock))with
   |true=>
    refine yes ?_
    simp only[Bool.or_eq_true,decide_eq_true_eq]at hb
    rcases hb with hb|hb
    ·exact .inr (.inr (.inr (.inr (.inr (.inl hb)))))
    ·exact .inr (.inr (.inr (.inr (.inr (.inr hb)))))
   |false=>
    simp only[Bool.or_eq_false_iff,decide_eq_false_iff_not]at hb
    have ec:qG g key bI op clock=0:=by
     unfold qG
     rw[if_neg]
     rintro (k|k|k|k|k|k|k)
     ·rw[h.1.1]at k;cases k
     ·exact k h.1.2
     ·exact k h.2
     ·omega
     ·omega
     ·exact hb.1 k
     ·exact hb.2 k
    rw[ec]at aV
    exact aV false _ (ite_false rfl ⟨cA.zero _ _,H.mod⟩)
  ·have dw:aF 1 13 op=false:=by
    unfold aF
    rw[Bool.and_eq_false_iff,decide_eq_false_iff_not,decide_eq_false_iff_not]
    omega
   rw[dw]
   refine ite_true rfl (H.au 0 rfl (ai p 4) rfl (yes ?_))
   by_cases h1:op<1
   ·exact .inr (.inr (.inr (.inl h1)))
   ·exact .inr (.inr (.inr (.inr (.inl (by omega)))))
theorem ZQ(g:bu)(key bI op clock:Int)(w:World):Ok Pr Z1 [.agg ⟨g.cells⟩,.int .i64 key,.int .i64 bI,.int .i64 op,.int .i64 clock] w λv w'=>v=.int .i64 (qG g key bI op clock)/\Mod [] w w':=by
 refine aC Tryz.func92 ?_
 refine(ah.start w).nw λp w1 H _=>?_
 refine H.mV 0 rfl (ai p 5) rfl (H.au 0 rfl (ai p 1) rfl (H.au 0 rfl (ai p 2) rfl (H.au 0 rfl (ai p 3) rfl (aZ (λh=>?_) (λh=>?_)))))
 ·refine H.au 0 rfl (ai p 4) rfl ⟨?_,H.mod⟩
  unfold qG
  rw[if_pos]
  simp only[Bool.or_eq_true,Bool.not_eq_true',decide_eq_false_iff_not,decide_eq_true_eq]at h
  rcases h with (((h|h)|h)|h)|h
  ·exact .inl h
  ·exact .inr (.inl h)
  ·exact .inr (.inr (.inl h))
  ·exact .inr (.inr (.inr (.inl h)))
  ·exact .inr (.inr (.inr (.inr (.inl h))))
 ·simp only[Bool.or_eq_false_iff,Bool.not_eq_false',decide_eq_true_eq,decide_eq_false_iff_not]at h
  refine fG (by omega) (H.au 0 rfl (ai p 4) rfl (aZ (λhb=>?_) (λhb=>?_)))
  ·refine⟨?_,H.mod⟩
   unfold qG
   rw[if_pos]
   simp only[Bool.or_eq_true,decide_eq_true_eq]at hb
   rcases hb with hb|hb
   ·exact .inr (.inr (.inr (.inr (.inr (.inl hb)))))
   ·exact .inr (.inr (.inr (.inr (.inr (.inr hb)))))
  ·refine⟨?_,H.mod⟩
   simp only[Bool.or_eq_false_iff,decide_eq_false_iff_not]at hb
   unfold qG
   rw[if_neg]
   rintro (k|k|k|k|k|k|k)
   ·rw[h.1.1.1.1]at k;cases k
   ·exact k h.1.1.1.2
   ·exact k h.1.1.2
   ·omega
   ·omega
   ·exact hb.1 k
   ·exact hb.2 k
end Go.Proofs.YtgjoehgomjgckaaGreatDoor
end
section
set_option linter.unusedVariables false
set_option linter.unusedSimpArgs false
namespace Go.Proofs.YtgjoehgomjgckaaGreatDoor
open Go Go.Ev
set_option maxRecDepth 20000
set_option linter.unusedVariables false
structure bE where
 id:Int
 ten:Int
 key:List B8
 high:Int
 used:aD
def dK:bE:=⟨0,0,[],0,0⟩
def bE.cs(p:bE)(x:ag):List Value:=jP p.id p.ten x p.high (p.used.toNat:Int)
theorem bE.bA(p:bE)(x:ag):(p.cs x).length=5:=rfl
def xo(w:World)(x:ag)(p:bE):Prop:=Bytes w x p.key
theorem xo.av{w w':World}{x:ag}{p:bE}(m:Mod [] w w')(h:xo w x p):xo w' x p:=Bytes.av h m
def vh(w:World)(s:ag)(ps:List bE):Prop:=Dv bE.cs 5 xo w s ps
theorem vh.av{w w':World}{s:ag}{ps:List bE}(h:vh w s ps)(m:Mod [] w w'):vh w' s ps:=Dv.av (E:=xo) (λm h=>xo.av m h) h m
theorem vh.len{w:World}{s:ag}{ps:List bE}(h:vh w s ps):ps.length=s.n:=Dv.len bE.bA (by omega) h
def zj(w:World)(x:ag)(k:aI):Prop:=dD w x k.ay
theorem zj.av{w w':World}{x:ag}{k:aI}(m:Mod [] w w')(h:zj w x k):zj w' x k:=dD.av h m
def yI(w:World)(s:ag)(ks:List aI):Prop:=Dv aI.cs 4 zj w s ks
theorem yI.av{w w':World}{s:ag}{ks:List aI}(h:yI w s ks)(m:Mod [] w w'):yI w' s ks:=Dv.av (E:=zj) (λm h=>zj.av m h) h m
theorem yI.len{w:World}{s:ag}{ks:List aI}(h:yI w s ks):ks.length=s.n:=Dv.len aI.bA (by omega) h
structure aH where
 clock:Int
 bN:List B8
 bn:List bL
 ax:List bE
 keys:List aI
 aL:List bu
structure bW where
 sec:ag
 ten:ag
 ax:ag
 key:ag
 gr:ag
def aH.cs(t:aH)(s:bW):List Value:=lz t.clock s.sec s.ten s.ax s.key s.gr
structure dF(w:World)(s:bW)(t:aH):Prop where
 sec:Bytes w s.sec t.bN
 ten:fk w s.ten t.bn
 ax:vh w s.ax t.ax
 key:yI w s.key t.keys
 gr:fN w s.gr t.aL
theorem dF.av{w w':World}{s:bW}{t:aH}(h:dF w s t)(m:Mod [] w w'):dF w' s t:=⟨Bytes.av h.sec m,h.ten.av m,h.ax.av m,h.key.av m,h.gr.av m⟩
structure aH.small(t:aH):Prop where
 sec:t.bN.length<=1000000
 ten:t.bn.length<=1000
 ax:t.ax.length<=1000
 key:t.keys.length<=1000
 gr:t.aL.length<=1000
 pk:∀p∈t.ax,p.key.length<=1000000
 aJ:∀k∈t.keys,k.ay.length<=1000
 ak:∀k∈t.keys,∀v∈k.ay,v.ak.length<=1000000
 gf:∀g∈t.aL,g.fit
theorem HG:ew Pr PD dM 5 56:=ew.of (by kernel_rfl)
theorem HH:ew Pr Q8 aW 4 48:=ew.of (by kernel_rfl)
theorem bE.jE(p:bE)(x:ag):∀u∈p.cs x,dQ u=true:=by
 intro u hu
 simp only[bE.cs,jP,List.mem_cons,List.not_mem_nil,or_false]at hu
 rcases hu with rfl|rfl|rfl|rfl|rfl<;>rfl
theorem aI.jE(k:aI)(x:ag):∀u∈k.cs x,dQ u=true:=by
 intro u hu
 simp only[aI.cs,bY,List.mem_cons,List.not_mem_nil,or_false]at hu
 rcases hu with rfl|rfl|rfl|rfl<;>rfl
theorem Yl(x:ag)(ps:List bE)(xs:List ag)(iQ:xs.length=ps.length)(hl:ps.length<=1000000)(w:World)(hx:Sl w x 5 (aO bE.cs ps xs)):Ok Pr XQ [.slice x.a x.n x.c] w λv w'=>∃y:ag,v=.slice y.a y.n y.c/\Own w' w.heap.size dM 5 y (aO bE.cs ps xs)/\y.n=x.n/\Mod [] w w':=by
 refine aC Tryz.func77 ?_
 have aT:=hx.len
 rw[gw bE.bA ps xs iQ]at aT
 refine aZ (λh=>?_) (λh=>?_)
 ·have h0:x.n=0:=by
   rcases Nat.eq_zero_or_pos x.n with e|e
   ·exact e
   ·have:=Sl.pre hx e
    cases ha:x.a with
    |none=>rw[ha]at this;cases this
    |some a=>rw[ha]at h;cases h
  obtain rfl:ps=[]:=List.eq_nil_of_length_eq_zero (by omega)
  exact⟨⟨none,0,0⟩,rfl,Own.nil _ _ _ _,h0.symm,Mod.refl _ _⟩
 ·refine(ah.start w).nw λp w1 H _=>?_
  have H:=H.qI 0 5 0 0 rfl rfl (Nat.le_refl _) (by simp only[maxLen];omega)
  refine H.app (s:=⟨some ⟨p,0,none⟩,0,0⟩) (vs:=[]) 0 HG rfl (hx.av H.mod) (ug bE.jE ps xs) (by show(0+x.n)*56<=_;omega) (by show 0+x.n<=_;omega) λy w2 H hy=>?_
  exact⟨y,rfl,H.cm 0 rfl,by rw[hy];exact Nat.zero_add _,H.mod⟩
theorem Ym(x:ag)(ks:List aI)(xs:List ag)(iQ:xs.length=ks.length)(hl:ks.length<=1000000)(w:World)(hx:Sl w x 4 (aO aI.cs ks xs)):Ok Pr XS [.slice x.a x.n x.c] w λv w'=>∃y:ag,v=.slice y.a y.n y.c/\Own w' w.heap.size aW 4 y (aO aI.cs ks xs)/\y.n=x.n/\Mod [] w w':=by
 refine aC Tryz.func78 ?_
 have aT:=hx.len
 rw[gw aI.bA ks xs iQ]at aT
 refine aZ (λh=>?_) (λh=>?_)
 ·have h0:x.n=0:=by
   rcases Nat.eq_zero_or_pos x.n with e|e
   ·exact e
   ·have:=Sl.pre hx e
    cases ha:x.a with
    |none=>rw[ha]at this;cases this
    |some a=>rw[ha]at h;cases h
  obtain rfl:ks=[]:=List.eq_nil_of_length_eq_zero (by omega)
  exact⟨⟨none,0,0⟩,rfl,Own.nil _ _ _ _,h0.symm,Mod.refl _ _⟩
 ·refine(ah.start w).nw λp w1 H _=>?_
  have H:=H.qI 0 4 0 0 rfl rfl (Nat.le_refl _) (by simp only[maxLen];omega)
  refine H.app (s:=⟨some ⟨p,0,none⟩,0,0⟩) (vs:=[]) 0 HH rfl (hx.av H.mod) (ug aI.jE ks xs) (by show(0+x.n)*48<=_;omega) (by show 0+x.n<=_;omega) λy w2 H hy=>?_
  exact⟨y,rfl,H.cm 0 rfl,by rw[hy];exact Nat.zero_add _,H.mod⟩
theorem GH(n lo hi:Int)(w:World):Ok Pr aeI [.int .i64 n,.int .i64 lo,.int .i64 hi] w λv w'=>v=.bool (aF lo hi n)/\w'=w:=by
 refine aC Tryz.func67 ?_
 exact⟨rfl,rfl⟩
theorem Vg(u:aD)(k:Nat):bt u k=1↔u.getLsbD k=true:=by
 unfold bt
 constructor
 ·intro h
  have:=congrArg (λx=>x.getLsbD 0) h
  simpa using this
 ·intro h
  refine BitVec.eq_of_getLsbD_eq λi hi=>?_
  by_cases h0:i=0
  ·subst h0;simpa using h
  ·simp[h0]
theorem TA(u:aD)(k:Nat):u>>>k=0↔∀i,k<=i->i<64->¬bt u i=1:=by
 constructor
 ·intro h i h1 h2
  rw[Vg]
  have:=congrArg (λx=>x.getLsbD (i - k)) h
  simp only[BitVec.getLsbD_ushiftRight]at this
  rw[show k+(i - k)=i by omega]at this
  rw[this];simp
 ·intro h
  refine BitVec.eq_of_getLsbD_eq λi hi=>?_
  rw[BitVec.getLsbD_ushiftRight]
  by_cases h2:k+i<64
  ·have:=h (k+i) (by omega) h2
   rw[Vg]at this
   simpa using this
  ·rw[BitVec.getLsbD_of_ge _ _ (by omega)];simp
theorem Kl(high:Int)(u:aD)(w:World):Ok Pr ada [.int .i64 high,.int .u64 (u.toNat:Int)] w λr w'=>r=.bool (fz high u)/\w'=w:=by
 refine aC Tryz.func99 (L:=[(4,[(5,.int .i64)])]) ?_
 by_cases h:high<0\/1099511627776<high
 ·exact ite_true (by simpa using h) ⟨by unfold fz;rw[if_pos h],rfl⟩
 refine ite_false (by simpa using h) ?_
 obtain⟨k,rfl⟩:∃k:Nat,high=(k:Int):=⟨high.toNat,by omega⟩
 refine bG 0 64 (λi w'=>(∀j,k<=j->j<i->¬bt u j=1)/\w'=w) rfl (by omega) ⟨λj h1 h2=>by omega,rfl⟩ ?_ ?_
 ·rintro again i w1 _ hi ⟨jU,rfl⟩ aB
  refine ite_true (decide_eq_true (by omega)) ?_
  by_cases hk:k<=i
  ·refine ite_true (decide_eq_true (by omega)) (fG (by omega) ?_)
   rw[wk,EW]
   by_cases hb:bt u i=1
   ·refine ite_true (decide_eq_true (show((u>>>i&&&1).toNat:Int)=1 by
     have:u>>>i&&&1=1:=hb
     rw[this];rfl)) ⟨?_,rfl⟩
    have hz:¬u>>>k=0:=λf=>(TA u k).1 f i hk (by omega) hb
    have e:fz (k:Int) u=false:=by
     unfold fz
     rw[if_neg h]
     by_cases h0:(k:Int)=0
     ·rw[if_pos h0,decide_eq_false]
      intro f;exact hz (by rw[f];simp)
     ·rw[if_neg h0,Int.toNat_natCast,decide_eq_false (λf=>hz (f (by omega)))];rfl
    rw[e]
   ·refine ite_false (decide_eq_false (show ¬((u>>>i&&&1).toNat:Int)=1 from λf=>hb (zY (y:=1) |>.1 f))) ⟨⟨by omega,by omega⟩,aB w1 ⟨λj h1 h2=>?_,rfl⟩⟩
    rcases Nat.lt_or_ge j i with h3|h3
    ·exact jU j h1 h3
    ·rw[show j=i by omega];exact hb
  ·refine ite_false (decide_eq_false (by omega)) ⟨⟨by omega,by omega⟩,aB w1 ⟨λj h1 h2=>?_,rfl⟩⟩
   omega
 ·rintro again w1 ⟨jU,rfl⟩
  have hz:k<64->u>>>k=0:=λhk=>(TA u k).2 λi h1 h2=>jU i h1 h2
  refine ite_false (decide_eq_false (by omega)) ⟨?_,rfl⟩
  rw[EW]
  congr 1
  unfold fz
  rw[if_neg h]
  by_cases h0:(k:Int)=0
  ·have:k=0:=by omega
   subst this
   have:=hz (by omega)
   rw[if_pos h0,decide_eq_true h0,decide_eq_true (show u=0 by simpa using this)];rfl
  ·rw[if_neg h0,decide_eq_false h0,Int.toNat_natCast,decide_eq_true (λf=>hz (by omega)),Bool.true_and,Bool.false_or]
   exact(decide_eq_decide.2 (zY (y:=1)))
theorem aay(high:Int)(u:aD)(n:Int)(w:World):Ok Pr aa2 [.int .i64 high,.int .u64 (u.toNat:Int),.int .i64 n] w λr w'=>r=.bool (iL high u n)/\w'=w:=by
 refine aC Tryz.func140 ?_
 refine an (Kl high u w) ?_
 rintro _ w1 ⟨rfl,hw⟩
 subst hw
 refine aN ?_
 by_cases h:fz high u=true/\1<=n/\n<=1099511627776
 case neg=>
  have e:iL high u n=false:=by unfold iL;rw[if_neg λf=>h ⟨f.1,f.2.1,f.2.2.1⟩]
  refine ite_true ?_ ⟨by rw[e],rfl⟩
  cases hm:fz high u with
  |false=>rfl
  |true=>
   rw[hm]at h
   by_cases h1:n<1
   ·rw[decide_eq_true h1];rfl
   ·rw[decide_eq_true (show 1099511627776<n from Decidable.byContradiction λf=>h ⟨rfl,by omega,by omega⟩)];simp
 obtain⟨hm,h1,h2⟩:=h
 rw[VK (DW hm) ⟨h1,h2⟩]
 refine ite_false (by rw[hm,decide_eq_false (show ¬n<1 by omega),decide_eq_false (show ¬1099511627776<n by omega)];rfl) ?_
 by_cases hh:high<n
 ·have e:iL high u n=true:=by unfold iL;rw[if_pos ⟨hm,h1,h2,by omega⟩,decide_eq_true hh];rfl
  exact ite_true (decide_eq_true hh) ⟨by rw[e],rfl⟩
 refine ite_false (decide_eq_false hh) ?_
 by_cases dX:high - n<64
 ·have e:iL high u n=(decide (high<n)||decide (bt u (high - n).toNat=0)):=by unfold iL;rw[if_pos ⟨hm,h1,h2,dX⟩]
  refine ite_true (decide_eq_true dX) (fG (by omega) ⟨?_,rfl⟩)
  rw[e,decide_eq_false hh,Bool.false_or]
  obtain⟨k,hk⟩:∃k:Nat,high - n=(k:Int):=⟨(high - n).toNat,by omega⟩
  rw[hk,Int.toNat_natCast,wk,EW]
  congr 1
  exact decide_eq_decide.2 (zY (y:=0))
 ·have e:iL high u n=false:=by unfold iL;rw[if_neg λf=>dX f.2.2.2]
  exact ite_false (decide_eq_false dX) ⟨by rw[e],rfl⟩
theorem QM(high:Int)(u:aD)(n:Int)(w:World):Ok Pr ac8 [.int .i64 high,.int .u64 (u.toNat:Int),.int .i64 n] w λr w'=>r=.tuple ⟨[.int .i64 (oR high u n),.int .u64 ((s9 high u n).toNat:Int),.int .i64 (iP high u n)]⟩/\Mod [] w w':=by
 refine aC Tryz.func86 ?_
 have hC:iP high u n=if fz high u=true then (if iL high u n=true then 0 else 8) else 2:=rfl
 have hH:oR high u n=if iP high u n=0 then (if high<n then n else high) else 0:=rfl
 have hU:s9 high u n=if iP high u n=0 then (if high<n then (u<<<(min (n - high) 64).toNat)|||1 else u|||((1:aD)<<<(high - n).toNat)) else 0:=rfl
 generalize iP high u n=C at*
 generalize oR high u n=A at*
 generalize s9 high u n=B at*
 refine an (Kl high u w) ?_
 rintro _ w1 ⟨rfl,hw⟩
 subst hw
 refine aN ?_
 cases hm:fz high u with
 |false=>
  rw[hm,if_neg (by decide)]at hC
  rw[hC,if_neg (by decide)]at hH hU
  exact ite_true rfl ⟨by rw[hH,hU,hC];rfl,Mod.refl _ _⟩
 |true=>
  rw[hm,if_pos rfl]at hC
  refine ite_false rfl (an (aay high u n w1) ?_)
  rintro _ w2 ⟨rfl,hw⟩
  subst hw
  refine aN ?_
  cases hf:iL high u n with
  |false=>
   rw[hf,if_neg (by decide)]at hC
   rw[hC,if_neg (by decide)]at hH hU
   exact ite_true rfl ⟨by rw[hH,hU,hC];rfl,Mod.refl _ _⟩
  |true=>
   rw[hf,if_pos rfl]at hC
   rw[hC,if_pos rfl]at hH hU
   subst hH hU
   rw[hC]
   have hr:=DW hm
   have hn:1<=n/\n<=1099511627776:=by
    unfold iL at hf
    split at hf
    ·rename_i hc;exact⟨hc.2.1,hc.2.2.1⟩
    ·cases hf
   refine ite_false rfl ?_
   by_cases hh:high<n
   ·rw[if_pos hh,if_pos hh]
    refine ite_false (decide_eq_false (by omega)) ⟨⟨by omega,by omega⟩,?_⟩
    by_cases dX:64<=n - high
    ·refine ite_true (decide_eq_true dX) ⟨?_,Mod.refl _ _⟩
     have e:u<<<(min (n - high) 64).toNat|||1=1:=by
      rw[show(min (n - high) 64).toNat=64 by omega]
      have:u<<<64=0:=by
       refine BitVec.eq_of_getLsbD_eq λi hi=>?_
       rw[BitVec.getLsbD_shiftLeft]
       simp[hi]
      rw[this];rfl
     rw[e];rfl
    ·obtain⟨k,hk⟩:∃k:Nat,n - high=(k:Int):=⟨(n - high).toNat,by omega⟩
     rw[show(min (n - high) 64).toNat=k by omega,hk]
     refine ite_false (decide_eq_false (by omega)) ⟨⟨by omega,by omega⟩,fG (by omega) ⟨?_,Mod.drew _ _⟩⟩
     rw[uB,EE,CK]
   ·rw[if_neg hh,if_neg hh]
    obtain⟨k,hk⟩:∃k:Nat,high - n=(k:Int):=⟨(high - n).toNat,by omega⟩
    rw[hk,Int.toNat_natCast]
    refine ite_true (decide_eq_true (by omega)) ⟨⟨by omega,by omega⟩,fG (by omega) ⟨?_,Mod.drew _ _⟩⟩
    rw[EE,uB,CK]
theorem Dp(x:ag)(ts:List bL)(id:Int)(w:World)(hx:fk w x ts):Ok Pr aaV [.slice x.a x.n x.c,.int .i64 id] w λv w'=>v=.bool (aF 1 (ts.length:Int) id)/\w'=w:=by
 refine aC Tryz.func98 ?_
 have:=hx.len
 refine⟨?_,rfl⟩
 rw[this];rfl
theorem Gp(x:ag)(ts:List bL)(hl:ts.length<=1000000)(w:World)(hx:fk w x ts):Ok Pr ac6 [.slice x.a x.n x.c] w λv w'=>v=.bool (gE ts)/\Mod [] w w':=by
 refine aC Tryz.func46 (L:=[(2,[(3,.int .i64)]),(8,[(5,.int .i64)])]) ?_
 rw[Uv]
 have aT:=hx.len
 by_cases h8:ts.length<=8
 case neg=>
  have eM:gE ts=false:=by unfold gE;rw[decide_eq_false h8];rfl
  refine qA (λi w'=>w'=w) (λ_ _=>0) rfl ?_
  rintro again i _ rfl aB
  exact ite_false (by rw[decide_eq_false (show ¬((x.n:Nat):Int)<=8 by omega),Bool.and_false]) ⟨by rw[eM,decide_eq_false (show ¬((x.n:Nat):Int)<=8 by omega)],Mod.refl _ _⟩
 have eM:gE ts=oc ts ts.length:=by unfold gE;rw[decide_eq_true h8];rfl
 refine bG 0 ts.length (λi w'=>oc ts i=true/\Mod [] w w') rfl (by omega) ⟨rfl,Mod.refl _ _⟩ ?_ ?_
 ·rintro again i w1 _ hi ⟨cI,m⟩ aB
  obtain⟨bF,hc⟩:=(hx.av m).at hi
  have hs:oc ts (i+1)=(oc ts i&&oS ts i):=rfl
  have hF:oS ts i=(decide ((ts.getD i tz).id=(i:Int)+1)&&(decide (min (i:Int) 1<=(ts.getD i tz).par)&&(decide ((ts.getD i tz).par<=(i:Int))&&(mH (ts.getD i tz).name&&!(ts.take i).any (iM (ts.getD i tz).par (ts.getD i tz).name))))):=rfl
  have no:∀ {w2:World},Mod [] w w2->oS ts i=false->(λv w'=>v=Value.bool (gE ts)/\Mod [] w w') (.bool false) w2:=λm h=>⟨by rw[eM,Mg h _ hi],m⟩
  generalize ts.getD i tz=t at*
  refine ite_true (by rw[decide_eq_true (show(i:Int)<((x.n:Nat):Int) by omega),decide_eq_true (show((x.n:Nat):Int)<=8 by omega)];rfl) ⟨bF,Dm hc ((ah.start w1).nw λp w2 D _=>D.Br 0 rfl rfl λw3 D=>?_)⟩
  refine D.au 0 rfl (ai p 0) rfl ⟨⟨by omega,by omega⟩,D.jX 0 rfl (ai p 2) rfl (D.jX 0 rfl (ai p 2) rfl (D.au 0 rfl (ai p 1) rfl (D.au 0 rfl (ai p 1) rfl (D.au 0 rfl (ai p 1) rfl ?_))))⟩
  have eN:mH t.name=true↔1<=t.name.size/\t.name.size<=300:=by
   unfold mH aF
   simp only[Bool.and_eq_true,decide_eq_true_eq]
   omega
  have eq:((decide (t.par=0)) == (decide ((i:Int)=0)))=decide (t.par=0↔(i:Int)=0):=by
   by_cases a:t.par=0<;>by_cases b:(i:Int)=0<;>simp[a,b]
  rw[eq]
  by_cases hg:t.id=(i:Int)+1/\min (i:Int) 1<=t.par/\t.par<=(i:Int)/\mH t.name=true
  case neg=>
   refine ite_true ?_ (no (m.trans D.mod) ?_)
   ·simp only[Bool.or_eq_true,Bool.not_eq_true',decide_eq_true_eq,decide_eq_false_iff_not]
    rw[eN]at hg
    omega
   ·rw[hF]
    cases hn:mH t.name with
    |false=>simp
    |true=>
     rw[hn]at hg
     simp only[Bool.and_eq_false_iff,decide_eq_false_iff_not]
     by_cases q1:t.id=(i:Int)+1
     ·by_cases q2:min (i:Int) 1<=t.par
      ·exact .inr (.inr (.inl λq3=>hg ⟨q1,q2,q3,rfl⟩))
      ·exact .inr (.inl q2)
     ·exact .inl q1
  obtain⟨g1,g2,g3,g4⟩:=hg
  rw[decide_eq_true g1,decide_eq_true g2,decide_eq_true g3,g4,Bool.true_and,Bool.true_and,Bool.true_and,Bool.true_and]at hF
  refine ite_false ?_ ?_
  ·simp only[Bool.or_eq_false_iff,Bool.not_eq_false',decide_eq_true_eq,decide_eq_false_iff_not]
   have:=eN.1 g4
   omega
  refine bG 0 i (λkv w'=>(ts.take kv).any (iM t.par t.name)=false/\ah w1 [] w' [.aj p (kL t.id t.par t.name) cD]) rfl (by omega) ⟨rfl,D⟩ ?_ ?_
  ·rintro gN kv w4 _ zm ⟨hn,D⟩ eJ
   have D:=D.drew
   obtain⟨Wh,Xg⟩:=(hx.av (m.trans D.mod)).at (i:=kv) (by omega)
   have l6:=vv (iM t.par t.name) ts kv (by omega) tz
   have aks:iM t.par t.name (ts.getD kv tz)=true->(ts.take i).any (iM t.par t.name)=true:=λh=>by
    have h1:=vw (iM t.par t.name) (ts.take i) kv (by rw[List.length_take];omega) tz (by
     rw[List.getD_eq_getElem?_getD,List.getElem?_take,if_pos zm,<- List.getD_eq_getElem?_getD];exact h)
    exact h1
   generalize ts.getD kv tz=q at*
   refine ite_true (decide_eq_true (by omega)) ⟨Wh,_,Xg 1 _ rfl,D.au 0 rfl (ai p 1) rfl ?_⟩
   by_cases hp:q.par=t.par
   ·refine ite_true (decide_eq_true hp) ⟨Wh,_,Xg 2 _ rfl,D.jX 0 rfl (ai p 2) rfl ?_⟩
    by_cases hq:q.name=t.name
    ·have Jo:iM t.par t.name q=true:=by unfold iM;rw[decide_eq_true hp,decide_eq_true hq];rfl
     exact ite_true (decide_eq_true hq) (no (m.trans D.mod) (by rw[hF,aks Jo];rfl))
    ·exact ite_false (decide_eq_false hq) ⟨⟨by omega,by omega⟩,eJ _ ⟨by rw[l6,hn];unfold iM;rw[decide_eq_false hq,Bool.and_false];rfl,D⟩⟩
   ·exact ite_false (decide_eq_false hp) ⟨⟨by omega,by omega⟩,eJ _ ⟨by rw[l6,hn];unfold iM;rw[decide_eq_false hp];rfl,D⟩⟩
  ·rintro gN w4 ⟨hn,D⟩
   exact ite_false (decide_eq_false (by omega)) ⟨⟨by omega,by omega⟩,aB _ ⟨by rw[hs,cI,hF,hn];rfl,m.trans D.mod⟩⟩
 ·rintro again w1 ⟨cI,m⟩
  exact ite_false (by rw[decide_eq_false (show ¬((ts.length:Nat):Int)<((x.n:Nat):Int) by omega)];rfl) ⟨by rw[eM,cI,decide_eq_true (show((x.n:Nat):Int)<=8 by omega)],m⟩
theorem or8(x y:B8):wJ .u8 (x.toNat:Int) (y.toNat:Int)=((x|||y).toNat:Int):=by
 unfold wJ
 have e:∀z:B8,BitVec.ofInt (IntKind.bits .u8) (z.toNat:Int)=z:=λz=>by
  show BitVec.ofInt 8 (z.toNat:Int)=z
  rw[BitVec.ofInt_natCast];simp
 rw[e,e]
 show IntKind.wrap .u8 ((((x|||y).toNat:Nat)):Int)=_
 rw[BY];simp
theorem akt{m k:Nat}(hm:m<9223372036854775808):nF .i64 (shr .i64 (m:Int) (k:Int)) 1=((m / 2 ^ k%2:Nat):Int):=by
 rw[yC hm,show(1:Int)=((1:Nat):Int) from rfl,ER (Nat.lt_of_le_of_lt (Nat.div_le_self _ _) hm) (by omega),Nat.and_one_is_mod]
theorem afH(n N j:Nat)(h:j<n):(gD n N).getD j 0=BitVec.ofNat 8 (N / 2 ^ (8*j)):=by
 unfold gD
 rw[List.getD_eq_getElem?_getD,List.getElem?_map,List.getElem?_range h];rfl
theorem agE(n N b B:Nat)(hN:N<2 ^ B)(hb:b<=1)(hn:B / 8<n):(gD n N).set (B / 8) ((gD n N).getD (B / 8) 0|||BitVec.ofNat 8 (b*2 ^ (B%8)))=gD n (N+b*2 ^ B):=by
 have hl:(gD n N).length=n:=vC n N
 refine List.ext_getElem (by rw[List.length_set,hl,vC]) λj h1 h2=>?_
 have hj:j<n:=by rw[vC]at h2;exact h2
 have e2:(gD n (N+b*2 ^ B))[j]=BitVec.ofNat 8 ((N+b*2 ^ B) / 2 ^ (8*j)):=by simp[gD]
 rw[e2]
 have an8:0<2 ^ B:=Nat.pow_pos (by omega)
 have an9:N+b*2 ^ B<2 ^ (B+1):=by
  have:b*2 ^ B<=1*2 ^ B:=Nat.mul_le_mul_right _ hb
  rw[Nat.pow_succ];omega
 rcases Nat.lt_trichotomy j (B / 8)with h|h|h
 ·rw[List.getElem_set_ne (by omega)]
  have e1:(gD n N)[j]'(by rw[hl];exact hj)=BitVec.ofNat 8 (N / 2 ^ (8*j)):=by simp[gD]
  rw[e1]
  refine BitVec.eq_of_toNat_eq ?_
  rw[BitVec.toNat_ofNat,BitVec.toNat_ofNat,Nat.mul_comm b]
  exact(Ib N b B (8*j) 8 (by omega)).symm
 ·subst h
  rw[List.getElem_set_self,afH _ _ _ hn]
  have hr:N / 2 ^ (8*(B / 8))<2 ^ (B%8):=by
   refine Nat.div_lt_of_lt_mul ?_
   rw[<- Nat.pow_add,show 8*(B / 8)+B%8=B by omega];exact hN
  have hs:(N+b*2 ^ B) / 2 ^ (8*(B / 8))=N / 2 ^ (8*(B / 8))+b*2 ^ (B%8):=by
   conv=>lhs;rw[show 2 ^ B=2 ^ (8*(B / 8))*2 ^ (B%8) by rw[<- Nat.pow_add];congr 1;omega]
   rw[<- Nat.mul_assoc,Nat.mul_comm b,Nat.mul_assoc,Nat.add_mul_div_left _ _ (Nat.pow_pos (by omega))]
  have h7:2 ^ (B%8)<=2 ^ 7:=Nat.pow_le_pow_right (by omega) (by omega)
  have ak8:(2:Nat) ^ 7=128:=by decide
  have gZ:b*2 ^ (B%8)<=1*2 ^ (B%8):=Nat.mul_le_mul_right _ hb
  rw[hs]
  refine BitVec.eq_of_toNat_eq ?_
  rw[BitVec.toNat_or,BitVec.toNat_ofNat,BitVec.toNat_ofNat,BitVec.toNat_ofNat,Nat.mod_eq_of_lt (show N / 2 ^ (8*(B / 8))<2 ^ 8 by omega),Nat.mod_eq_of_lt (show b*2 ^ (B%8)<2 ^ 8 by omega),LD hr,Nat.mod_eq_of_lt (show N / 2 ^ (8*(B / 8))+b*2 ^ (B%8)<2 ^ 8 by omega)]
 ·rw[List.getElem_set_ne (by omega)]
  have e1:(gD n N)[j]'(by rw[hl];exact hj)=BitVec.ofNat 8 (N / 2 ^ (8*j)):=by simp[gD]
  rw[e1]
  have tA:2 ^ (B+1)<=2 ^ (8*j):=Nat.pow_le_pow_right (by omega) (by omega)
  rw[Nat.div_eq_of_lt (show N<2 ^ (8*j) by rw[Nat.pow_succ]at tA;omega),Nat.div_eq_of_lt (by omega)]
theorem QN(d:Nat)(iG:1<=d)(hd:d<=24)(x:ag)(xs:List Int)(hl:xs.length<=10000)(hx:tH d xs)(w:World)(hn:cl w x xs):
  Ok Pr adO [.int .i64 (d:Int),.slice x.a x.n x.c] w λv w'=>iN w w' v (qc d xs):=by
 refine aC Tryz.func268 (J:=[(9,[])]) (L:=[(5,[(6,.int .i64)]),(10,[(7,.int .i64)])]) ?_
 have aT:=hn.len
 obtain⟨C,hC⟩:∃C,C=d*xs.length:=⟨_,rfl⟩
 have hCi:C<=24*10000:=by rw[hC];exact Nat.mul_le_mul hd hl
 have eC:(d:Int)*((x.n:Nat):Int)=(C:Int):=by rw[hC,<- aT,Int.natCast_mul]
 have Bd:qc d xs=gD ((C+7) / 8) (iO d xs):=by unfold qc;rw[hC]
 refine ite_false (by rw[decide_eq_false (show ¬(d:Int)<1 by omega),decide_eq_false (show ¬(24:Int)<(d:Int) by omega)];rfl) ?_
 rw[eC]
 refine⟨⟨by omega,by omega⟩,⟨by omega,by omega⟩,⟨by omega,by rw[show IntKind.max .i64=9223372036854775807 by decide];omega⟩,?_⟩
 refine(ah.start w).tB cg (by kernel_rfl) (n:=(C+7) / 8) (by omega) (by omega) (by omega) λy w1 H j3=>?_
 have WW:(2:Nat) ^ 24=16777216:=by decide
 have ak2:2 ^ d<=2 ^ 24:=Nat.pow_le_pow_right (by omega) hd
 have z0:gD ((C+7) / 8) 0=List.replicate ((C+7) / 8) 0:=by
  unfold gD
  refine List.ext_getElem (by simp) λj h1 h2=>by simp
 refine bG 0 xs.length (λi w'=>ah w [] w' [.row aE 1 y (aG (gD ((C+7) / 8) (iO d (xs.take i))))]) rfl (by omega) (by rw[show iO d (xs.take 0)=0 from rfl,z0];exact H) ?_ ?_
 ·intro again i w2 _ hi H aB
  obtain⟨v,hv,hvd⟩:=hx.at hi
  have Hd:=H.drew
  have hT:=PN d xs i v hi hv
  have bB:=(hx.take i).D7
  rw[List.length_take,Nat.min_eq_left (by omega)]at bB
  generalize iO d (xs.take (i+1))=N' at*
  generalize iO d (xs.take i)=N at*
  obtain⟨c,hc⟩:∃c,c=d*i:=⟨_,rfl⟩
  have hcC:c+d<=C:=by
   rw[hc,hC]
   have:d*(i+1)<=d*xs.length:=Nat.mul_le_mul_left _ (by omega)
   rw[Nat.mul_add,Nat.mul_one]at this;omega
  have ec:(d:Int)*(i:Int)=(c:Int):=by rw[hc,Int.natCast_mul]
  rw[<- hc]at hT bB
  rw[ec]
  refine ite_true (decide_eq_true (by omega)) (gi λgo aV=>(hn.av Hd.mod).ld (i:=i) hi rfl ?_)
  rw[hv]
  refine ite_false (decide_eq_false (by omega)) ((hn.av Hd.mod).ld (i:=i) hi rfl ?_)
  rw[hv]
  have Ft:shl .i64 1 (d:Int)=((2 ^ d:Nat):Int):=by
   have:=wB (a:=1) (k:=d) (by omega) (by omega)
   rw[Nat.one_mul]at this
   exact this
  refine fG (by omega) (ite_false (by rw[Ft];exact decide_eq_false (by omega)) (aV _ ?_))
  refine bG 0 d (λk w'=>ah w [] w' [.row aE 1 y (aG (gD ((C+7) / 8) (N+2 ^ c*(v%2 ^ k))))]) rfl (by omega) (by rw[Nat.pow_zero,Nat.mod_one,Nat.mul_zero,Nat.add_zero];exact Hd) ?_ ?_
  ·intro gN k w3 _ hk H eJ
   have Hd:=H.drew
   have hb:=(H.bytes 0 rfl).len
   rw[vC]at hb
   have e1:(c:Int)+(k:Int)=((c+k:Nat):Int):=by omega
   have e2:((c+k:Nat):Int) / 8=(((c+k) / 8:Nat):Int):=by omega
   have e3:((c+k:Nat):Int)%8=(((c+k)%8:Nat):Int):=by omega
   have hB:(c+k) / 8<(C+7) / 8:=by omega
   have On:v%2 ^ k<2 ^ k:=Nat.mod_lt _ (Nat.pow_pos (by omega))
   have hNB:N+2 ^ c*(v%2 ^ k)<2 ^ (c+k):=by
    have h1:2 ^ c*(v%2 ^ k+1)<=2 ^ c*2 ^ k:=Nat.mul_le_mul_left _ On
    rw[Nat.mul_add,Nat.mul_one]at h1
    rw[Nat.pow_add];omega
   have IJ:=Nat.mod_lt (v / 2 ^ k) (show 0<2 by omega)
   have VL:=agE ((C+7) / 8) (N+2 ^ c*(v%2 ^ k)) (v / 2 ^ k%2) (c+k) hNB (by omega) hB
   have aku:N+2 ^ c*(v%2 ^ k)+v / 2 ^ k%2*2 ^ (c+k)=N+2 ^ c*(v%2 ^ (k+1)):=by
    rw[Nat.mod_pow_succ,Nat.mul_add,Nat.pow_add,Nat.add_assoc]
    congr 2
    rw[Nat.mul_comm (v / 2 ^ k%2),Nat.mul_assoc]
   rw[aku]at VL
   have hp7:2 ^ ((c+k)%8)<=2 ^ 7:=Nat.pow_le_pow_right (by omega) (by omega)
   have ak8:(2:Nat) ^ 7=128:=by decide
   have hmul:v / 2 ^ k%2*2 ^ ((c+k)%8)<=1*2 ^ ((c+k)%8):=Nat.mul_le_mul_right _ (by omega)
   rw[e1,e2,e3]
   refine ite_true (decide_eq_true (by omega)) ⟨⟨by omega,by omega⟩,⟨by omega,by omega⟩,⟨by omega,by rw[show IntKind.max .i64=9223372036854775807 by decide];omega⟩,⟨by omega,by rw[show IntKind.max .i64=9223372036854775807 by decide];omega⟩,?_⟩
   refine(Hd.bytes 0 rfl).ld (i:=(c+k) / 8) (by rw[vC];exact hB) ((hn.av Hd.mod).ld (i:=i) hi rfl ?_)
   rw[hv,akt (by omega),wB (by omega) (by omega),BY,or8]
   refine fG (by omega) ⟨by omega,fG (by omega) ⟨⟨(Hd.bytes 0 rfl).some (by omega),by omega,by omega⟩,?_⟩⟩
   refine Hd.NN 0 _ rfl (by rw[Nat.mul_one]) (by rw[vC,Int.toNat_natCast];exact hB) rfl λw4 H=>⟨⟨by omega,by omega⟩,eJ w4 ?_⟩
   rw[<- VL]
   exact H
  ·intro gN w3 H
   rw[Nat.mod_eq_of_lt hvd,<- hT]at H
   exact ite_false (decide_eq_false (by omega)) ⟨⟨by omega,by omega⟩,aB w3 H⟩
 ·intro again w2 H
  rw[List.take_of_length_le (Nat.le_refl _)]at H
  rw[Bd]
  exact ite_false (decide_eq_false (by omega)) ⟨y,rfl,H.cm 0 rfl,H.mod⟩
end Go.Proofs.YtgjoehgomjgckaaGreatDoor
end
section
set_option linter.unusedVariables false
set_option linter.unusedSimpArgs false
namespace Go.Ev
open Go
theorem dU.later{w w' w2:World}{Q:World->Prop}(h:dU w w' Q)(m:Mod [] w' w2):dU w w2 Q:=by
 obtain⟨fp,D⟩:=(ah.start w).dz h
 exact(D.frame m).boxed λw' h=>(h 0 _ rfl).2 w' λ_ _=>rfl
end Go.Ev
namespace Go.Proofs.YtgjoehgomjgckaaGreatDoor
open Go Go.Ev
set_option maxRecDepth 20000
set_option linter.unusedVariables false
def gJ.we(s:gJ):List Value:=Dz s.k s.e1 s.e2 s.du s.dv
theorem Ea:zc Pr xH=[.int .i64 0,.int .i64 0,.int .i64 0,.int .i64 0,.int .i64 0]:=by kernel_rfl
theorem HI{s:gJ}{K:Int->Int->Int->Int->Int->Prop}(h:K s.k s.e1 s.e2 s.du s.dv):Ky (.agg ⟨s.we⟩) K:=aao (c0:=s.k) (c1:=s.e1) (c2:=s.e2) (c3:=s.du) (c4:=s.dv) h
theorem GR(set:Int)(w:World):Ok Pr af8 [.int .i64 set] w λv w'=>v=.tuple ⟨[.agg ⟨(bJ set).we⟩,.bool (isSet set)]⟩/\Mod [] w w':=by
 refine aC Tryz.func227 ?_
 rw[Ea]
 refine(ah.start w).nw λp w1 H _=>?_
 unfold isSet bJ
 refine aZ (λh=>?_) (λh=>?_)
 ·have h:=of_decide_eq_true h
  subst h
  exact H.sF 0 rfl rfl λw2 H=>H.xB 0 rfl ⟨rfl,H.mod⟩
 ·have h1:=of_decide_eq_false h
  rw[if_neg h1,decide_eq_false h1]
  refine aZ (λh=>?_) (λh=>?_)
  ·have h:=of_decide_eq_true h
   subst h
   exact H.sF 0 rfl rfl λw2 H=>H.xB 0 rfl ⟨rfl,H.mod⟩
  ·have h2:=of_decide_eq_false h
   rw[if_neg h2,decide_eq_false h2]
   refine aZ (λh=>?_) (λh=>?_)
   ·have h:=of_decide_eq_true h
    subst h
    exact H.sF 0 rfl rfl λw2 H=>H.xB 0 rfl ⟨rfl,H.mod⟩
   ·have h3:=of_decide_eq_false h
    rw[if_neg h3,decide_eq_false h3]
    exact H.sF 0 rfl rfl λw2 H=>H.xB 0 rfl ⟨rfl,H.mod⟩
theorem J0(set:Int)(w:World):Ok Pr acj [.int .i64 set] w λv w'=>v=.tuple ⟨[.int .i64 (dY set:Int),.int .i64 (fm set:Int),.int .i64 (jg set:Int)]⟩/\Mod [] w w':=by
 refine aC Tryz.func226 ?_
 rw[Ea]
 refine an (GR set w) ?_
 rintro _ w1 ⟨rfl,m1⟩
 have H:=(ah.start w).frame m1
 refine⟨_,rfl,HI ⟨_,rfl,rfl,H.nw λp w2 H _=>H.sF 0 rfl rfl λw3 H=>?_⟩⟩
 unfold dY fm jg
 cases bk:isSet set with
 |false=>rw[Jj bk];exact ite_true rfl ⟨rfl,H.mod⟩
 |true=>
  have hg:=iA bk
  generalize bJ set=s at*
  have H:ah w [] w3 [.aj p s.we xH]:=H
  have H:=H.drew
  have hk:=hg.k
  have hd:s.du*s.k<=11*4:=Nat.mul_le_mul (by have:=hg.du;omega) hk.2
  have hv:=hg.dv
  have e:(s.du:Int)*(s.k:Int)=((s.du*s.k:Nat):Int):=by rw[Int.natCast_mul]
  refine ite_false rfl (H.au 0 rfl (ai p 0) rfl ⟨⟨by omega,by omega⟩,⟨by omega,by omega⟩,H.au 0 rfl (ai p 0) rfl ⟨⟨by omega,by omega⟩,H.au 0 rfl (ai p 3) rfl (H.au 0 rfl (ai p 0) rfl ?_)⟩⟩)
  rw[e]
  generalize s.du*s.k=D at*
  refine⟨⟨by omega,by omega⟩,H.au 0 rfl (ai p 4) rfl ⟨⟨by omega,by omega⟩,⟨by omega,by omega⟩,?_,H.mod⟩⟩
  rw[if_pos rfl,show(384*(s.k:Int)+32)=((384*s.k+32:Nat):Int) by omega,show 384*(s.k:Int)=((384*s.k:Nat):Int) by omega,show 32*((D:Int)+(s.dv:Int))=((32*(D+s.dv):Nat):Int) by omega]
theorem J1(k:Nat)(hk:k<=8)(x:ag)(b:List B8)(hb:b.length=384*k)(w:World)(hx:Bytes w x b):
  Ok Pr ack [.slice x.a x.n x.c] w λv w'=>(jt 12 k b=true/\∃out:ag,v=.tuple ⟨[.slice out.a out.n out.c,.bool true]⟩/\dU w w' λw=>dj w out (dh 12 k b))\/
   (jt 12 k b=false/\v=.tuple ⟨[.slice none 0 0,.bool false]⟩/\Mod [] w w'):=by
 refine aC Tryz.func233 (L:=[(3,[(4,.sl),(5,.int .i64)])]) ?_
 have aT:=hx.len
 have nP:=hx.cap
 refine lV (λ(out:ag) (i:Int) w'=>∃j:Nat,j<=k/\i=((384*j:Nat):Int)/\(∀i,i<j->l9 (fh 12 b i)=true)/\fD cl jA w [] [] w' out (dh 12 j b)) (λ_ i _=>384*k - i.toNat)
  ⟨0,by omega,rfl,λi hi=>by omega,fD.start (ah.start w)⟩ ?_
 rintro again out _ w1 ⟨j,hj,rfl,jU,C⟩ aB
 refine⟨⟨by omega,by omega⟩,aZ (λhc=>?_) (λhc=>?_)⟩
 ·have hc:=of_decide_eq_true hc
  have je:j<k:=by omega
  refine⟨⟨by omega,by omega⟩,xU (384*j) (384*j+384) rfl (by omega) (by omega) (by omega) λz hz kz=>?_⟩
  have kz:=kz _ b (hx.av C.mod) (by omega)
  have hlen:=G4 (d:=12) (by omega) (b:=b) (many:=k) (by omega) je
  rw[show 384*j+384 - 384*j=384 by omega]at kz
  refine an (PL 12 (by omega) (by omega) z _ (by rw[List.length_take];omega) _ kz) ?_
  rintro _ w2 ⟨y,rfl,hy,m2⟩
  change Own w2 w1.heap.size aU 1 y (bf (fh 12 b j))at hy
  have hs:dh 12 (j+1) b=dh 12 j b++[fh 12 b j]:=xb _ _
  refine aS (an (vF y _ (by omega) _ hy.bq) ?_)
  rintro _ w3 ⟨rfl,m3⟩
  cases qf:l9 (fh 12 b j)with
  |false=>
   refine aN (ite_true rfl (.inr ⟨Bool.eq_false_iff.2 λh=>?_,rfl,C.mod.trans (m2.trans m3)⟩))
   rw[HB.1 h j je]at qf
   cases qf
  |true=>
   have Bg:dU w1 w3 λw=>cl w y (fh 12 b j):=by
    exact(dU.yf hy m2 λw2 h=>h.bq).later m3
   refine aN (ite_false rfl (C.add Bg rB (by rw[BN];omega) λfJ w5 C=>⟨⟨by omega,by omega⟩,aB fJ _ w5 ⟨j+1,by omega,by omega,λi hi=>?_,by rw[hs];exact C⟩ (by omega)⟩))
   rcases Nat.lt_or_ge i j with h|h
   ·exact jU i h
   ·rw[show i=j by omega];exact qf
 ·have hc:=of_decide_eq_false hc
  obtain rfl:j=k:=by omega
  exact .inl ⟨HB.2 jU,out,rfl,C.boxed.mono λw h=>vO h⟩
theorem RV{k:Nat}{b:List B8}{n:Nat}(h:384*k<=n):dh 12 k (b.take n)=dh 12 k b:=by
 unfold dh
 refine List.map_congr_left λi hi=>?_
 have hi:=List.mem_range.1 hi
 unfold fh
 rw[List.drop_take,List.take_take,Nat.min_eq_left (by omega)]
theorem PW(x:ag)(fs:List (List Int))(hl:fs.length<=100)(hp:mZ fs)(w:World)(hx:dj w x fs):Ok Pr abe [.slice x.a x.n x.c] w λv w'=>iN w w' v (rN fs):=by
 refine aC Tryz.func232 (L:=[(3,[(3,.sl),(4,.int .i64)])]) ?_
 have aT:=hx.len
 refine eZ 0 fs.length (λi (o:ag) w'=>ah w [] w' [.row aE 1 o (aG ((fs.take i).flatMap sW))]) rfl (by omega) (by simpa[aG]using (ah.start w).dy aE 1) ?_ ?_
 ·intro again i o w1 _ hi H aB
  have hA:((fs.take i).flatMap sW).length<=384*100:=by
   have:=BZ (fs:=fs.take i) λl hl=>hp l (List.mem_of_mem_take hl)
   unfold rN at this
   rw[this,List.length_take]
   omega
  have nX:=(H.bytes 0 rfl).len
  refine ite_true (decide_eq_true (by omega)) ((hx.av H.mod).ld (i:=i) hi rfl λy hy=>?_)
  rw[SB _ _ _ hi]at aB
  have hP:=hp.get hi
  generalize fs.getD i []=f at*
  have Be:=hP.len
  refine an (QN 12 (by omega) (by omega) y f (by omega) (U5 hP) _ hy) ?_
  rintro _ w2 ⟨z,rfl,hz,m⟩
  rw[show qc 12 f=sW f by unfold sW;rfl]at hz
  have H:=H.bg m hz
  have gR:=hz.bytes.len
  have:=Lc Be
  refine aS (H.iX 0 cg rfl hz.bytes (by omega) λo' w3 H _=>⟨⟨by omega,by omega⟩,aB o' w3 H.front⟩)
 ·intro again o w1 H
  rw[List.take_of_length_le (Nat.le_refl _)]at H
  exact ite_false (decide_eq_false (by omega)) ⟨o,rfl,H.cm 0 rfl,H.mod⟩
theorem KB(set:Int)(x:ag)(b:List B8)(w:World)(hx:Bytes w x b):Ok Pr aeV [.int .i64 set,.slice x.a x.n x.c] w λv w'=>v=.int .i64 (fE set b)/\Mod [] w w':=by
 refine aC Tryz.func197 ?_
 have aT:=hx.len
 have nP:=hx.cap
 refine an (J0 set w) ?_
 rintro _ w1 ⟨rfl,m1⟩
 refine⟨_,rfl,_,rfl,_,rfl,_,rfl,rfl,?_⟩
 unfold fE
 cases bk:isSet set with
 |false=>
  have hA:dY set=0:=by unfold dY;rw[bk];rfl
  rw[hA,if_neg (by decide)]
  exact ite_true rfl ⟨rfl,m1⟩
 |true=>
  have hg:=iA bk
  have hk:=hg.k
  have hA:dY set=384*(bJ set).k+32:=by unfold dY;rw[if_pos bk]
  rw[if_pos rfl]
  refine ite_false (decide_eq_false (by omega)) ?_
  by_cases hn:b.length=dY set
  case neg=>
   rw[if_neg hn]
   exact ite_true (by rw[decide_eq_false (show ¬((x.n:Nat):Int)=((dY set:Nat):Int) by omega)];rfl) ⟨rfl,m1⟩
  rw[if_pos hn]
  refine ite_false (by rw[decide_eq_true (show((x.n:Nat):Int)=((dY set:Nat):Int) by omega)];rfl) ⟨⟨by omega,by omega⟩,uq (384*(bJ set).k) (by omega) (by omega) λz hz kz=>?_⟩
  have kz:=kz _ b (hx.av m1) (by omega)
  have eR:dh 12 (bJ set).k (b.take (384*(bJ set).k))=dh 12 (bJ set).k b:=RV (by omega)
  have eO:jt 12 (bJ set).k (b.take (384*(bJ set).k))=jt 12 (bJ set).k b:=by unfold jt;rw[eR]
  refine an (J1 (bJ set).k (by omega) z _ (by rw[List.length_take];omega) _ kz) ?_
  rw[eO]
  rintro _ w2 (⟨cI,out,rfl,hG⟩|⟨cr,rfl,m2⟩)
  ·rw[if_pos cI]
   exact⟨_,rfl,_,rfl,_,rfl,rfl,ite_false rfl ⟨rfl,m1.trans hG.mod⟩⟩
  ·rw[if_neg (by rw[cr];decide)]
   exact⟨_,rfl,⟨none,0,0⟩,rfl,_,rfl,rfl,ite_true rfl ⟨rfl,m1.trans m2⟩⟩
theorem Rj(k:Nat)(hk:k<=100)(x:ag)(bV:List B8)(hr:bV.length=32)(i:Nat)(gl:Bool)(w:World)(hx:Bytes w x bV):Ok Pr ae6 [.slice x.a x.n x.c,.int .i64 (k:Int),.int .i64 (i:Int),.bool gl] w λv w'=>EC w w' v (jT bV k gl i):=by
 refine aC Tryz.func231 (J:=[(8,[(11,.int .i64),(12,.int .i64)])]) (L:=[(3,[(9,.sl),(10,.int .i64)])]) ?_
 refine eZ 0 k (λj (row:ag) w'=>fD cl jA w [] [] w' row (jT bV j gl i)) rfl (by omega) (fD.start (ah.start w)) ?_ ?_
 ·intro gN j row w3 _ hj D eJ
  have vf:jT bV (j+1) gl i=jT bV j gl i++[if gl=true then nU (bV++[BitVec.ofInt 8 (i:Int),BitVec.ofInt 8 (j:Int)]) else nU (bV++[BitVec.ofInt 8 (j:Int),BitVec.ofInt 8 (i:Int)])]:=xb _ _
  rw[vf]at eJ
  have zb:=hx.av D.mod
  have uZ:=(B3 bV j gl i).1
  refine ite_true (decide_eq_true (by omega)) (vN λgo aV=>?_)
  cases gl with
  |true=>
   refine ite_true rfl (aV _ _ _ ?_)
   rw[oo,oo]
   refine an (QD x bV hr _ _ _ zb) ?_
   rintro _ w4 ⟨y,rfl,hy,m4⟩
   exact⟨_,rfl,y,rfl,_,rfl,rfl,D.add (dU.yf hy m4 λw2 h=>h.bq) rB (by omega) λAx w5 D=>⟨⟨by omega,by omega⟩,eJ Ax w5 D⟩⟩
  |false=>
   refine ite_false rfl (aV _ _ _ ?_)
   rw[oo,oo]
   refine an (QD x bV hr _ _ _ zb) ?_
   rintro _ w4 ⟨y,rfl,hy,m4⟩
   exact⟨_,rfl,y,rfl,_,rfl,rfl,D.add (dU.yf hy m4 λw2 h=>h.bq) rB (by omega) λAx w5 D=>⟨⟨by omega,by omega⟩,eJ Ax w5 D⟩⟩
 ·intro gN row w3 D
  exact ite_false (decide_eq_false (by omega)) ⟨row,rfl,D.boxed.mono λw h=>vO h⟩
theorem Km(eta:Nat)(he:eta=2\/eta=3)(x:ag)(ak:List B8)(from_ many:Nat)(hm:many<=100)(hf:from_<=100)(hs:ak.length=32)(w:World)(hx:Bytes w x ak):
  Ok Pr adC [.int .i64 (eta:Int),.slice x.a x.n x.c,.int .i64 (from_:Int),.int .i64 (many:Int)] w λv w'=>EC w w' v (iK (ki eta ak from_ many)):=by
 refine aC Tryz.func228 (L:=[(3,[(9,.sl),(10,.int .i64)])]) ?_
 refine eZ 0 many (λi (out:ag) w'=>fD cl jA w [] [] w' out (iK (ki eta ak from_ i))) rfl (by omega) (fD.start (ah.start w)) ?_ ?_
 ·intro again i out w2 _ hi C aB
  refine ite_true (decide_eq_true (by omega)) ⟨⟨by omega,by omega⟩,?_⟩
  rw[show(from_:Int)+(i:Int)=((from_+i:Nat):Int) by omega,oo]
  refine an (JW (eta:Int) x ak _ (by omega) _ (hx.av C.mod)) ?_
  rintro _ w3 ⟨y,rfl,hy,m3⟩
  have e:ki eta ak from_ (i+1)=ki eta ak from_ i++[kj (eta:Int) ak (BitVec.ofInt 8 ((from_+i:Nat):Int))]:=xb _ _
  have e2:iK (ki eta ak from_ (i+1))=iK (ki eta ak from_ i)++[oI (kj (eta:Int) ak (BitVec.ofInt 8 ((from_+i:Nat):Int)))]:=by rw[e];unfold iK;rw[List.map_append];rfl
  rw[e2]at aB
  refine⟨_,rfl,y,rfl,_,rfl,rfl,an (QG y _ (Ts he hs _) _ hy.bq) ?_⟩
  rintro _ w4 h4
  obtain⟨z,rfl,hz⟩:=h4.EV
  exact aS ((C.frame m3).add hz rB (by rw[xM,vI];omega) λfJ w4 C=>⟨⟨by omega,by omega⟩,aB fJ w4 C⟩)
 ·intro again out w2 C
  exact ite_false (decide_eq_false (by omega)) ⟨out,rfl,C.boxed.mono λw h=>vO h⟩
theorem JJ(d:Nat)(h1:1<=d)(hd:d<=11)(x:ag)(f:List Int)(hf:f.length=256)(w:World)(hx:cl w x f):Ok Pr Zy [.int .i64 (d:Int),.slice x.a x.n x.c] w λv w'=>iN w w' v (g8 d f):=by
 refine aC Tryz.func236 (L:=[(3,[(5,.sl),(6,.int .i64)])]) ?_
 have aT:=hx.len
 have hN:=Gm d (pG d f)
 have zf:(pG d f).length=256:=by unfold pG;rw[List.length_map,hf]
 have mb:∀i,i<256->(pG d f).getD i 0=(uY d (f.getD i 0):Int):=λi hi=>getD_map' (by omega)
 have Nh:=Up d f
 rw[show g8 d f=qc d (pG d f) by unfold g8;rfl]
 generalize pG d f=N at*
 refine eZ 0 256 (λi (xs:ag) w'=>ah w [] w' [.row aU 1 xs (bf (N.take i))]) rfl (by omega) (by simpa[bf]using (ah.start w).dy aU 1) ?_ ?_
 ·intro again i xs w3 _ hi H aB
  have hn:=(H.bq 0 rfl).len
  rw[List.length_take,Nat.min_eq_left (by omega)]at hn
  refine ite_true (decide_eq_true (by omega)) ((hx.av H.mod).ld (i:=i) (by omega) rfl (an (aaq d h1 hd _ _) ?_))
  rintro _ w4 ⟨rfl,m⟩
  have H:=H.frame m
  rw[<- mb i hi]
  refine bH (H.rK 0 ou rfl (by omega) λOd w5 H _=>⟨⟨by omega,by omega⟩,aB Od w5 ?_⟩)
  rw[ic _ _ (by omega) 0]
  exact H
 ·intro again xs w3 H
  rw[List.take_of_length_le (by omega)]at H
  refine ite_false (decide_eq_false (by omega)) (an (QN d h1 (by omega) xs N (by omega) Nh _ (H.bq 0 rfl)) ?_)
  rintro _ w5 ⟨y,rfl,hy,m5⟩
  have H:=H.bg m5 hy
  exact aS ⟨y,rfl,H.cm 1 rfl,H.mod⟩
theorem O7(d:Nat)(h1:1<=d)(hd:d<=11)(x:ag)(b:List B8)(hb:b.length=32*d)(w:World)(hx:Bytes w x b):Ok Pr Y3 [.int .i64 (d:Int),.slice x.a x.n x.c] w λv w'=>kR w w' v (nM d (unpack d b)):=by
 refine aC Tryz.func240 (L:=[(3,[(6,.int .i64)])]) ?_
 refine an (PL d h1 (by omega) x b (by omega) w hx) ?_
 rintro _ w1 ⟨y,rfl,hy,m1⟩
 have hU:(unpack d b).length=256:=by rw[zw,hb,show 8*(32*d)=256*d by omega,Nat.mul_div_cancel _ h1]
 have bB:=DJ d b
 unfold nM
 generalize unpack d b=U at*
 have H:=(ah.start w).bg m1 hy
 have j3:=(H.bq 0 rfl).len
 have h2:=vV hd
 refine aS (bG 0 256 (λj w'=>ah w [] w' [.row aU 1 y (bf ((U.take j).map (λx=>lK d x.toNat)++U.drop j))]) rfl (by omega) (by simpa using H) ?_ ?_)
 ·intro again j w2 _ hj H aB
  have qn:((U.take j).map (λx=>lK d x.toNat)++U.drop j).length=256:=by simp only[List.length_append,List.length_map,List.length_take,List.length_drop];omega
  have ve:((U.take j).map (λx=>lK d x.toNat)++U.drop j).getD j 0=U.getD j 0:=by
   rw[List.getD_eq_getElem?_getD,Cb _ _ _ (by omega),List.getD_eq_getElem?_getD]
  obtain⟨h3,h4⟩:=bB _ (vR (l:=U) (i:=j) (by omega) 0)
  refine ite_true (decide_eq_true (by omega)) ((H.bq 0 rfl).ld (i:=j) (by omega) rfl ?_)
  rw[ve]
  have e:=Ca (λx:Int=>lK d x.toNat) U j (by omega) 0
  obtain⟨u,hu⟩:∃u:Nat,U.getD j 0=(u:Int):=⟨(U.getD j 0).toNat,by omega⟩
  rw[hu,Int.toNat_natCast]at e
  rw[hu]
  refine an (ZJ d h1 hd u (by omega) _) ?_
  rintro _ w3 ⟨rfl,m3⟩
  have H:=H.frame m3
  refine bH (H.mu 0 (i:=j) rfl (by omega) rfl λw4 H=>⟨⟨by omega,by omega⟩,aB w4 ?_⟩)
  rw[<- e]
  exact H
 ·intro again w2 H
  rw[List.take_of_length_le (by omega),List.drop_of_length_le (by omega),List.append_nil]at H
  exact ite_false (decide_eq_false (by omega)) ⟨y,rfl,H.cm 0 rfl,H.mod⟩
end Go.Proofs.YtgjoehgomjgckaaGreatDoor
end
section
set_option linter.unusedVariables false
set_option linter.unusedSimpArgs false
namespace Go.Proofs.YtgjoehgomjgckaaGreatDoor
open Go Go.Ev
set_option maxRecDepth 20000
set_option linter.unusedVariables false
theorem acP(set:Int)(x:ag)(d:List B8)(hd:d.length<=100000)(w:World)(hx:Bytes w x d):
  Ok Pr adw [.int .i64 set,.slice x.a x.n x.c] w λv w'=>∃(y z:ag),v=.tuple ⟨[.slice y.a y.n y.c,.slice z.a z.n z.c,.int .i64 (pI set d.length)]⟩/\
   ah w [] w' [.row aE 1 y (aG (kG set d)),.row aE 1 z (aG (pJ set d))]:=by
 refine aC Tryz.func195 (J:=[(7,[(9,.sl)])]) (L:=[(10,[(12,.sl),(13,.int .i64)])]) ?_
 rw[Ea]
 have aT:=hx.len
 have hC:pI set d.length=if isSet set=true then (if d.length=32 then 0 else 3) else 2:=rfl
 have hV:kG set d=if pI set d.length=0 then wm (bJ set) (gK (bJ set) d) else []:=by unfold kG;rfl
 have hS:pJ set d=if pI set d.length=0 then wo (bJ set) (gK (bJ set) d) else []:=by unfold pJ;rfl
 have Bf:=λh:isSet set=true=>iA h
 refine an (GR set w) ?_
 rintro _ w1 ⟨rfl,m1⟩
 have H:=(ah.start w).frame m1
 generalize kG set d=V at*
 generalize pJ set d=K at*
 generalize pI set d.length=C at*
 generalize bJ set=s at*
 refine⟨_,rfl,HI ⟨_,rfl,rfl,H.nw λp w2 H _=>H.sF 0 rfl rfl λw3 H=>?_⟩⟩
 have H:ah w [] w3 [.aj p s.we xH]:=H
 have no:∀(c:Int),c≠0->C=c->∃(y z:ag),Value.tuple ⟨[.slice none 0 0,.slice none 0 0,.int .i64 c]⟩=.tuple ⟨[.slice y.a y.n y.c,.slice z.a z.n z.c,.int .i64 C]⟩/\
   ah w [] w3 [.row aE 1 y (aG V),.row aE 1 z (aG K)]:=by
  intro c hc cX
  rw[cX]at hV hS
  rw[if_neg hc]at hV hS
  subst hV hS
  rw[cX]
  exact⟨⟨none,0,0⟩,⟨none,0,0⟩,rfl,(((ah.start w).dy aE 1).dy aE 1).frame H.mod⟩
 cases bk:isSet set with
 |false=>
  rw[bk,if_neg (by decide)]at hC
  exact ite_true rfl (no 2 (by decide) hC)
 |true=>
  rw[bk,if_pos rfl]at hC
  refine ite_false rfl ?_
  by_cases fe:d.length=32
  case neg=>
   rw[if_neg fe]at hC
   exact ite_true (by rw[decide_eq_false (show ¬((x.n:Nat):Int)=32 by omega)];rfl) (no 3 (by decide) hC)
  rw[if_pos fe]at hC
  clear no
  subst hC
  rw[if_pos rfl]at hV hS
  subst hV hS
  have hG:=Bf bk
  have hk:=hG.k
  refine ite_false (by rw[decide_eq_true (show((x.n:Nat):Int)=32 by omega)];rfl) (fo λgo aV=>?_)
  have FG:(gK s d).length=64:=ot 72 6 _ 64 (by omega)
  have eG:gK s d=cj 72 6 (d++[BitVec.ofNat 8 s.k]) 64:=rfl
  have rest:∀(g:ag) (w4:World),ah w [] w4 [.aj p s.we xH,.row aE 1 g (aG (gK s d))]->go g w4:=by
   intro g w4 H
   refine aV _ _ ?_
   clear eG
   generalize gK s d=G at*
   have H:=H.drew
   have Of:=(H.bytes 1 rfl).len
   have hgc:=(H.bytes 1 rfl).cap
   refine H.au 0 rfl (ai p 1) rfl (oz 32 rfl (by omega) λzk hzk kF=>H.au 0 rfl (ai p 0) rfl (H.au 0 rfl (ai p 1) rfl (oz 32 rfl (by omega) λzl gR tD=>H.au 0 rfl (ai p 0) rfl (H.au 0 rfl (ai p 0) rfl ?_))))
   have kF:=λw' (h:Bytes w' g G)=>kF w' G h (by omega)
   have tD:=λw' (h:Bytes w' g G)=>tD w' G h (by omega)
   have Xh:(G.drop 32).length=32:=by rw[List.length_drop];omega
   have uZ:(G.take 32).length=32:=by rw[List.length_take];omega
   have Jp:s.e1=2\/s.e1=3:=hG.e1
   refine an (Km s.e1 Jp zk (G.drop 32) 0 s.k (by omega) (by omega) Xh _ (kF _ (H.bytes 1 rfl))) ?_
   rintro _ w5 ⟨y2,rfl,lJ⟩
   obtain⟨f2,H2⟩:=H.dz lJ
   refine aS ⟨H.jk 0 rfl lJ.mod 0,H.jk 0 rfl lJ.mod 0,H.jk 0 rfl lJ.mod 1,an (Km s.e1 Jp zl (G.drop 32) s.k s.k (by omega) (by omega) Xh _ (tD _ (H2.bytes 1 rfl))) ?_⟩
   rintro _ w6 ⟨y4,rfl,FH⟩
   obtain⟨f4,H⟩:=H2.dz FH
   clear H2
   have kH:=IC hG FG
   have xe:=VH hG FG
   have hS:dj w6 y2 (sK s G):=H.box 2 rfl
   have hE:dj w6 y4 (eK s G):=H.box 3 rfl
   have eS:wm s G=rN (tK s.k (G.take 32) (sK s G) (eK s G))++G.take 32:=by unfold wm;rfl
   have eO:wo s G=rN (sK s G):=by unfold wo;rfl
   rw[eS,eO]
   clear eS eO
   obtain⟨SK,FJ⟩:∃z,z=sK s G:=⟨_,rfl⟩
   rw[<- FJ]at hS kH⊢
   generalize eK s G=EK at*
   refine aS ?_
   have rows:=λi=>B3 (G.take 32) s.k false i
   obtain⟨f,hf⟩:∃f:Nat->List Int,f=λi=>kB (kX (jT (G.take 32) s.k false i) SK) (EK.getD i []):=⟨_,rfl⟩
   have Oi:tK s.k (G.take 32) SK EK=(List.range s.k).map f:=by rw[hf];rfl
   refine eZ 0 s.k (λi (out:ag) w'=>fD cl jA w6 [] [] w' out ((List.range i).map f)) rfl (by omega) (fD.start (ah.start w6)) ?_ ?_
   ·intro again i out cH _ hi C aB
    have mi:=C.mod.trans (Mod.drew [] cH)
    rw[xb]at aB
    have Hx:=(H.frame C.mod)
    refine Hx.au 0 rfl (ai p 0) rfl (ite_true (decide_eq_true (by omega)) (uq 32 rfl (by omega) λzr Jl hr=>?_))
    have hr:=λw' (h:Bytes w' g G)=>hr w' G h (by omega)
    have Hx:=Hx.drew
    refine Hx.au 0 rfl (ai p 0) rfl ((hE.av mi).ld (i:=i) (by omega) rfl λe he=>an (Rj s.k (by omega) zr (G.take 32) uZ i false _ (hr _ (Hx.bytes 1 rfl))) ?_)
    rintro _ eg ⟨q,rfl,hq⟩
    refine aS ⟨(hE.av mi).kept (by omega) hq.mod,an (Gz q y2 _ SK (by rw[(rows i).1,kH.1]) (by rw[(rows i).1];omega) (by rw[(rows i).1];omega) (rows i).2 kH.2 _ hq.now (hS.av (mi.trans hq.mod))) ?_⟩
    rintro _ fQ ⟨d1,rfl,iG,jJ⟩
    refine aS ⟨(hE.av (mi.trans hq.mod)).kept (by omega) jJ,an (Gy d1 e _ _ (xX _ _ (by rw[(rows i).1,kH.1])) (xe.2.get (by omega)) _ iG.bq (he.av (hq.mod.trans jJ))) ?_⟩
    rintro _ ir h15
    obtain⟨t,rfl,ht⟩:=h15.EV
    have C:=((C.frame (Mod.drew [] cH)).frame hq.mod).frame jJ
    have ef:kB (kX (jT (G.take 32) s.k false i) SK) (EK.getD i [])=f i:=by rw[hf]
    rw[ef]at ht
    exact aS (C.add ht rB (by rw[List.length_map,List.length_range];omega) λfJ gH C'=>⟨⟨by omega,by omega⟩,aB fJ gH C'⟩)
   ·intro again out cH C
    rw[<- Oi]at C
    obtain⟨f6,H⟩:=H.dz (C.boxed.mono λw h=>vO h)
    refine H.au 0 rfl (ai p 0) rfl (ite_false (decide_eq_false (by omega)) (uq 32 rfl (by omega) λzr Jl hr=>?_))
    have hr:=λw' (h:Bytes w' g G)=>hr w' G h (by omega)
    have H:=H.drew
    have hT:dj cH.drew out (tK s.k (G.take 32) SK EK):=H.box 4 rfl
    refine an (PW out _ (by rw[Eo];omega) (ED _ _ _ _) _ hT) ?_
    rintro _ eg ⟨a,rfl,ha,gA⟩
    have H:=H.bg gA ha
    have nX:=(H.bytes 5 rfl).len
    have FL:=BZ (ED s.k (G.take 32) SK EK)
    rw[Eo]at FL
    refine aS (H.iX 5 cg rfl (hr _ (H.bytes 1 rfl)) (by omega) λa' fQ H _=>?_)
    refine an (PW y2 SK (by omega) kH.2 _ (by rw[FJ];exact H.box 2 rfl)) ?_
    rintro _ ir ⟨b,rfl,hb,kI⟩
    have H:=H.bg kI hb
    exact aS ⟨a',b,rfl,H.drop 5⟩
  have H:=H.drew
  refine H.au 0 rfl (ai p 0) rfl ?_
  rw[BY]
  refine⟨H.oD cg (hx.av H.mod) (by omega) λy w4 H1 hy=>?_,H.nw λp3 w4 H1 _=>H1.oD cg (hx.av H1.mod) (by omega) λy w5 H2 hy=>?_⟩
  ·refine⟨gm (H.aj 0 rfl) (H1.aj 0 rfl) (fS _ _),H1.uL 1 cg rfl rfl (by intro u hu;rw[List.mem_singleton.1 hu];rfl) (by omega) (by omega) λy' w5 H2 _=>?_⟩
   have hb:Bytes w5 y' (d++[BitVec.ofNat 8 s.k]):=by
    have h:=H2.cG 1 rfl
    unfold Bytes
    rw[GJ]
    exact h
   refine an (F9 y' _ _ hb (by simp;omega)) ?_
   rintro _ w6 ⟨g,rfl,hg,m6⟩
   rw[<- eG]at hg
   exact aS (rest g w6 ((H2.bg m6 hg).two 0 2 rfl rfl (by omega)))
  ·refine⟨gm (H1.aj 0 rfl) (H2.aj 0 rfl) (fS _ _),?_⟩
   have A7:=H2.BW 1 (l:=[BitVec.ofNat 8 s.k]) rfl
   refine H2.iX (x:=⟨some ⟨p3,0,none⟩,1,1⟩) 2 cg rfl A7 (by show y.n+1<=_;omega) λy' w6 H3 _=>?_
   refine an (F9 y' _ _ (H3.bytes 2 rfl) (by simp;omega)) ?_
   rintro _ w7 ⟨g,rfl,hg,m7⟩
   rw[<- eG]at hg
   exact aS (rest g w7 ((H3.bg m7 hg).two 0 3 rfl rfl (by omega)))
theorem TB{m:List B8}(h:m.length=32){i:Nat}(hi:i<256):(yF m).getD i 0=1665*(bit m i:Int)/\bit m i<=1:=by
 have e:(unpack 1 m).getD i 0=((bit m i:Nat):Int):=by
  unfold unpack bit
  rw[List.getD_eq_getElem?_getD,List.getElem?_map,List.getElem?_range (by omega)]
  rfl
 have bB:=DJ 1 m _ (vR (l:=unpack 1 m) (i:=i) (by rw[zw];omega) 0)
 rw[e]at bB
 refine⟨?_,by omega⟩
 unfold yF
 rw[getD_map' (by rw[zw];omega),e,Int.mul_comm]
theorem ajB{s:gJ}{r:List B8}{i:Nat}(h:i<s.k+1):(nK s r).getD i []=kj (s.e2:Int) r (BitVec.ofInt 8 ((s.k+i:Nat):Int)):=by
 unfold nK ki
 rw[List.getD_eq_getElem?_getD,List.getElem?_map,List.getElem?_range h];rfl
theorem QO(set:Int)(x xm xr:ag)(b m r:List B8)(w:World)(hx:Bytes w x b)(hm:Bytes w xm m)(hr:Bytes w xr r):
  Ok Pr adx [.int .i64 set,.slice x.a x.n x.c,.slice xm.a xm.n xm.c,.slice xr.a xr.n xr.c] w λv w'=>oG aE 1 w w' v (aG (lP set b m r)) (tJ set b m r):=by
 refine aC Tryz.func199 (L:=[(12,[(17,.sl),(18,.int .i64)]),(20,[(25,.int .i64)])]) ?_
 rw[Ea]
 have aT:=hx.len
 have nP:=hx.cap
 have Fp:=hm.len
 have uZ:=hr.len
 have hC:tJ set b m r=if fE set b=0 then (if m.length=32/\r.length=32 then 0 else 3) else fE set b:=rfl
 have hV:lP set b m r=if tJ set b m r=0 then wq (bJ set) b m r else []:=by unfold lP;rfl
 generalize tJ set b m r=C at*
 generalize lP set b m r=V at*
 refine an (KB set x b w hx) ?_
 rintro _ w1 ⟨rfl,m1⟩
 have no:∀(e:Int),e≠0->C=e->oG aE 1 w w1 (.tuple ⟨[.slice none 0 0,.int .i64 e]⟩) (aG V) C:=by
  intro e he vg
  rw[vg,if_neg he]at hV
  subst hV
  rw[vg]
  exact⟨⟨none,0,0⟩,rfl,Own.nil _ _ _ _,m1⟩
 refine bH ?_
 by_cases h0:fE set b=0
 case neg=>
  rw[if_neg h0]at hC
  exact ite_true (by rw[decide_eq_false h0];rfl) (no _ h0 hC)
 obtain⟨bk,fc,cI⟩:=DU h0
 have hG:=iA bk
 have hk:=hG.k
 rw[if_pos h0]at hC
 refine ite_false (by rw[decide_eq_true h0];rfl) ?_
 by_cases fe:m.length=32/\r.length=32
 case neg=>
  rw[if_neg fe]at hC
  refine ite_true ?_ (no 3 (by decide) hC)
  by_cases h:m.length=32
  ·rw[decide_eq_false (show ¬((xr.n:Nat):Int)=32 by omega),Bool.not_false,Bool.or_true]
  ·rw[decide_eq_false (show ¬((xm.n:Nat):Int)=32 by omega)];rfl
 rw[if_pos fe]at hC
 rw[hC,if_pos rfl]at hV
 subst hV
 rw[hC]
 clear hC no
 obtain⟨fe,oQ⟩:=fe
 refine ite_false (by rw[decide_eq_true (show((xr.n:Nat):Int)=32 by omega),decide_eq_true (show((xm.n:Nat):Int)=32 by omega)];rfl) (an (GR set w1) ?_)
 rintro _ w2 ⟨rfl,m2⟩
 have H:=(ah.start w).frame (m1.trans m2)
 rw[bk]
 generalize bJ set=s at*
 refine⟨_,rfl,HI ⟨_,rfl,rfl,H.nw λp w3 H _=>H.sF 0 rfl rfl λw5 H=>?_⟩⟩
 have H:ah w [] w5 [.aj p s.we xH]:=H
 refine H.au 0 rfl (ai p 0) rfl ⟨⟨by omega,by omega⟩,uq (384*s.k) (by omega) (by omega) λxt hxt kt=>?_⟩
 have kt:=kt _ b (hx.av H.mod) (by omega)
 refine an (J1 s.k (by omega) xt _ (by rw[List.length_take];omega) _ kt) ?_
 have eR:dh 12 s.k (b.take (384*s.k))=dh 12 s.k b:=RV (by omega)
 have eO:jt 12 s.k (b.take (384*s.k))=jt 12 s.k b:=by unfold jt;rw[eR]
 rw[eO,eR]
 rintro _ w6 (⟨_,yt,rfl,Bh⟩|⟨cr,_⟩)
 case inr=>rw[cr]at cI;cases cI
 obtain⟨f0,H⟩:=H.dz Bh
 have Jp:s.e1=2\/s.e1=3:=hG.e1
 have xk:=hG.e2
 refine⟨_,rfl,_,rfl,_,rfl,rfl,H.au 0 rfl (ai p 0) rfl ⟨⟨by omega,by omega⟩,oz (384*s.k) (by omega) (by omega) λzr Jl kr=>H.au 0 rfl (ai p 1) rfl (H.au 0 rfl (ai p 0) rfl ?_)⟩⟩
 have kr:=λw' h=>kr w' b h (by omega)
 have Ni:(b.drop (384*s.k)).length=32:=by rw[List.length_drop];omega
 refine an (Km s.e1 Jp xr r 0 s.k (by omega) (by omega) oQ _ (hr.av H.mod)) ?_
 rintro _ w7 ⟨y2,rfl,lJ⟩
 obtain⟨f2,H⟩:=H.dz lJ
 have kH:=VI hG oQ
 have xe:=VJ hG oQ
 have yG:=Hg cI
 have lT:=BN 12 s.k b
 have Xi:=λi (h:i<s.k+1)=>ajB (r:=r) h
 have H:ah w [] w7 [.aj p s.we xH,.box f0 λw=>dj w yt (dh 12 s.k b),.box f2 λw=>dj w y2 (yK s r)]:=H
 have hT:dj w7 yt (dh 12 s.k b):=H.box 1 rfl
 have hS:dj w7 y2 (yK s r):=H.box 2 rfl
 have eC:wq s b m r=((List.range s.k).flatMap λi=>g8 s.du (cU s (b.drop (384*s.k)) (yK s r) (nK s r) i))++g8 s.dv (cV s (dh 12 s.k b) (yK s r) (nK s r) m):=by unfold wq;rfl
 rw[eC]
 clear eC kt eR eO
 generalize yK s r=Y at*
 generalize nK s r=N at*
 generalize b.drop (384*s.k)=bV at*
 generalize dh 12 s.k b=T at*
 have rows:=λi=>B3 bV s.k true i
 have FM:=hG.du
 have FN:=hG.dv
 refine aS ?_
 obtain⟨f,hf⟩:∃f:Nat->List Int,f=cU s bV Y N:=⟨_,rfl⟩
 rw[<- hf]
 have xg:∀i,Pq (f i):=λi=>by rw[hf];exact MD _ _ _ _ _
 refine eZ 0 s.k (λi (out:ag) w'=>ah w7 [] w' [.row aE 1 out (aG ((List.range i).flatMap λi=>g8 s.du (f i)))]) rfl (by omega) (by simpa[aG]using (ah.start w7).dy aE 1) ?_ ?_
 ·intro again i out bQ _ hi D aB
  have hs:((List.range (i+1)).flatMap λi=>g8 s.du (f i))=((List.range i).flatMap λi=>g8 s.du (f i))++g8 s.du (f i):=by rw[List.range_succ,List.flatMap_append];simp
  rw[hs]at aB
  have hlen:=DB s.du f xg i
  have MF:32*s.du*i<=32*11*4:=Nat.mul_le_mul (by omega) (by omega)
  have nX:=(D.bytes 0 rfl).len
  generalize ((List.range i).flatMap λi=>g8 s.du (f i))=A at*
  have Hw:=H.frame D.mod
  refine Hw.au 0 rfl (ai p 0) rfl (ite_true (decide_eq_true (by omega)) (Hw.au 0 rfl (ai p 2) rfl (Hw.au 0 rfl (ai p 0) rfl ⟨⟨by omega,by omega⟩,?_⟩)))
  rw[show(s.k:Int)+(i:Int)=((s.k+i:Nat):Int) by omega,oo]
  refine an (JW (s.e2:Int) xr r _ (by omega) _ (hr.av Hw.mod)) ?_
  rw[<- Xi i (by omega)]
  rintro _ cH ⟨e,rfl,he,gC⟩
  have D:=D.bg gC he
  have Hw:=Hw.frame gC
  refine⟨_,rfl,e,rfl,_,rfl,rfl,Hw.au 0 rfl (ai p 0) rfl (an (Rj s.k (by omega) zr bV Ni i true _ (kr _ (hx.av Hw.mod))) ?_)⟩
  rintro _ eg ⟨q,rfl,hq⟩
  obtain⟨fq,D⟩:=D.dz hq
  have mi:=D.mod
  refine aS (an (Gz q y2 _ Y (by rw[(rows i).1,kH.1]) (by rw[(rows i).1];omega) (by rw[(rows i).1];omega) (rows i).2 kH.2 _ (D.box 2 rfl) (hS.av mi)) ?_)
  rintro _ fQ ⟨d1,rfl,iG,jJ⟩
  have D:=D.bg jJ iG
  refine aS (an (Kj d1 _ (xX _ _ (by rw[(rows i).1,kH.1])) _ iG.bq) ?_)
  rintro _ ir ⟨d2,rfl,j5,kI⟩
  have D:=D.bg kI j5
  refine aS (an (Gy d2 e _ _ (BX _) (xe.2.get (by omega)) _ j5.bq (D.bq 1 rfl)) ?_)
  rintro _ gH ⟨d3,rfl,lQ,xh⟩
  have D:=D.bg xh lQ
  have ef:kB (kS (kX (jT bV s.k true i) Y)) (N.getD i [])=f i:=by rw[hf];rfl
  rw[ef]at lQ
  have Hw:=H.frame D.mod
  refine aS (Hw.au 0 rfl (ai p 3) rfl (an (JJ s.du (by omega) (by omega) d3 (f i) (xg i).len _ lQ.bq) ?_))
  rintro _ lI ⟨z,rfl,hz,ng⟩
  have D:=D.bg ng hz
  have gR:=hz.bytes.len
  have bZ:=zX (d:=s.du) (xg i).len
  exact aS (D.iX 0 cg rfl hz.bytes (by omega) λo' pF D _=>⟨⟨by omega,by omega⟩,aB o' pF D.front⟩)
 ·intro again out bQ D
  have hlen:=DB s.du f xg s.k
  have MF:32*s.du*s.k<=32*11*4:=Nat.mul_le_mul (by omega) (by omega)
  have nX:=(D.bytes 0 rfl).len
  generalize ((List.range s.k).flatMap λi=>g8 s.du (f i))=A at*
  have H:=H.join D
  have mi:=D.mod
  refine H.au 0 rfl (ai p 0) rfl (ite_false (decide_eq_false (by omega)) (H.au 0 rfl (ai p 2) rfl (H.au 0 rfl (ai p 0) rfl ⟨⟨by omega,by omega⟩,?_⟩)))
  rw[show 2*(s.k:Int)=((s.k+s.k:Nat):Int) by omega,oo]
  refine an (JW (s.e2:Int) xr r _ (by omega) _ (hr.av H.mod)) ?_
  rw[<- Xi s.k (by omega)]
  rintro _ cH ⟨e,rfl,he,gC⟩
  have H:=H.bg gC he
  refine⟨_,rfl,e,rfl,_,rfl,rfl,an (Gz yt y2 T Y (by omega) (by omega) (by omega) yG kH.2 _ (hT.av (mi.trans gC)) (hS.av (mi.trans gC))) ?_⟩
  rintro _ eg ⟨d1,rfl,iG,gA⟩
  have H:=H.bg gA iG
  refine aS (an (Kj d1 _ (xX _ _ (by omega)) _ iG.bq) ?_)
  rintro _ fQ ⟨d2,rfl,j5,jJ⟩
  have H:=H.bg jJ j5
  refine aS (an (Gy d2 e _ _ (BX _) (xe.2.get (by omega)) _ j5.bq (H.bq 4 rfl)) ?_)
  rintro _ ir ⟨d3,rfl,lQ,kI⟩
  have H:=H.bg kI lQ
  obtain⟨V0,Ox⟩:∃V0,V0=kB (kS (kX T Y)) (N.getD s.k []):=⟨_,rfl⟩
  have hVV:cV s T Y N m=kB V0 (yF m):=by rw[Ox];rfl
  rw[<- Ox]at H
  have Xj:Pq V0:=by rw[Ox];exact B9 _ _
  have pV:Pq (cV s T Y N m):=ME _ _ _ _ _
  have hN:∀i,i<256->(cV s T Y N m).getD i 0=(V0.getD i 0+1665*(bit m i:Int))%3329:=λi hi=>by
   rw[hVV]
   unfold kB
   rw[lW _ hi,(TB fe hi).1]
  generalize cV s T Y N m=V at*
  have W1:=(H.bq 7 rfl).len
  have wC:=Xj.len
  refine aS (bG 0 256 (λi w'=>ah w [] w' [.aj p s.we xH,.box f0 λw=>dj w yt T,.box f2 λw=>dj w y2 Y,.row aE 1 out (aG A),.row aU 1 e (bf (N.getD s.k [])),.row aU 1 d1 (bf (kX T Y)),.row aU 1 d2 (bf (kS (kX T Y))),.row aU 1 d3 (bf (fP (λk=>decide (k<i)) V0 V))]) rfl (by omega) ?_ ?_ ?_)
  ·rw[vQ wC (λi _=>decide_eq_false (by omega))];exact H
  ·intro gN i gH _ hi H aB
   have hlen:=nk (λk=>decide (k<i)) V0 V
   have H:=H.drew
   have ra:=Xj.get hi
   obtain⟨_,wY⟩:=TB fe hi
   refine ite_true (decide_eq_true (by omega)) ((H.bq 7 rfl).ld (i:=i) (by omega) rfl ?_)
   rw[nq (p:=λk=>decide (k<i)) hi (decide_eq_false (by omega))]
   refine an (Gw xm m i (by omega) (by omega) _ (hm.av H.mod)) ?_
   rintro _ lI ⟨rfl,hw⟩
   subst hw
   refine bH ⟨(H.bq 7 rfl).kept (i:=i) (by omega) (Mod.refl _ _),⟨by omega,by omega⟩,an (Re _ _ _) ?_⟩
   rintro _ pF ⟨rfl,hw⟩
   subst hw
   rw[<- hN i hi]
   refine bH (H.mu 7 (i:=i) rfl (by omega) rfl λqt H=>⟨⟨by omega,by omega⟩,aB qt ?_⟩)
   have e:=B7 (p:=λk=>decide (k<i)) (p':=λk=>decide (k<i+1)) (old:=V0) (new:=V) (i:=i) hi rfl (λk _=>by
    rw[Bool.eq_iff_iff];simp only[Bool.or_eq_true,decide_eq_true_eq,beq_iff_eq];omega)
   rw[<- e]
   exact H
  ·intro gN gH H
   rw[vU pV.len (λi hi=>decide_eq_true hi)]at H
   refine ite_false (decide_eq_false (by omega)) (H.au 0 rfl (ai p 4) rfl (an (JJ s.dv (by omega) (by omega) d3 V pV.len _ (H.bq 7 rfl)) ?_))
   rintro _ lI ⟨z,rfl,hz,ng⟩
   have H:=H.bg ng hz
   have gR:=hz.bytes.len
   have bZ:=zX (d:=s.dv) pV.len
   refine aS (H.iX 3 cg rfl hz.bytes (by omega) λo' pF H _=>?_)
   exact⟨o',rfl,H.cm 3 rfl,H.mod⟩
theorem acQ(set:Int)(x xc:ag)(b c:List B8)(w:World)(hx:Bytes w x b)(hc:Bytes w xc c):
  Ok Pr ady [.int .i64 set,.slice x.a x.n x.c,.slice xc.a xc.n xc.c] w λv w'=>oG aE 1 w w' v (aG (tL set b c)) (pK set b c):=by
 refine aC Tryz.func201 (L:=[(12,[(15,.sl),(16,.int .i64)])]) ?_
 rw[Ea]
 have aT:=hx.len
 have ze:=hc.len
 have sr:=hc.cap
 have hC:pK set b c=if isSet set=true then (if b.length=fm set/\c.length=jg set then (if jt 12 (bJ set).k b=true then 0 else 4) else 3) else 2:=rfl
 have hV:tL set b c=if pK set b c=0 then wu (bJ set) b c else []:=by unfold tL;rfl
 have hB:fm set=384*(bJ set).k:=rfl
 have hZ:jg set=32*((bJ set).du*(bJ set).k+(bJ set).dv):=rfl
 have Bf:=λh:isSet set=true=>iA h
 have hnn:=λh:isSet set=false=>Jj h
 have gQ:=J0 set
 have hof:=GR set
 generalize pK set b c=C at*
 generalize tL set b c=V at*
 generalize fm set=B at*
 generalize jg set=Z at*
 generalize bJ set=s at*
 refine an (gQ w) ?_
 rintro _ w1 ⟨rfl,m1⟩
 have no:∀ {w2:World} (e:Int),Mod [] w w2->e≠0->C=e->oG aE 1 w w2 (.tuple ⟨[.slice none 0 0,.int .i64 e]⟩) (aG V) C:=by
  intro w2 e m he vg
  rw[vg,if_neg he]at hV
  subst hV
  rw[vg]
  exact⟨⟨none,0,0⟩,rfl,Own.nil _ _ _ _,m⟩
 refine⟨_,rfl,_,rfl,_,rfl,_,rfl,rfl,?_⟩
 cases bk:isSet set with
 |false=>
  rw[bk,if_neg (by decide)]at hC
  have FO:s.k=0:=by rw[hnn bk]
  exact ite_true (decide_eq_true (by omega)) (no 2 m1 (by decide) hC)
 |true=>
  rw[bk,if_pos rfl]at hC
  have hG:=Bf bk
  have hk:=hG.k
  have FM:=hG.du
  have FN:=hG.dv
  refine ite_false (decide_eq_false (by omega)) ?_
  by_cases hn:b.length=B/\c.length=Z
  case neg=>
   rw[if_neg hn]at hC
   refine ite_true ?_ (no 3 m1 (by decide) hC)
   by_cases h:b.length=B
   ·rw[decide_eq_false (show ¬((xc.n:Nat):Int)=((Z:Nat):Int) by omega),Bool.not_false,Bool.or_true]
   ·rw[decide_eq_false (show ¬((x.n:Nat):Int)=((B:Nat):Int) by omega)];rfl
  rw[if_pos hn]at hC
  obtain⟨hn,oW⟩:=hn
  have Om:s.du*s.k<=11*4:=Nat.mul_le_mul (by omega) hk.2
  refine ite_false (by rw[decide_eq_true (show((xc.n:Nat):Int)=((Z:Nat):Int) by omega),decide_eq_true (show((x.n:Nat):Int)=((B:Nat):Int) by omega)];rfl) (an (hof w1) ?_)
  rintro _ w2 ⟨rfl,m2⟩
  have H:=(ah.start w).frame (m1.trans m2)
  rw[bk]
  refine⟨_,rfl,HI ⟨_,rfl,rfl,H.nw λp w3 H _=>H.sF 0 rfl rfl λw5 H=>?_⟩⟩
  have H:ah w [] w5 [.aj p s.we xH]:=H
  refine an (J1 s.k (by omega) x b (by omega) _ (hx.av H.mod)) ?_
  rintro _ w6 (⟨cI,yt,rfl,Bh⟩|⟨cr,rfl,m6⟩)
  case inr=>
   rw[cr,if_neg (by decide)]at hC
   exact⟨_,rfl,⟨none,0,0⟩,rfl,_,rfl,rfl,ite_true rfl (no 4 (H.frame m6).mod (by decide) hC)⟩
  rw[if_pos cI]at hC
  rw[hC,if_pos rfl]at hV
  subst hV
  rw[hC]
  clear hC no
  obtain⟨f0,H⟩:=H.dz Bh
  have yG:=Hg cI
  have lT:=BN 12 s.k b
  have e2:32*s.du*s.k=32*(s.du*s.k):=Nat.mul_assoc _ _ _
  have pu:=D8 (d:=s.du) (many:=s.k) (by omega) (by omega) (b:=c) (by omega)
  have Oy:∀i,i<s.k->jo s.du (i+1) c=jo s.du i c++[nM s.du (fh s.du c i)]/\Pq (nM s.du (fh s.du c i)):=λi hi=>by
   have e:jo s.du (i+1) c=jo s.du i c++[nM s.du (fh s.du c i)]:=by
    unfold jo
    rw[show dh s.du (i+1) c=dh s.du i c++[fh s.du c i] from xb _ _,List.map_append];rfl
   refine⟨e,?_⟩
   have h:=Nat.mul_le_mul_left (32*s.du) (show i+1<=s.k from hi)
   exact D8 (d:=s.du) (many:=i+1) (by omega) (by omega) (b:=c) (by omega) _ (by rw[e];simp)
  have hT:dj w6 yt (dh 12 s.k b):=H.box 1 rfl
  refine⟨_,rfl,_,rfl,_,rfl,rfl,ite_false rfl ?_⟩
  refine eZ 0 s.k (λi (out:ag) w'=>fD cl jA w6 [] [] w' out (iK (jo s.du i c))) rfl (by omega) (fD.start (ah.start w6)) ?_ ?_
  ·intro again i out w7 _ hi C aB
   have Hw:=H.frame C.mod
   obtain⟨hs,hp⟩:=Oy i hi
   have e3:iK (jo s.du (i+1) c)=iK (jo s.du i c)++[oI (nM s.du (fh s.du c i))]:=by rw[hs];unfold iK;rw[List.map_append];rfl
   rw[e3]at aB
   refine Hw.au 0 rfl (ai p 0) rfl (ite_true (decide_eq_true (by omega)) ?_)
   have Hw:=Hw.drew
   have h1:32*s.du*i+32*s.du<=32*s.du*s.k:=by
    have:=Nat.mul_le_mul_left (32*s.du) (show i+1<=s.k from hi)
    rwa [Nat.mul_succ]at this
   have q1:32*(s.du:Int)*(i:Int)=((32*s.du*i:Nat):Int):=by simp only[Int.natCast_mul];rfl
   have q2:32*(s.du:Int)*((i:Int)+1)=((32*s.du*i+32*s.du:Nat):Int):=by rw[Int.mul_add,q1];omega
   refine Hw.au 0 rfl (ai p 3) rfl (Hw.au 0 rfl (ai p 3) rfl ⟨⟨by omega,by omega⟩,?_⟩)
   rw[q1]
   refine⟨⟨by omega,by omega⟩,Hw.au 0 rfl (ai p 3) rfl ⟨⟨by omega,by omega⟩,⟨by omega,by omega⟩,?_⟩⟩
   rw[q2]
   refine⟨⟨by omega,by omega⟩,xU (32*s.du*i) (32*s.du*i+32*s.du) rfl rfl (by omega) (by omega) λz hz kz=>?_⟩
   have kz:=kz _ c (hc.av Hw.mod) (by omega)
   rw[Nat.add_sub_cancel_left]at kz
   refine an (O7 s.du (by omega) (by omega) z _ (by rw[List.length_take,List.length_drop];omega) _ kz) ?_
   rintro _ w8 ⟨d1,rfl,iG,m8⟩
   change Own w8 w7.drew.heap.size aU 1 d1 (bf (nM s.du (fh s.du c i)))at iG
   refine aS (an (QG d1 _ hp _ iG.bq) ?_)
   rintro _ w9 h9
   obtain⟨d2,rfl,j5⟩:=h9.EV
   have C:=(C.frame (Mod.drew [] w7)).frame m8
   exact aS (C.add j5 rB (by rw[xM,B0];omega) λfJ bP C=>⟨⟨by omega,by omega⟩,aB fJ bP C⟩)
  ·intro again out w7 C
   have mi:=(C.frame (Mod.drew [] w7)).mod
   obtain⟨f1,H⟩:=H.dz (C.boxed.mono λw h=>vO h)
   have eC:wu s b c=g8 1 (yp s b c):=by unfold wu;rfl
   have eW:yp s b c=Au ((jo s.dv 1 (c.drop (32*s.du*s.k))).getD 0 []) (kS (kX (dh 12 s.k b) (iK (jo s.du s.k c)))):=rfl
   have zh:(c.drop (32*s.du*s.k)).length=32*s.dv:=by rw[List.length_drop];omega
   have pv:=D8 (d:=s.dv) (many:=1) (by omega) (by omega) (b:=c.drop (32*s.du*s.k)) (by omega)
   have lv:=B0 s.dv 1 (c.drop (32*s.du*s.k))
   have lo:(iK (jo s.du s.k c)).length=s.k:=by rw[xM,B0]
   have po:=DP pu
   have ev:(jo s.dv 1 (c.drop (32*s.du*s.k))).getD 0 []=nM s.dv (unpack s.dv (c.drop (32*s.du*s.k))):=by
    show nM s.dv (fh s.dv (c.drop (32*s.du*s.k)) 0)=_
    unfold fh
    rw[Nat.mul_zero,List.drop_zero,List.take_of_length_le (by omega)]
   have Xk:=pv.get (i:=0) (by omega)
   rw[ev]at eW Xk
   rw[eC]
   clear eC ev pv lv
   have q1:32*(s.du:Int)*(s.k:Int)=((32*s.du*s.k:Nat):Int):=by simp only[Int.natCast_mul];rfl
   generalize iK (jo s.du s.k c)=OU at*
   generalize dh 12 s.k b=T at*
   refine H.au 0 rfl (ai p 0) rfl (ite_false (decide_eq_false (by omega)) ?_)
   have H:=H.drew
   refine H.au 0 rfl (ai p 4) rfl (H.au 0 rfl (ai p 3) rfl ⟨⟨by omega,by omega⟩,H.au 0 rfl (ai p 0) rfl ?_⟩)
   rw[q1]
   refine⟨⟨by omega,by omega⟩,oz (32*s.du*s.k) rfl (by omega) λz hz kz=>?_⟩
   have kz:=kz _ c (hc.av H.mod) (by omega)
   refine an (O7 s.dv (by omega) (by omega) z _ zh _ kz) ?_
   rintro _ w8 ⟨d0,rfl,hd0,m8⟩
   have H:=H.bg m8 hd0
   refine aS (an (Gz yt out T OU (by omega) (by omega) (by omega) yG po _ (H.box 1 rfl) (H.box 2 rfl)) ?_)
   rintro _ w9 ⟨d1,rfl,iG,m9⟩
   have H:=H.bg m9 iG
   refine aS (an (Kj d1 _ (xX _ _ (by omega)) _ iG.bq) ?_)
   rintro _ bP ⟨d2,rfl,j5,o9⟩
   have H:=H.bg o9 j5
   refine aS (an (aei d0 d2 _ _ Xk (BX _) _ (H.bq 3 rfl) j5.bq) ?_)
   rintro _ bQ ⟨d3,rfl,lQ,oa⟩
   have H:=H.bg oa lQ
   rw[<- eW]at lQ
   have pW:Pq (yp s b c):=LH _ _
   refine aS (an (JJ 1 (by omega) (by omega) d3 _ pW.len _ lQ.bq) ?_)
   rintro _ cH ⟨z,rfl,hz,gC⟩
   have H:=H.bg gC hz
   exact aS ⟨z,rfl,H.cm 7 rfl,H.mod⟩
theorem _root_.Go.Ev.ah.SH{w0 w:World}{S:List Nat}{L:List aA}(H:ah w0 S w L)(k:Nat){y:ag}{l:List B8}{e:TypeId}(hk:L[k]? = some (.row e 1 y (aG l)))(n:Nat)(hn:n<=y.n):ah w0 S w (L.set k (.row e 1 ⟨y.a,n,y.c⟩ (aG (l.take n)))):=by
 refine H.less k hk ?_ (λb hb=>hb)
 have h:Own w 0 e 1 y (aG l):=H.ok k _ hk
 have:=h.shrink n hn
 rw[Nat.mul_one,BV]at this
 exact this
theorem J6(set:Int)(w:World):Ok Pr acg [.int .i64 set] w λv w'=>v=.tuple ⟨[.int .i64 (dY set:Int),.int .i64 (k9 set:Int),.int .i64 (jg set:Int)]⟩/\Mod [] w w':=by
 refine aC Tryz.func194 ?_
 refine an (J0 set w) ?_
 rintro _ w1 ⟨rfl,m1⟩
 refine⟨_,rfl,_,rfl,_,rfl,_,rfl,rfl,?_⟩
 cases bk:isSet set with
 |false=>
  obtain⟨h1,h2,h3,h4⟩:=Jm bk
  rw[h1,h3,h4]
  exact ite_true rfl ⟨rfl,m1⟩
 |true=>
  obtain⟨h1,h2,h3,h4⟩:=su bk
  have hk:=(iA bk).k
  refine ite_false (decide_eq_false (by omega)) ⟨⟨by omega,by omega⟩,⟨by omega,by omega⟩,?_,m1⟩
  rw[show 2*(dY set:Int)+32=(k9 set:Int) by omega]
theorem Ko(set:Int)(x:ag)(ak:List B8)(w:World)(hx:Bytes w x ak):
  Ok Pr adp [.int .i64 set,.slice x.a x.n x.c] w λv w'=>∃(y z:ag),v=.tuple ⟨[.slice y.a y.n y.c,.slice z.a z.n z.c,.int .i64 (g9 set ak.length)]⟩/\
   ah w [] w' [.row aE 1 y (aG (ff set ak)),.row aE 1 z (aG (nY set ak))]:=by
 refine aC Tryz.func173 ?_
 have aT:=hx.len
 have nP:=hx.cap
 have hC:g9 set ak.length=if isSet set=true then (if ak.length=64 then 0 else 3) else 2:=rfl
 have hV:ff set ak=if g9 set ak.length=0 then kG set (ak.take 32) else []:=by unfold ff;rfl
 have hS:nY set ak=if g9 set ak.length=0 then pJ set (ak.take 32)++kG set (ak.take 32)++cj 136 6 (kG set (ak.take 32)) 32++ak.drop 32 else []:=by unfold nY;rfl
 generalize ff set ak=V at*
 generalize nY set ak=K at*
 generalize g9 set ak.length=C at*
 refine an (J6 set w) ?_
 rintro _ w1 ⟨rfl,m1⟩
 have no:∀(c:Int),c≠0->C=c->∃(y z:ag),Value.tuple ⟨[.slice none 0 0,.slice none 0 0,.int .i64 c]⟩=.tuple ⟨[.slice y.a y.n y.c,.slice z.a z.n z.c,.int .i64 C]⟩/\
   ah w [] w1 [.row aE 1 y (aG V),.row aE 1 z (aG K)]:=by
  intro c hc cX
  rw[cX]at hV hS
  rw[if_neg hc]at hV hS
  subst hV hS
  rw[cX]
  exact⟨⟨none,0,0⟩,⟨none,0,0⟩,rfl,(((ah.start w).dy aE 1).dy aE 1).frame m1⟩
 refine⟨_,rfl,_,rfl,_,rfl,_,rfl,rfl,?_⟩
 cases bk:isSet set with
 |false=>
  rw[bk,if_neg (by decide)]at hC
  obtain⟨h1,h2,h3,h4⟩:=Jm bk
  exact ite_true (decide_eq_true (by omega)) (no 2 (by decide) hC)
 |true=>
  rw[bk,if_pos rfl]at hC
  obtain⟨h1,h2,h3,h4⟩:=su bk
  have hk:=(iA bk).k
  refine ite_false (decide_eq_false (by omega)) ?_
  by_cases dX:ak.length=64
  case neg=>
   rw[if_neg dX]at hC
   exact ite_true (by rw[decide_eq_false (show ¬((x.n:Nat):Int)=64 by omega)];rfl) (no 3 (by decide) hC)
  rw[if_pos dX]at hC
  clear no
  subst hC
  rw[if_pos rfl]at hV hS
  subst hV hS
  have fe:(ak.take 32).length=32:=by rw[List.length_take];omega
  obtain⟨c0,lA,lB⟩:=Me bk fe
  refine ite_false (by rw[decide_eq_true (show((x.n:Nat):Int)=64 by omega)];rfl) (uq 32 rfl (by omega) λxd nd kd=>an (acP set xd (ak.take 32) (by omega) w1 (kd _ ak (hx.av m1) (by omega))) ?_)
  rw[c0]
  rintro _ w2 ⟨y,z,rfl,D⟩
  have H:=((ah.start w).frame m1).join D
  generalize kG set (ak.take 32)=A at*
  generalize pJ set (ak.take 32)=B at*
  have j3:=(H.bytes 0 rfl).len
  have uV:=(H.bytes 1 rfl).len
  refine⟨_,rfl,y,rfl,z,rfl,_,rfl,rfl,H.oD cg (H.bytes 1 rfl) (by omega) λu w3 H hu=>H.iX 2 cg rfl (H.bytes 0 rfl) (by omega) λu2 w4 H yT=>oz 32 rfl (by omega) λxr nr kr=>?_⟩
  have H:=H.drew
  refine an (F8 y A _ (H.bytes 0 rfl) (by omega)) ?_
  rintro _ w5 ⟨g,rfl,hg,m5⟩
  have Db:=ot 136 6 A 32 (by omega)
  rw[show((32:Nat):Int)=32 from rfl]at Db
  generalize hR:cj 136 6 A 32=R at*
  have H:=H.bg m5 hg
  have Of:=(H.bytes 3 rfl).len
  refine aS (H.iX 2 cg rfl (H.bytes 3 rfl) (by omega) λu3 w6 H hu3=>H.iX 2 cg rfl (kr _ ak (hx.av H.mod) (by omega)) (by omega) λu4 w7 H _=>?_)
  exact⟨y,u4,rfl,H.two 0 2 rfl rfl (by omega)⟩
theorem ZR(set:Int)(x:ag)(l:List B8)(w:World)(hx:Bytes w x l):Ok Pr aac [.int .i64 set,.slice x.a x.n x.c] w λv w'=>v=.int .i64 (nZ set l)/\Mod [] w w':=by
 refine aC Tryz.func200 ?_
 have aT:=hx.len
 have nP:=hx.cap
 have hC:nZ set l=if isSet set=true then (if l.length=k9 set then (if oJ (pS set l)=pH set l then 0 else 4) else 3) else 2:=rfl
 generalize nZ set l=C at*
 refine an (J6 set w) ?_
 rintro _ w1 ⟨rfl,m1⟩
 refine⟨_,rfl,_,rfl,_,rfl,_,rfl,rfl,?_⟩
 cases bk:isSet set with
 |false=>
  rw[bk,if_neg (by decide)]at hC
  obtain⟨h1,h2,h3,h4⟩:=Jm bk
  exact ite_true (decide_eq_true (by omega)) ⟨by rw[hC],m1⟩
 |true=>
  rw[bk,if_pos rfl]at hC
  obtain⟨h1,h2,h3,h4⟩:=su bk
  have hk:=(iA bk).k
  refine ite_false (decide_eq_false (by omega)) ?_
  by_cases hn:l.length=k9 set
  case neg=>
   rw[if_neg hn]at hC
   exact ite_true (by rw[decide_eq_false (show ¬((x.n:Nat):Int)=((k9 set:Nat):Int) by omega)];rfl) ⟨by rw[hC],m1⟩
  rw[if_pos hn]at hC
  obtain⟨lS,lO,lH,lR⟩:=Io bk hn
  refine ite_false (by rw[decide_eq_true (show((x.n:Nat):Int)=((k9 set:Nat):Int) by omega)];rfl) ⟨⟨by omega,by omega⟩,⟨by omega,by omega⟩,⟨by omega,by omega⟩,xU (fm set) (dY set+fm set) (by omega) (by omega) (by omega) (by omega) λx1 n1 k1=>⟨⟨by omega,by omega⟩,⟨by omega,by omega⟩,⟨by omega,by omega⟩,xU (dY set+fm set) (dY set+fm set+32) (by omega) (by omega) (by omega) (by omega) λx2 n2 k2=>?_⟩⟩
  have k1:∀w2,Bytes w2 x l->Bytes w2 x1 (pS set l):=λw2 h=>by
   have:=k1 w2 l h (by omega)
   rwa [Nat.add_sub_cancel]at this
  have k2:∀w2,Bytes w2 x l->Bytes w2 x2 (pH set l):=λw2 h=>by
   have:=k2 w2 l h (by omega)
   rwa [Nat.add_sub_cancel_left]at this
  have last:∀w2,Mod [] w w2->dc (!decide (strOf (oJ (pS set l))=strOf (pH set l))) ((λv w'=>v=Value.int .i64 C/\Mod [] w w') (.int .i64 4) w2) ((λv w'=>v=Value.int .i64 C/\Mod [] w w') (.int .i64 0) w2):=by
   intro w2 m
   by_cases he:oJ (pS set l)=pH set l
   ·rw[if_pos he]at hC
    exact ite_false (by rw[decide_eq_true (BM.2 he)];rfl) ⟨by rw[hC],m⟩
   ·rw[if_neg he]at hC
    exact ite_true (by rw[decide_eq_false λh=>he (BM.1 h)];rfl) ⟨by rw[hC],m⟩
  have md:=m1.trans (Mod.drew [] w1)
  refine⟨an (F8 x1 _ _ (k1 _ (hx.av md)) (by omega)) ?_,nt (k2 _ (hx.av md)) (an (F8 x1 _ _ (k1 _ (hx.av md)) (by omega)) ?_)⟩
  ·rintro _ w5 ⟨g,rfl,hg,m5⟩
   rw[DV]at hg
   have m5:=md.trans m5
   exact aS ⟨nt hg.bytes (nt (k2 _ (hx.av m5)) (last _ m5)),nt (k2 _ (hx.av m5)) (nt hg.bytes (last _ m5))⟩
  ·rintro _ w5 ⟨g,rfl,hg,m5⟩
   rw[DV]at hg
   exact aS (nt hg.bytes (last _ (md.trans m5)))
theorem acR(set:Int)(x xm:ag)(b m:List B8)(w:World)(hx:Bytes w x b)(hm:Bytes w xm m):
  Ok Pr adq [.int .i64 set,.slice x.a x.n x.c,.slice xm.a xm.n xm.c] w λv w'=>∃(y z:ag),v=.tuple ⟨[.slice y.a y.n y.c,.slice z.a z.n z.c,.int .i64 (jL set b m)]⟩/\
   ah w [] w' [.row aE 1 y (aG (pL set b m)),.row aE 1 z (aG (ob set b m))]:=by
 refine aC Tryz.func175 ?_
 have aT:=hx.len
 have Fp:=hm.len
 have hC:jL set b m=if fE set b=0 then (if m.length=32 then 0 else 3) else fE set b:=rfl
 have hV:pL set b m=if jL set b m=0 then lP set b m ((sv b m).drop 32) else []:=by unfold pL;rfl
 have hS:ob set b m=if jL set b m=0 then (sv b m).take 32 else []:=by unfold ob;rfl
 generalize jL set b m=C at*
 generalize pL set b m=V at*
 generalize ob set b m=K at*
 refine an (KB set x b w hx) ?_
 rintro _ w1 ⟨rfl,m1⟩
 have no:∀(c:Int),c≠0->C=c->∃(y z:ag),Value.tuple ⟨[.slice none 0 0,.slice none 0 0,.int .i64 c]⟩=.tuple ⟨[.slice y.a y.n y.c,.slice z.a z.n z.c,.int .i64 C]⟩/\
   ah w [] w1 [.row aE 1 y (aG V),.row aE 1 z (aG K)]:=by
  intro c hc cX
  rw[cX]at hV hS
  rw[if_neg hc]at hV hS
  subst hV hS
  rw[cX]
  exact⟨⟨none,0,0⟩,⟨none,0,0⟩,rfl,(((ah.start w).dy aE 1).dy aE 1).frame m1⟩
 refine bH ?_
 by_cases h0:fE set b=0
 case neg=>
  rw[if_neg h0]at hC
  exact ite_true (by rw[decide_eq_false h0];rfl) (no _ h0 hC)
 rw[if_pos h0]at hC
 obtain⟨bk,fc,cI⟩:=DU h0
 have hk:=(iA bk).k
 refine ite_false (by rw[decide_eq_true h0];rfl) ?_
 by_cases fe:m.length=32
 case neg=>
  rw[if_neg fe]at hC
  exact ite_true (by rw[decide_eq_false (show ¬((xm.n:Nat):Int)=32 by omega)];rfl) (no 3 (by decide) hC)
 rw[if_pos fe]at hC
 clear no
 subst hC
 rw[if_pos rfl]at hV hS
 subst hV hS
 have H:=(ah.start w).frame m1
 refine ite_false (by rw[decide_eq_true (show((xm.n:Nat):Int)=32 by omega)];rfl) (H.oD cg (hm.av m1) (by omega) λu w3 H hu=>?_)
 refine an (F8 x b _ (hx.av H.mod) (by omega)) ?_
 rintro _ w4 ⟨g,rfl,hg,m4⟩
 rw[DV]at hg
 have Db:=SF b
 have H:=H.bg m4 hg
 have Of:=(H.bytes 1 rfl).len
 refine aS (H.iX 0 cg rfl (H.bytes 1 rfl) (by omega) λu2 w5 H yT=>an (F9 u2 _ _ (H.bytes 0 rfl) (by rw[List.length_append];omega)) ?_)
 rintro _ w6 ⟨v,rfl,hv,m6⟩
 rw[U7]at hv
 have iR:=LL b m
 generalize sv b m=G at*
 have H:=H.bg m6 hv
 have C8:=(H.bytes 2 rfl).len
 have Xe:=(H.bytes 2 rfl).cap
 refine aS (oz 32 rfl (by omega) λzr nr kr=>?_)
 have oQ:(G.drop 32).length=32:=by rw[List.length_drop];omega
 refine an (QO set x xm zr b m (G.drop 32) _ (hx.av H.mod) (hm.av H.mod) (kr _ G (H.bytes 2 rfl) (by omega))) ?_
 rw[Hh h0 fe oQ]
 rintro _ w7 ⟨y,rfl,hy,m7⟩
 have H:=H.bg m7 hy
 refine⟨_,rfl,y,rfl,_,rfl,rfl,⟨by decide,by omega⟩,y,⟨v.a,32,v.c⟩,rfl,?_⟩
 exact((H.SH 2 rfl 32 (by omega)).two 3 2 rfl rfl (by omega)).drew
theorem acS(set:Int)(x xc:ag)(l c:List B8)(w:World)(hx:Bytes w x l)(hc:Bytes w xc c):
  Ok Pr ads [.int .i64 set,.slice x.a x.n x.c,.slice xc.a xc.n xc.c] w λv w'=>oG aE 1 w w' v (aG (mz set l c)) (rm set l c):=by
 refine aC Tryz.func176 (J:=[(5,[(8,.int .i64)])]) ?_
 have aT:=hx.len
 have nP:=hx.cap
 have ze:=hc.len
 have hC:rm set l c=if nZ set l=0 then (if c.length=jg set then (if fE set (pS set l)=0 then pK set (pO set l) c else fE set (pS set l)) else 3) else nZ set l:=rfl
 have hV:mz set l c=if rm set l c=0 then (if lP set (pS set l) (qu set l c) ((j6 set l c).drop 32)=c then (j6 set l c).take 32 else cj 136 31 (pR set l++c) 32) else []:=by unfold mz;rfl
 generalize rm set l c=C at*
 generalize mz set l c=V at*
 have no:∀ {w3:World} (d:Int),d≠0->C=d->Mod [] w w3->oG aE 1 w w3 (.tuple ⟨[.slice none 0 0,.int .i64 d]⟩) (aG V) C:=by
  intro w3 d hd FQ m
  rw[FQ]at hV
  rw[if_neg hd]at hV
  subst hV
  rw[FQ]
  exact⟨⟨none,0,0⟩,rfl,Own.nil _ _ _ _,m⟩
 refine an (ZR set x l w hx) ?_
 rintro _ w1 ⟨rfl,m1⟩
 refine bH (an (J6 set w1) ?_)
 rintro _ w2 ⟨rfl,m2⟩
 have m2:=m1.trans m2
 refine⟨_,rfl,_,rfl,_,rfl,_,rfl,rfl,fo λgo aV=>?_⟩
 by_cases h0:nZ set l=0
 case neg=>
  rw[if_neg h0]at hC
  exact ite_false (by rw[decide_eq_false h0];rfl) (aV _ _ (ite_true (by rw[decide_eq_false h0];rfl) (no _ h0 hC m2)))
 rw[if_pos h0]at hC
 by_cases xj:c.length=jg set
 case neg=>
  rw[if_neg xj]at hC
  exact ite_true (by rw[decide_eq_true h0,decide_eq_false (show ¬((xc.n:Nat):Int)=((jg set:Nat):Int) by omega)];rfl) (aV _ _ (ite_true rfl (no 3 (by decide) hC m2)))
 rw[if_pos xj]at hC
 obtain⟨bk,hn⟩:=Tt h0
 obtain⟨h1,h2,h3,h4⟩:=su bk
 have hk:=(iA bk).k
 have FM:=(iA bk).du
 have FN:=(iA bk).dv
 have Om:(bJ set).du*(bJ set).k<=11*4:=Nat.mul_le_mul (by omega) hk.2
 obtain⟨lS,lO,lH,lR⟩:=Io bk hn
 refine ite_false (by rw[decide_eq_true (show((xc.n:Nat):Int)=((jg set:Nat):Int) by omega),Bool.not_true,Bool.and_false]) (aV _ _ ?_)
 rw[h0]
 refine ite_false rfl ⟨⟨by omega,by omega⟩,⟨by omega,by omega⟩,⟨by omega,by omega⟩,xU (fm set) (dY set+fm set) (by omega) (by omega) (by omega) (by omega) λx1 n1 k1=>?_⟩
 have k1:∀w2,Bytes w2 x l->Bytes w2 x1 (pS set l):=λw2 h=>by
  have:=k1 w2 l h (by omega)
  rwa [Nat.add_sub_cancel]at this
 refine an (KB set x1 _ _ (k1 _ (hx.av m2))) ?_
 rintro _ w4 ⟨rfl,m4⟩
 have m4:=m2.trans m4
 refine bH ?_
 by_cases hp:fE set (pS set l)=0
 case neg=>
  rw[if_neg hp]at hC
  exact ite_true (by rw[decide_eq_false hp];rfl) (no _ hp hC m4)
 rw[if_pos hp]at hC
 refine ite_false (by rw[decide_eq_true hp];rfl) ⟨⟨by omega,by omega⟩,uq (fm set) (by omega) (by omega) λx0 n0 k0=>?_⟩
 refine an (acQ set x0 xc (pO set l) c _ (k0 _ l (hx.av m4) (by omega)) (hc.av m4)) ?_
 rintro _ w5 ⟨y,rfl,hy,m5⟩
 have H:=((ah.start w).frame m4).bg m5 hy
 refine⟨_,rfl,y,rfl,_,rfl,rfl,?_⟩
 by_cases h8:pK set (pO set l) c=0
 case neg=>exact ite_true (by rw[decide_eq_false h8];rfl) (no _ h8 hC H.mod)
 rw[h8]at hC
 rw[hC,if_pos rfl]at hV
 have lM:=Tu h8
 rw[hC]
 change V=(if lP set (pS set l) (qu set l c) ((j6 set l c).drop 32)=c then (j6 set l c).take 32 else cj 136 31 (pR set l++c) 32)at hV
 have eG:j6 set l c=cj 72 6 (qu set l c++pH set l) 64:=by unfold j6;rfl
 have lG:(j6 set l c).length=64:=by unfold j6;exact ot 72 6 _ 64 (by omega)
 have H:ah w [] w5.drew [.row aE 1 y (aG (qu set l c))]:=H.drew
 change (qu set l c).length=32 at lM
 generalize j6 set l c=G at*
 generalize qu set l c=M at*
 have j3:=(H.bytes 0 rfl).len
 refine ite_false (by rw[decide_eq_true h8];rfl) ⟨⟨by omega,by omega⟩,⟨by omega,by omega⟩,⟨by omega,by omega⟩,xU (dY set+fm set) (dY set+fm set+32) (by omega) (by omega) (by omega) (by omega) λx2 n2 k2=>?_⟩
 have k2:∀w2,Bytes w2 x l->Bytes w2 x2 (pH set l):=λw2 h=>by
  have:=k2 w2 l h (by omega)
  rwa [Nat.add_sub_cancel_left]at this
 have n2:x2.n=32:=by omega
 refine H.oD cg (H.bytes 0 rfl) (by omega) λu w6 H hu=>H.iX 1 cg rfl (k2 _ (hx.av H.mod)) (by omega) λu2 w7 H _=>an (F9 u2 _ _ (H.bytes 1 rfl) (by rw[List.length_append];omega)) ?_
 rintro _ w8 ⟨v,rfl,hv,m8⟩
 rw[<- eG]at hv
 have H:=H.bg m8 hv
 have De:=(H.bytes 2 rfl).len
 have hvc:=(H.bytes 2 rfl).cap
 have oQ:(G.drop 32).length=32:=by rw[List.length_drop];omega
 refine aS (oz 32 rfl (by omega) λzr nr kr=>an (QO set x1 y zr (pS set l) M (G.drop 32) _ (k1 _ (hx.av H.mod)) (H.bytes 0 rfl) (kr _ G (H.bytes 2 rfl) (by omega))) ?_)
 rw[Hh hp lM oQ]
 rintro _ w9 ⟨z,rfl,hz,m9⟩
 have H:=H.bg m9 hz
 refine⟨_,rfl,z,rfl,_,rfl,rfl,nt hz.bytes (nt (hc.av H.mod) ?_)⟩
 by_cases hq:lP set (pS set l) M (G.drop 32)=c
 ·rw[if_pos hq]at hV
  subst hV
  refine ite_true (by rw[decide_eq_true (BM.2 hq)]) ⟨⟨by decide,by omega⟩,⟨v.a,32,v.c⟩,rfl,?_,H.mod⟩
  exact(H.SH 2 rfl 32 (by omega)).cm 2 rfl
 ·rw[if_neg hq]at hV
  obtain⟨Z,hZ⟩:∃Z,Z=cj 136 31 (pR set l++c) 32:=⟨_,rfl⟩
  rw[<- hZ]at hV
  subst hV
  refine ite_false (by rw[decide_eq_false λh=>hq (BM.1 h)]) ⟨⟨by omega,by omega⟩,oz (dY set+fm set+32) (by omega) (by omega) λx3 n3 k3=>?_⟩
  refine H.oD cg (k3 _ l (hx.av H.mod) (by omega)) (by omega) λt bP H ht=>H.iX 4 cg rfl (hc.av H.mod) (by omega) λt2 bQ H _=>an (JI 32 t2 (pR set l++c) _ (H.bytes 4 rfl) (by rw[List.length_append];omega)) ?_
  rintro _ cH ⟨q,rfl,Xl,gC⟩
  rw[<- hZ]at Xl
  have H:=H.bg gC Xl
  exact aS ⟨q,rfl,H.cm 5 rfl,H.mod⟩
theorem Ze(v:aR)(x:ag)(n:Int)(w:World)(hx:jb w x v):Ok Pr Zs [.agg ⟨v.cs x⟩,.int .i64 n] w λr w'=>r=.bool (gy v n)/\Mod [] w w':=by
 refine aC Tryz.func147 ?_
 have aT:=Bytes.len hx
 refine(ah.start w).nw λp w1 H _=>?_
 have H:ah w [] w1 [.aj p (vu v.n v.st v.due x) cR]:=H
 refine H.au 0 rfl (ai p 0) rfl (H.au 0 rfl (ai p 1) rfl (H.au 0 rfl (ai p 1) rfl ?_))
 have hM:gy v n=(decide (v.n=n)&&(if v.st=3 then aF 1 1099511627776 v.due&&decide (v.ak.length=64) else if v.st=4 then decide (v.due=0)&&decide (v.ak.length=0) else if v.st=1\/v.st=2 then decide (v.due=0)&&decide (v.ak.length=64) else false)):=rfl
 by_cases h1:v.n=n
 case neg=>
  rw[decide_eq_false h1,Bool.false_and]at hM
  exact ite_true (by rw[decide_eq_false h1];rfl) ⟨by rw[hM],H.mod⟩
 rw[decide_eq_true h1,Bool.true_and]at hM
 by_cases hs:1<=v.st/\v.st<=4
 case neg=>
  rw[if_neg (by omega),if_neg (by omega),if_neg (by omega)]at hM
  refine ite_true ?_ ⟨by rw[hM],H.mod⟩
  by_cases h:v.st<1
  ·rw[decide_eq_true h,Bool.or_true,Bool.true_or]
  ·rw[decide_eq_true (show 4<v.st by omega),Bool.or_true]
 refine ite_false (by rw[decide_eq_true h1,decide_eq_false (show ¬v.st<1 by omega),decide_eq_false (show ¬4<v.st by omega)];rfl) (H.au 0 rfl (ai p 1) rfl (H.az 0 rfl (ai p 3) rfl (H.au 0 rfl (ai p 1) rfl (H.az 0 rfl (ai p 3) rfl ?_))))
 have Ot:decide (((x.n:Nat):Int)=64)=decide (v.ak.length=64):=decide_eq_decide.2 (by omega)
 have e0:decide (((x.n:Nat):Int)=0)=decide (v.ak.length=0):=decide_eq_decide.2 (by omega)
 rw[Ot,e0]
 by_cases h4:v.st=4
 ·rw[if_neg (by omega),if_pos h4]at hM
  by_cases h:v.ak.length=0
  ·rw[decide_eq_true h,Bool.and_true]at hM
   exact ite_false (by rw[decide_eq_true h4,decide_eq_true h];rfl) (H.au 0 rfl (ai p 1) rfl (ite_false (decide_eq_false (by omega)) (H.au 0 rfl (ai p 2) rfl ⟨by rw[hM],H.mod⟩)))
  ·rw[decide_eq_false h,Bool.and_false]at hM
   exact ite_true (by rw[decide_eq_true h4,decide_eq_false h];rfl) ⟨by rw[hM],H.mod⟩
 ·by_cases h:v.ak.length=64
  ·rw[decide_eq_true h,Bool.and_true,Bool.and_true]at hM
   refine ite_false (by rw[decide_eq_false h4,decide_eq_true h];rfl) (H.au 0 rfl (ai p 1) rfl ?_)
   by_cases h3:v.st=3
   ·rw[if_pos h3]at hM
    exact ite_true (decide_eq_true h3) (H.au 0 rfl (ai p 2) rfl (H.au 0 rfl (ai p 2) rfl ⟨by rw[hM];rfl,H.mod⟩))
   ·rw[if_neg h3,if_neg h4,if_pos (by omega)]at hM
    exact ite_false (decide_eq_false h3) (H.au 0 rfl (ai p 2) rfl ⟨by rw[hM],H.mod⟩)
  ·rw[decide_eq_false h,Bool.and_false,Bool.and_false,if_neg h4]at hM
   refine ite_true (by rw[decide_eq_false h4,decide_eq_false h];rfl) ⟨?_,H.mod⟩
   rw[hM]
   split
   ·rfl
   ·split<;>rfl
theorem tZ(k:aI)(x:ag)(hl:k.ay.length<=1000000)(w:World)(hx:dD w x k.ay):Ok Pr adb [.agg ⟨k.cs x⟩] w λr w'=>r=.bool (bK k)/\Mod [] w w':=by
 refine aC Tryz.func100 (L:=[(4,[(3,.int .i64)])]) ?_
 have aT:=hx.len
 refine(ah.start w).nw λp w1 H _=>?_
 have H:ah w [] w1 [.aj p (bY k.id k.ten k.set x) aW]:=H
 refine H.au 0 rfl (ai p 0) rfl (H.au 0 rfl (ai p 0) rfl (H.au 0 rfl (ai p 1) rfl (H.au 0 rfl (ai p 1) rfl (H.au 0 rfl (ai p 2) rfl (H.au 0 rfl (ai p 2) rfl (H.az 0 rfl (ai p 3) rfl (H.az 0 rfl (ai p 3) rfl ?_)))))))
 by_cases h:(1<=k.id/\k.id<=6)/\(1<=k.ten/\k.ten<=8)/\(1<=k.set/\k.set<=3)/\(1<=k.ay.length/\k.ay.length<=5)
 case neg=>
  refine ite_true ?_ ⟨?_,H.mod⟩
  ·simp only[Bool.or_eq_true,decide_eq_true_eq];omega
  ·have:bK k=false:=Bool.eq_false_iff.2 λhm=>by
    obtain⟨a,b,c,d,_⟩:=rE hm
    exact h ⟨a,b,c,d⟩
   rw[this]
 obtain⟨h1,h2,h3,h4⟩:=h
 refine ite_false ?_ ?_
 ·simp only[Bool.or_eq_false_iff,decide_eq_false_iff_not];omega
 have eK:bK k=nh k.ay k.ay.length:=by
  unfold bK aF
  rw[decide_eq_true h1.1,decide_eq_true h1.2,decide_eq_true h2.1,decide_eq_true h2.2,decide_eq_true h3.1,decide_eq_true h3.2,decide_eq_true (show(1:Int)<=(k.ay.length:Int) by omega),decide_eq_true (show(k.ay.length:Int)<=5 by omega)]
  simp
 refine bG 0 k.ay.length (λi w'=>nh k.ay i=true/\ah w [] w' [.aj p (bY k.id k.ten k.set x) aW]) rfl (by omega) ⟨rfl,H⟩ ?_ ?_
 ·rintro again i w3 _ hi ⟨cI,H⟩ aB
  have ha:k.ay[i]? = some (k.ay.getD i vz):=by rw[List.getD_eq_getElem?_getD,List.getElem?_eq_getElem hi];rfl
  obtain⟨bF,y,hy,hc⟩:=Dv.at aR.bA (by omega) (hx.av H.mod) ha
  have hs:nh k.ay (i+1)=(nh k.ay i&&gy (k.ay.getD i vz) ((i:Int)+1)):=rfl
  have cr:=Mf (vs:=k.ay) (i:=i)
  generalize k.ay.getD i vz=v at*
  refine H.az 0 rfl (ai p 3) rfl (ite_true (decide_eq_true (by omega)) (H.az 0 rfl (ai p 3) rfl ⟨bF,xp hc ⟨⟨by omega,by omega⟩,an (Ze v y _ _ hy) ?_⟩⟩))
  rintro _ w6 ⟨rfl,m6⟩
  refine aN ?_
  cases hv:gy v ((i:Int)+1)with
  |false=>exact ite_true rfl ⟨by rw[eK,cr hv _ hi],H.mod.trans m6⟩
  |true=>exact ite_false rfl ⟨⟨by omega,by omega⟩,aB _ ⟨by rw[hs,cI,hv];rfl,H.frame m6⟩⟩
 ·rintro again w3 ⟨cI,H⟩
  exact H.az 0 rfl (ai p 3) rfl (ite_false (decide_eq_false (by omega)) ⟨by rw[eK,cI],H.mod⟩)
theorem Bu(k:aI)(x:ag)(hl:k.ay.length<=1000)(hs:∀v∈k.ay,v.ak.length<=1000000)(w:World)(hx:dD w x k.ay):Ok Pr abZ [.agg ⟨k.cs x⟩] w λr w'=>∃y:ag,r=.agg ⟨k.cs y⟩/\IQ w w' y k.ay:=by
 refine aC Tryz.func39 (L:=[(3,[(3,.int .i64)])]) ?_
 rw[kN]
 have aT:=hx.len
 obtain⟨xs,bZ,bO⟩:=hx
 refine(ah.start w).nw λp w1 H _=>H.nw λp1 w2 H _=>?_
 have H:ah w [] w2 [.aj p (bY k.id k.ten k.set x) aW,.aj p1 [.int .i64 0,.int .i64 0,.int .i64 0,.slice none 0 0] aW]:=H
 refine H.az 0 rfl (ai p 3) rfl (H.clone HD (bZ.av H.mod) (ug aR.jE k.ay xs) (by omega) (by omega) λy w3 H j3=>?_)
 refine H.st 0 rfl (ai p 3) (by show 3<4;omega) rfl λw4 H=>?_
 have H:ah w [] w4 ([.aj p (bY k.id k.ten k.set y) aW,.aj p1 [.int .i64 0,.int .i64 0,.int .i64 0,.slice none 0 0] aW]++[.row cR 4 y (aO aR.cs k.ay xs)]):=H
 refine bG 0 k.ay.length (λi w'=>gI aR.cs 4 e6 cR w [] [.aj p (bY k.id k.ten k.set y) aW,.aj p1 [.int .i64 0,.int .i64 0,.int .i64 0,.slice none 0 0] aW] w' y k.ay xs i) rfl (by omega) (gI.start H) ?_ ?_
 ·intro again i w5 _ hi R aB
  refine R.front.az 0 rfl (ai p 3) rfl (ite_true (decide_eq_true (by omega)) ?_)
  have R:=R.frame (Mod.drew [] w5)
  have ha:k.ay[i]? = some k.ay[i]:=List.getElem?_eq_getElem hi
  have cu:xs[i]? = some (xs[i]'(by rw[bO.1];exact hi)):=List.getElem?_eq_getElem _
  have fZ:=hs _ (List.getElem_mem hi)
  have tM:=bO.2 i _ _ cu ha
  obtain⟨bF,hc⟩:=R.at aR.bA (by omega) bO.1 ha cu
  generalize k.ay[i]=v at*
  generalize xs[i]'(by rw[bO.1];exact hi)=z at*
  have F:=R.front
  have hb:jb w5.drew z v:=Bytes.av tM F.mod
  have gR:=Bytes.len hb
  refine F.az 0 rfl (ai p 3) rfl (F.az 0 rfl (ai p 3) rfl ⟨bF,z,hc 3 z.v rfl,(ah.start w5.drew).oD cg hb (by omega) λu w6 U hu=>?_⟩)
  have FT:dU w5.drew w6 λw=>e6 w u v:=U.boxed λw' h=>h 0 _ rfl
  exact⟨F.jk 0 rfl FT.mod 3,bF,R.step aR.bA bO.1 ha cu FT (by omega:3<4) (Lp v z u) λw7 R=>⟨⟨by omega,by omega⟩,aB w7 R⟩⟩
 ·intro again w5 R
  refine R.front.az 0 rfl (ai p 3) rfl (ite_false (decide_eq_false (by omega)) ?_)
  obtain⟨ys,fp,H⟩:=R.done rfl bO.1
  exact H.bD 0 rfl (H.cO 1 rfl rfl λw8 H=>H.bD 1 rfl ⟨y,rfl,ys,fp,H.drop 2⟩)
def Er(w w':World)(v:Value)(k:aI)(c:Int):Prop:=∃y:ag,v=.tuple ⟨[.agg ⟨k.cs y⟩,.int .i64 c]⟩/\dU w w' λw=>fI w y k.ay
theorem acT(id ten set:Int)(x:ag)(ak:List B8)(hs:ak.length<=1000000)(w:World)(hx:Bytes w x ak):Ok Pr Q7 [.int .i64 id,.int .i64 ten,.int .i64 set,.slice x.a x.n x.c] w λr w'=>Er w w' r (kY id ten set ak) (jd id ten set ak):=by
 refine aC Tryz.func131 ?_
 rw[kN]
 have hC:jd id ten set ak=if bK (mO id ten set ak)=true then 0 else 2:=rfl
 have hR:kY id ten set ak=if jd id ten set ak=0 then mO id ten set ak else kz:=rfl
 generalize jd id ten set ak=C at*
 generalize kY id ten set ak=R at*
 refine(ah.start w).nw λp w1 H _=>H.nw λp1 w2 H _=>?_
 have H:ah w [] w2 [.aj p [.int .i64 0,.int .i64 0,.int .i64 0,.slice none 0 0] aW,.aj p1 ((aR.mk 1 1 0 ak).cs x) cR]:=H
 have hv:dD w2 ⟨some ⟨p1,0,none⟩,1,1⟩ (mO id ten set ak).ay:=dD.one (H.aj 1 rfl) (hx.av H.mod)
 refine an (Bu (mO id ten set ak) ⟨some ⟨p1,0,none⟩,1,1⟩ (by show 1<=1000;omega) (λv hv=>by
  have e:v=⟨1,1,0,ak⟩:=List.mem_singleton.1 hv
  rw[e];exact hs) _ hv) ?_
 rintro _ w3 ⟨y,rfl,hy⟩
 obtain⟨f,H⟩:=H.dz hy.box
 refine jz (H.nw λp2 w4 H _=>H.cO 3 rfl rfl λw5 H=>H.bD 3 rfl (an (tZ (mO id ten set ak) y (by show 1<=1000000;omega) _ (fI.ay (H.box 2 rfl))) ?_))
 rintro _ w6 ⟨rfl,m6⟩
 have H:=H.frame m6
 refine aN ?_
 cases hm:bK (mO id ten set ak)with
 |false=>
  rw[hm,if_neg (by decide)]at hC
  rw[hC,if_neg (by decide)]at hR
  subst hR
  rw[hC]
  exact ite_true rfl (H.cO 0 rfl rfl λw8 H=>H.bD 0 rfl ⟨⟨none,0,0⟩,rfl,sL H.mod λw=>fI.nil w⟩)
 |true=>
  rw[hm,if_pos rfl]at hC
  rw[hC,if_pos rfl]at hR
  subst hR
  rw[hC]
  refine ite_false rfl (H.bD 3 rfl (H.cO 0 rfl rfl λw8 H=>H.bD 0 rfl ⟨y,rfl,?_⟩))
  refine H.boxed λw' h=>?_
  have h2:(aA.box f λw=>fI w y (mO id ten set ak).ay).ok w':=h 2 _ rfl
  exact h2.2 w' λ_ _=>rfl
theorem HJ:zc Pr dM=jP 0 0 ⟨none,0,0⟩ 0 0:=by kernel_rfl
theorem oB:zc Pr aQ=lz 0 ⟨none,0,0⟩ ⟨none,0,0⟩ ⟨none,0,0⟩ ⟨none,0,0⟩ ⟨none,0,0⟩:=by kernel_rfl
def nN(t:aH)(i:Nat)(p:bE):Bool:=decide (p.id=(i:Int)+1)&&(aF 1 (t.bn.length:Int) p.ten&&(decide (p.key.length=jf 1)&&fz p.high p.used))
def mQ(t:aH):Nat->Bool
 |0=>true
 |i+1=>mQ t i&&nN t i (t.ax.getD i dK)
def kW(t:aH)(i:Nat)(k:aI):Bool:=decide (k.id=(i:Int)+1)&&(aF 1 (t.bn.length:Int) k.ten&&bK k)
def mS(t:aH):Nat->Bool
 |0=>true
 |i+1=>mS t i&&kW t i (t.keys.getD i kz)
def oT(t:aH)(g:bu):Bool:=decide ((t.keys.length:Int)<g.n1)||decide ((t.ax.length:Int)<g.n2)
def Ay(t:aH):Bool:=aF 0 1099511627776 t.clock&&(decide (t.bN.length=32)&&(decide (1<=t.bn.length)&&(gE t.bn&&(aF 1 6 (t.ax.length:Int)&&(decide (t.keys.length<=6)&&fy t.aL)))))
def cP(t:aH):Bool:=Ay t&&(mQ t t.ax.length&&(mS t t.keys.length&&!t.aL.any (oT t)))
theorem HK{t:aH}{i:Nat}(h:nN t i (t.ax.getD i dK)=false):∀n,i<n->mQ t n=false
 |0,hn=>by omega
 |n+1,hn=>by
  show(mQ t n&&_)=false
  rcases Nat.lt_or_ge i n with h2|h2
  ·rw[HK h n h2,Bool.false_and]
  ·rw[show n=i by omega,h,Bool.and_false]
theorem LQ{t:aH}{i:Nat}(h:kW t i (t.keys.getD i kz)=false):∀n,i<n->mS t n=false
 |0,hn=>by omega
 |n+1,hn=>by
  show(mS t n&&_)=false
  rcases Nat.lt_or_ge i n with h2|h2
  ·rw[LQ h n h2,Bool.false_and]
  ·rw[show n=i by omega,h,Bool.and_false]
theorem vh.at{w:World}{s:ag}{ps:List bE}(h:vh w s ps){i:Nat}(hi:i<ps.length):
  (s.a.isSome=true/\(0:Int)<=(i:Int)/\(i:Int)<(s.n:Int))/\∃x:ag,Bytes w x (ps.getD i dK).key/\∀(j:Nat) (v:Value),((ps.getD i dK).cs x)[j]? = some v->w.cell? (Addr.add (Addr.add (base s.a) (Int.toNat (i:Int)*5)) j)=some v:=
 Dv.at bE.bA (by omega) h (by rw[List.getD_eq_getElem?_getD,List.getElem?_eq_getElem hi];rfl)
theorem yI.at{w:World}{s:ag}{ks:List aI}(h:yI w s ks){i:Nat}(hi:i<ks.length):
  (s.a.isSome=true/\(0:Int)<=(i:Int)/\(i:Int)<(s.n:Int))/\∃x:ag,dD w x (ks.getD i kz).ay/\∀(j:Nat) (v:Value),((ks.getD i kz).cs x)[j]? = some v->w.cell? (Addr.add (Addr.add (base s.a) (Int.toNat (i:Int)*4)) j)=some v:=
 Dv.at aI.bA (by omega) h (by rw[List.getD_eq_getElem?_getD,List.getElem?_eq_getElem hi];rfl)
theorem sM{t:aH}(hs:t.small){i:Nat}(hi:i<t.keys.length):(t.keys.getD i kz).ay.length<=1000:=by
 refine hs.aJ _ ?_
 rw[List.getD_eq_getElem?_getD,List.getElem?_eq_getElem hi]
 exact List.getElem_mem hi
def Vh(w:World)(g:Value)(p:bu->Bool):Prop:=∀(t:bu) (w':World),Mod [] w w'->qH Pr g [.agg ⟨t.cells⟩] w' λv bS=>v=.bool (p t)/\Mod [] w' bS
theorem X4(g:Value)(p:bu->Bool)(x:ag)(ts:List bu)(hl:ts.length<=1000000000)(w:World)(hx:fN w x ts)(hg:Vh w g p):
  Ok Pr OO [.slice x.a x.n x.c,g] w λv w'=>∃z:Int,v=.int .i64 z/\decide (0<=z)=ts.any p/\Mod [] w w':=by
 refine aC Tryz.func129 (L:=[(2,[(8,.int .i64)])]) ?_
 have aT:=hx.len
 refine bG 0 ts.length (λi w'=>(ts.take i).any p=false/\Mod [] w w') rfl (by omega) ⟨rfl,Mod.refl _ _⟩ ?_ ?_
 ·rintro again i w1 _ hi ⟨hn,m⟩ aB
  refine ite_true (decide_eq_true (by omega)) ((hx.av m).ld hi rfl (DI (hg _ w1 m) ?_))
  rintro _ w2 ⟨rfl,m2⟩
  refine aN (aZ (λhc=>?_) (λhc=>?_))
  ·exact⟨_,rfl,by rw[vw p ts i hi gz hc];exact decide_eq_true (by omega),m.trans m2⟩
  ·exact⟨⟨by omega,by omega⟩,aB w2 ⟨by rw[vv p ts i hi gz,hn,hc];rfl,m.trans m2⟩⟩
 ·rintro again w1 ⟨hn,m⟩
  rw[List.take_of_length_le (Nat.le_refl _)]at hn
  exact ite_false (decide_eq_false (by omega)) ⟨_,rfl,by rw[hn];rfl,m⟩
theorem XZ(g:Value)(p:bu->Bool)(x:ag)(ts:List bu)(hl:ts.length<=1000000000)(w:World)(hx:fN w x ts)(hg:Vh w g p):
  Ok Pr XM [.slice x.a x.n x.c,g] w λv w'=>v=.bool (ts.any p)/\Mod [] w w':=by
 refine aC Tryz.func73 ?_
 refine an (X4 g p x ts hl w hx hg) ?_
 rintro _ w1 ⟨z,rfl,hz,m⟩
 exact bH ⟨by rw[hz],m⟩
theorem afI:jB Pr aaM=true:=by kernel_rfl
theorem QS(s:bW)(t:aH)(hs:t.small)(w:World)(hx:dF w s t):Ok Pr ac3 [.agg ⟨t.cs s⟩] w λv w'=>v=.bool (cP t)/\Mod [] w w':=by
 refine aC Tryz.func34 (J:=[(3,[])]) (L:=[(5,[(59,.int .i64)]),(11,[(97,.int .i64)])]) ?_
 rw[HJ,kN]
 have Jq:=hx.sec.len
 have vi:=hx.ten.len
 have mB:=hx.ax.len
 have od:=hx.key.len
 have Bk:=hx.gr.len
 have sy:=hs.ten
 have sA:=hs.ax
 have nS:=hs.key
 have sB:=hs.gr
 refine(ah.start w).nw λp w1 H _=>?_
 have H:ah w [] w1 [.aj p (t.cs s) aQ]:=H
 have no:∀ {w2:World},Mod [] w w2->cP t=false->(λv w'=>v=Value.bool (cP t)/\Mod [] w w') (.bool false) w2:=λm h=>⟨by rw[h],m⟩
 refine gi λgo aV=>?_
 have Nm:∀w2,Mod [] w1 w2->Ay t=true->go w2:=by
  intro w2 m2 hp
  refine aV w2 (an (Ql 1 w2) ?_)
  have eM:cP t=(mQ t t.ax.length&&(mS t t.keys.length&&!t.aL.any (oT t))):=by unfold cP;rw[hp];rfl
  rintro _ w3 ⟨rfl,m3⟩
  have H:=H.frame (m2.trans m3)
  refine⟨_,rfl,_,rfl,_,rfl,_,rfl,rfl,H.az 0 rfl (ai p 3) rfl ?_⟩
  refine bG 0 t.ax.length (λi w'=>mQ t i=true/\ah w [] w' [.aj p (t.cs s) aQ]) rfl (by omega) ⟨rfl,H⟩ ?_ ?_
  ·rintro again i w4 _ hi ⟨cI,H⟩ aB
   obtain⟨bF,x,vj,hc⟩:=(hx.ax.av H.mod).at hi
   have hS:mQ t (i+1)=(mQ t i&&nN t i (t.ax.getD i dK)):=rfl
   have hN:=HK (t:=t) (i:=i)
   have nn:∀ {w2:World},Mod [] w w2->nN t i (t.ax.getD i dK)=false->(λv w'=>v=Value.bool (cP t)/\Mod [] w w') (.bool false) w2:=λm h=>no m (by rw[eM,hN h _ hi];rfl)
   have br:=vj.len
   have hP:nN t i (t.ax.getD i dK)=(decide ((t.ax.getD i dK).id=(i:Int)+1)&&(aF 1 (t.bn.length:Int) (t.ax.getD i dK).ten&&(decide ((t.ax.getD i dK).key.length=jf 1)&&fz (t.ax.getD i dK).high (t.ax.getD i dK).used))):=rfl
   generalize t.ax.getD i dK=q at*
   refine ite_true (decide_eq_true (by omega)) ⟨bF,F6 hc (H.nw λp1 w5 D _=>D.xq 1 rfl rfl λw6 D=>?_)⟩
   have D:ah w [] w6 [.aj p (t.cs s) aQ,.aj p1 (q.cs x) dM]:=D
   refine D.au 1 rfl (ai p1 0) rfl ⟨⟨by omega,by omega⟩,D.au 1 rfl (ai p1 1) rfl (D.az 0 rfl (ai p 2) rfl ?_)⟩
   by_cases e1:q.id=(i:Int)+1
   case neg=>
    refine ite_true (by rw[decide_eq_false e1];rfl) (D.az 1 rfl (ai p1 2) rfl (D.au 1 rfl (ai p1 3) rfl (D.au 1 rfl (ai p1 4) rfl (nn D.mod ?_))))
    rw[hP,decide_eq_false e1];rfl
   refine ite_false (by rw[decide_eq_true e1];rfl) (an (GH _ _ _ _) ?_)
   rintro _ w7 ⟨rfl,tP⟩
   subst tP
   refine aN (D.az 1 rfl (ai p1 2) rfl (D.au 1 rfl (ai p1 3) rfl (D.au 1 rfl (ai p1 4) rfl ?_)))
   have e2:aF 1 (s.ten.n:Int) q.ten=aF 1 (t.bn.length:Int) q.ten:=by rw[vi]
   rw[e2]
   have e3:(decide ((x.n:Int)=(jf 1:Int)))=decide (q.key.length=jf 1):=by
    by_cases h:q.key.length=jf 1
    ·rw[decide_eq_true h];exact decide_eq_true (by omega)
    ·rw[decide_eq_false h];exact decide_eq_false (by omega)
   rw[e3]
   rw[decide_eq_true e1,Bool.true_and]at hP
   cases c1:aF 1 (t.bn.length:Int) q.ten with
   |false=>exact ite_true rfl (nn D.mod (by rw[hP,c1];rfl))
   |true=>
    rw[c1,Bool.true_and]at hP
    cases c2:decide (q.key.length=jf 1)with
    |false=>exact ite_true rfl (nn D.mod (by rw[hP,c2];rfl))
    |true=>
     rw[c2,Bool.true_and]at hP
     refine ite_false rfl (an (JY _ _ _) ?_)
     rintro _ w8 ⟨rfl,FU⟩
     subst FU
     refine aN ?_
     cases c3:fz q.high q.used with
     |false=>exact ite_true rfl (nn D.mod (by rw[hP,c3]))
     |true=>exact ite_false rfl ⟨⟨by omega,by omega⟩,aB _ ⟨by rw[hS,cI,hP,c3];rfl,D.front (L:=[_])⟩⟩
  ·rintro again w4 ⟨Oz,H⟩
   rw[Oz,Bool.true_and]at eM
   refine ite_false (decide_eq_false (by omega)) (H.az 0 rfl (ai p 4) rfl ?_)
   refine bG 0 t.keys.length (λi w'=>mS t i=true/\ah w [] w' [.aj p (t.cs s) aQ]) rfl (by omega) ⟨rfl,H⟩ ?_ ?_
   ·rintro again i w4 _ hi ⟨cI,H⟩ aB
    obtain⟨bF,x,vj,hc⟩:=hx.key.at hi
    have hS:mS t (i+1)=(mS t i&&kW t i (t.keys.getD i kz)):=rfl
    have hN:=LQ (t:=t) (i:=i)
    have nn:∀ {w2:World},Mod [] w w2->kW t i (t.keys.getD i kz)=false->(λv w'=>v=Value.bool (cP t)/\Mod [] w w') (.bool false) w2:=λm h=>no m (by rw[eM,hN h _ hi];rfl)
    have q8:=sM hs hi
    have hP:kW t i (t.keys.getD i kz)=(decide ((t.keys.getD i kz).id=(i:Int)+1)&&(aF 1 (t.bn.length:Int) (t.keys.getD i kz).ten&&bK (t.keys.getD i kz))):=rfl
    generalize t.keys.getD i kz=q at*
    refine ite_true (decide_eq_true (by omega)) ⟨bF,mC (λj v h=>H.mod.qa (hc j v h)) (H.nw λp1 w5 D _=>D.cO 1 rfl rfl λw6 D=>?_)⟩
    have D:ah w [] w6 [.aj p (t.cs s) aQ,.aj p1 (bY q.id q.ten q.set x) aW]:=D
    refine D.au 1 rfl (ai p1 0) rfl ⟨⟨by omega,by omega⟩,D.au 1 rfl (ai p1 1) rfl (D.az 0 rfl (ai p 2) rfl ?_)⟩
    by_cases e1:q.id=(i:Int)+1
    case neg=>
     refine ite_true (by rw[decide_eq_false e1];rfl) (D.bD 1 rfl (nn D.mod ?_))
     rw[hP,decide_eq_false e1];rfl
    refine ite_false (by rw[decide_eq_true e1];rfl) (an (GH _ _ _ _) ?_)
    rintro _ w7 ⟨rfl,tP⟩
    subst tP
    refine aN (D.bD 1 rfl ?_)
    have e2:aF 1 (s.ten.n:Int) q.ten=aF 1 (t.bn.length:Int) q.ten:=by rw[vi]
    rw[e2]
    rw[decide_eq_true e1,Bool.true_and]at hP
    cases c1:aF 1 (t.bn.length:Int) q.ten with
    |false=>exact ite_true rfl (nn D.mod (by rw[hP,c1];rfl))
    |true=>
     rw[c1,Bool.true_and]at hP
     refine ite_false rfl (an (xF q x (by omega) _ (vj.av D.mod)) ?_)
     rintro _ w8 ⟨rfl,m8⟩
     refine aN ?_
     cases c3:bK q with
     |false=>exact ite_true rfl (nn (D.mod.trans m8) (by rw[hP,c3]))
     |true=>exact ite_false rfl ⟨⟨by omega,by omega⟩,aB _ ⟨by rw[hS,cI,hP,c3];rfl,(D.front (L:=[_])).frame m8⟩⟩
   ·rintro again w4 ⟨OA,H⟩
    rw[OA,Bool.true_and]at eM
    refine ite_false (decide_eq_false (by omega)) (H.az 0 rfl (ai p 5) rfl (an (XZ _ (oT t) s.gr t.aL (by omega) w4 (hx.gr.av H.mod) λg w5 m=>?_) ?_))
    ·refine zP afI (aC Tryz.func74 ?_)
     have b1:bp w5 p (t.cs s) aQ:=(H.frame m).aj 0 rfl
     refine(ah.start w5).nw λq w6 K _=>?_
     have c1:=b1.av K.mod
     refine K.au 0 rfl (ai q 1) rfl (c1.az rfl rfl (K.au 0 rfl (ai q 2) rfl (c1.az rfl rfl ⟨?_,K.mod⟩)))
     unfold oT
     rw[od,mB]
    ·rintro _ w5 ⟨rfl,m⟩
     exact aN ⟨by rw[eM],H.mod.trans m⟩
 refine H.au 0 rfl (ai p 0) rfl (an (GH _ _ _ _) ?_)
 rintro _ w2 ⟨rfl,so⟩
 subst so
 refine aN (H.az 0 rfl (ai p 1) rfl (H.az 0 rfl (ai p 2) rfl (H.az 0 rfl (ai p 2) rfl ?_)))
 have eP:Ay t=(aF 0 1099511627776 t.clock&&(decide (t.bN.length=32)&&(decide (1<=t.bn.length)&&(gE t.bn&&(aF 1 6 (t.ax.length:Int)&&(decide (t.keys.length<=6)&&fy t.aL)))))):=rfl
 have Bl:∀ {w2:World},Mod [] w w2->Ay t=false->(λv w'=>v=Value.bool (cP t)/\Mod [] w w') (.bool false) w2:=λm h=>no m (by unfold cP;rw[h];rfl)
 have e1:decide ((s.sec.n:Int)=32)=decide (t.bN.length=32):=by
  by_cases h:t.bN.length=32
  ·rw[decide_eq_true h];exact decide_eq_true (by omega)
  ·rw[decide_eq_false h];exact decide_eq_false (by omega)
 have e2:decide ((s.ten.n:Int)=0)=!decide (1<=t.bn.length):=by
  by_cases h:1<=t.bn.length
  ·rw[decide_eq_true h];exact decide_eq_false (by omega)
  ·rw[decide_eq_false h];exact decide_eq_true (by omega)
 rw[e1,e2]
 cases c1:aF 0 1099511627776 t.clock with
 |false=>exact ite_true rfl (H.az 0 rfl (ai p 3) rfl (H.az 0 rfl (ai p 4) rfl (H.az 0 rfl (ai p 5) rfl (Bl H.mod (by rw[eP,c1];rfl)))))
 |true=>
 cases c2:decide (t.bN.length=32)with
 |false=>exact ite_true rfl (H.az 0 rfl (ai p 3) rfl (H.az 0 rfl (ai p 4) rfl (H.az 0 rfl (ai p 5) rfl (Bl H.mod (by rw[eP,c1,c2];rfl)))))
 |true=>
 cases c3:decide (1<=t.bn.length)with
 |false=>exact ite_true rfl (H.az 0 rfl (ai p 3) rfl (H.az 0 rfl (ai p 4) rfl (H.az 0 rfl (ai p 5) rfl (Bl H.mod (by rw[eP,c1,c2,c3];rfl)))))
 |true=>
 rw[c1,c2,c3,Bool.true_and,Bool.true_and,Bool.true_and]at eP
 refine ite_false rfl (an (JS s.ten t.bn (by omega) _ (hx.ten.av H.mod)) ?_)
 rintro _ w3 ⟨rfl,m3⟩
 have H:=H.frame m3
 refine aN (H.az 0 rfl (ai p 3) rfl ?_)
 cases c4:gE t.bn with
 |false=>exact ite_true rfl (H.az 0 rfl (ai p 4) rfl (H.az 0 rfl (ai p 5) rfl (Bl H.mod (by rw[eP,c4];rfl))))
 |true=>
 rw[c4,Bool.true_and]at eP
 refine ite_false rfl (an (GH _ _ _ _) ?_)
 rintro _ w4 ⟨rfl,OB⟩
 subst OB
 refine aN (H.az 0 rfl (ai p 4) rfl (H.az 0 rfl (ai p 5) rfl ?_))
 have e3:aF 1 6 (s.ax.n:Int)=aF 1 6 (t.ax.length:Int):=by rw[mB]
 have e4:decide (6<(s.key.n:Int))=!decide (t.keys.length<=6):=by
  by_cases h:t.keys.length<=6
  ·rw[decide_eq_true h];exact decide_eq_false (by omega)
  ·rw[decide_eq_false h];exact decide_eq_true (by omega)
 rw[e3,e4]
 cases c5:aF 1 6 (t.ax.length:Int)with
 |false=>exact ite_true rfl (Bl H.mod (by rw[eP,c5];rfl))
 |true=>
 cases c6:decide (t.keys.length<=6)with
 |false=>exact ite_true rfl (Bl H.mod (by rw[eP,c5,c6];rfl))
 |true=>
 rw[c5,c6,Bool.true_and,Bool.true_and]at eP
 refine ite_false rfl (an (Gf s.gr t.aL (by omega) _ (hx.gr.av H.mod)) ?_)
 rintro _ w5 ⟨rfl,m5⟩
 refine aN ?_
 cases c7:fy t.aL with
 |false=>exact ite_true rfl (Bl (H.mod.trans m5) (by rw[eP,c7]))
 |true=>exact ite_false rfl (Nm _ (m3.trans m5) (by rw[eP,c7]))
def OC(a x:Int):Int:=if a / 2<x%a then x%a - a else x%a
def GG(g:Int):Prop:=g=95232\/g=261888
def Wi(g x:Int):Int:=if x%8380417 - OC (2*g) (x%8380417)=8380416 then OC (2*g) (x%8380417) - 1 else OC (2*g) (x%8380417)
def part(G:Nat->Int)(n i:Nat):List Int:=(List.range i).map G++List.replicate (n - i) 0
structure akv(s:qP):Prop where
 k0:0<s.k
 k:s.k<=8
 l0:0<s.l
 l:s.l<=7
 eta:(s.eta:Int)=2\/(s.eta:Int)=4
 c:s.c<=64
theorem akw{set:Int}(h:isSet set=true):akv (dx set):=by
 unfold isSet at h
 simp only[Bool.or_eq_true,decide_eq_true_eq]at h
 rcases h with rfl|rfl|rfl
 ·exact⟨by decide,by decide,by decide,by decide,.inl rfl,by decide⟩
 ·exact⟨by decide,by decide,by decide,by decide,.inr rfl,by decide⟩
 ·exact⟨by decide,by decide,by decide,by decide,.inl rfl,by decide⟩
def wid(s:qP):Nat:=if s.eta=2 then 3 else 4
def Below(b:Int)(fs:List (List Int)):Prop:=∀f∈fs,f.length=256/\∀x∈f,0<=x/\x<b
structure akx(s:qP):Prop where
 g2:GG (s.g2:Int)
 g1:s.g1=131072\/s.g1=524288
 omega:s.omega<=80
 beta:s.beta<=196
theorem aky{set:Int}(h:isSet set=true):akx (dx set):=by
 unfold isSet at h
 simp only[Bool.or_eq_true,decide_eq_true_eq]at h
 rcases h with rfl|rfl|rfl
 ·exact⟨.inl rfl,.inl rfl,by decide,by decide⟩
 ·exact⟨.inr rfl,.inr rfl,by decide,by decide⟩
 ·exact⟨.inr rfl,.inr rfl,by decide,by decide⟩
def ajC(f:List Int)(n:Nat):List B8:=(List.range n).flatMap λj=>if f.getD j 0=1 then [BitVec.ofNat 8 j] else []
def plc(fs:List (List Int))(n:Nat):List B8:=(List.range n).flatMap λj=>ajC (fs.getD j []) 256
def akz(s:qP)(fs:List (List Int)):Int:=if (plc fs fs.length).length<=s.omega then 0 else 5
def ak9(g:Int)(m:Int)(f:List Int):Int:=f.foldl (λm v=>max (max m (Wi g v)) (0 - Wi g v)) m
def ala(g:Int)(X:List (List Int)):Int:=X.foldl (ak9 g) 0
def yG(s:qP)(Z X T H:List (List Int)):Bool:=decide (VF Z<(s.g1:Int) - s.beta)&&(decide (ala s.g2 X<(s.g2:Int) - s.beta)&&(decide (VF T<(s.g2:Int))&&decide (akz s H=0)))
theorem ahI{set:Int}(bk:isSet set=true):32+320*(dx set).k=jf set/\128+32*(((dx set).k+(dx set).l)*wid (dx set)+13*(dx set).k)=C6 set/\(dx set).c+32*(dx set).l*uF (dx set)+(dx set).omega+(dx set).k=C7 set:=by
 unfold isSet at bk
 simp only[Bool.or_eq_true,decide_eq_true_eq]at bk
 rcases bk with rfl|rfl|rfl<;>decide
theorem PX(set:Int)(bk:isSet set=true)(w:World):Ok Pr aaU [.int .i64 set] w λv w'=>v=.tuple ⟨[.int .i64 (jf set),.int .i64 (C6 set),.int .i64 (C7 set)]⟩/\Mod [] w w':=by
 refine aC Tryz.func97 ?_
 rw[Su]
 obtain⟨e1,e2,e3⟩:=ahI bk
 have hG:=akw bk
 have hX:=aky bk
 have hg1:=ajl bk
 refine an (aea set w) ?_
 rintro _ w1 ⟨rfl,m1⟩
 rw[bk]
 generalize dx set=s at*
 have hk8:=hG.k
 have Jg:=hG.l
 have hc:=hG.c
 have hom:=hX.omega
 have hwi:(if s.eta=2 then (3:Int) else 4)=((wid s:Nat):Int):=by unfold wid;split<;>rfl
 have OB:wid s<=4:=by unfold wid;split<;>omega
 have alb:uF s<=20:=by unfold uF;split<;>omega
 refine⟨_,rfl,aix ⟨_,rfl,rfl,((ah.start w).frame m1).nw λp w2 H _=>H.xy 0 rfl rfl λw3 H=>ite_false rfl (H.vB 0 rfl (an (abB hg1 _) ?_))⟩⟩
 rintro _ w4 ⟨rfl,m4⟩
 have H:=(H.frame m4).drew
 rw[hwi]
 have h1:((s.k:Int)+(s.l:Int))*((wid s:Nat):Int)=(((s.k+s.l)*wid s:Nat):Int):=by push_cast;rfl
 have h2:(32:Int)*(s.l:Int)*((uF s:Nat):Int)=((32*s.l*uF s:Nat):Int):=by push_cast;rfl
 have b1:(s.k+s.l)*wid s<=15*4:=Nat.mul_le_mul (by omega) OB
 have b2:32*s.l*uF s<=224*20:=Nat.mul_le_mul (by omega) alb
 generalize (s.k+s.l)*wid s=A at*
 generalize 32*s.l*uF s=B at*
 refine⟨_,rfl,_,rfl,_,rfl,rfl,H.au 0 rfl (ai p 0) rfl ⟨⟨by omega,by omega⟩,⟨by omega,by omega⟩,H.au 0 rfl (ai p 0) rfl (H.au 0 rfl (ai p 1) rfl ⟨⟨by omega,by omega⟩,⟨by omega,by omega⟩,H.au 0 rfl (ai p 0) rfl ⟨⟨by omega,by omega⟩,⟨by omega,by omega⟩,⟨by omega,by omega⟩,⟨by omega,by omega⟩,H.au 0 rfl (ai p 8) rfl (H.au 0 rfl (ai p 1) rfl ⟨⟨by omega,by omega⟩,⟨by omega,by omega⟩,⟨by omega,by omega⟩,H.au 0 rfl (ai p 5) rfl ⟨⟨by omega,by omega⟩,H.au 0 rfl (ai p 0) rfl ⟨⟨by omega,by omega⟩,?_,H.mod⟩⟩⟩)⟩⟩)⟩⟩
 rw[h1,h2,<- e1,<- e2,<- e3]
 push_cast
 rfl
theorem ZS(s:bW)(t:aH)(hs:t.small)(w:World)(hx:dF w s t):Ok Pr ZZ [.agg ⟨t.cs s⟩] w λv w'=>v=.bool (aF 1 6 (t.ax.length:Int)&&mQ t t.ax.length)/\Mod [] w w':=by
 refine aC Tryz.func47 (L:=[(3,[(6,.int .i64)])]) ?_
 rw[HJ]
 have vi:=hx.ten.len
 have mB:=hx.ax.len
 have sA:=hs.ax
 refine(ah.start w).nw λp w1 H _=>?_
 have H:ah w [] w1 [.aj p (t.cs s) aQ]:=H
 refine an (PX 1 rfl w1) ?_
 rintro _ w3 ⟨rfl,m3⟩
 have H:=H.frame m3
 refine⟨_,rfl,_,rfl,_,rfl,_,rfl,rfl,?_⟩
 by_cases h6:t.ax.length<=6
 case neg=>
  refine qA (λx w'=>ah w [] w' [.aj p (t.cs s) aQ]) (λ_ _=>0) H ?_
  intro again i w4 H aB
  refine H.az 0 rfl (ai p 3) rfl (H.az 0 rfl (ai p 3) rfl (ite_false ?_ (H.az 0 rfl (ai p 3) rfl (H.az 0 rfl (ai p 3) rfl ⟨?_,H.mod⟩))))
  ·rw[show decide ((s.ax.n:Int)<=6)=false from decide_eq_false (by omega),Bool.and_false]
  ·have e:aF 1 6 (t.ax.length:Int)=false:=by unfold aF;rw[show decide ((t.ax.length:Int)<=6)=false from decide_eq_false (by omega),Bool.and_false]
   rw[e,show decide ((s.ax.n:Int)<=6)=false from decide_eq_false (by omega),Bool.and_false];rfl
 have Df:decide ((s.ax.n:Int)<=6)=true:=decide_eq_true (by omega)
 refine bG 0 t.ax.length (λi w'=>mQ t i=true/\ah w [] w' [.aj p (t.cs s) aQ]) rfl (by omega) ⟨rfl,H⟩ ?_ ?_
 ·rintro again i w4 _ hi ⟨cI,H⟩ aB
  obtain⟨bF,x,vj,hc⟩:=(hx.ax.av H.mod).at hi
  have hS:mQ t (i+1)=(mQ t i&&nN t i (t.ax.getD i dK)):=rfl
  have hN:=HK (t:=t) (i:=i)
  have nn:∀ {w2:World},Mod [] w w2->nN t i (t.ax.getD i dK)=false->(λv w'=>v=Value.bool (aF 1 6 (t.ax.length:Int)&&mQ t t.ax.length)/\Mod [] w w') (.bool false) w2:=λm h=>⟨by rw[hN h _ hi,Bool.and_false],m⟩
  have br:=vj.len
  have hP:nN t i (t.ax.getD i dK)=(decide ((t.ax.getD i dK).id=(i:Int)+1)&&(aF 1 (t.bn.length:Int) (t.ax.getD i dK).ten&&(decide ((t.ax.getD i dK).key.length=jf 1)&&fz (t.ax.getD i dK).high (t.ax.getD i dK).used))):=rfl
  generalize t.ax.getD i dK=q at*
  refine H.az 0 rfl (ai p 3) rfl (H.az 0 rfl (ai p 3) rfl (ite_true (by rw[Df,Bool.and_true];exact decide_eq_true (by omega)) (H.az 0 rfl (ai p 3) rfl ⟨bF,F6 hc (H.nw λp1 w5 D _=>D.xq 1 rfl rfl λw6 D=>?_)⟩)))
  have D:ah w [] w6 [.aj p (t.cs s) aQ,.aj p1 (q.cs x) dM]:=D
  refine D.au 1 rfl (ai p1 0) rfl ⟨⟨by omega,by omega⟩,D.az 0 rfl (ai p 2) rfl (D.au 1 rfl (ai p1 1) rfl ?_)⟩
  by_cases e1:q.id=(i:Int)+1
  case neg=>
   refine ite_true (by rw[decide_eq_false e1];rfl) (D.az 1 rfl (ai p1 2) rfl (D.au 1 rfl (ai p1 3) rfl (D.au 1 rfl (ai p1 4) rfl (nn D.mod ?_))))
   rw[hP,decide_eq_false e1];rfl
  refine ite_false (by rw[decide_eq_true e1];rfl) (an (Dp s.ten t.bn q.ten w6 (hx.ten.av D.mod)) ?_)
  rintro _ w7 ⟨rfl,tP⟩
  subst tP
  refine aN (D.az 1 rfl (ai p1 2) rfl (D.au 1 rfl (ai p1 3) rfl (D.au 1 rfl (ai p1 4) rfl ?_)))
  have e3:(decide ((x.n:Int)=(jf 1:Int)))=decide (q.key.length=jf 1):=by
   by_cases h:q.key.length=jf 1
   ·rw[decide_eq_true h];exact decide_eq_true (by omega)
   ·rw[decide_eq_false h];exact decide_eq_false (by omega)
  rw[e3]
  rw[decide_eq_true e1,Bool.true_and]at hP
  cases c1:aF 1 (t.bn.length:Int) q.ten with
  |false=>exact ite_true rfl (nn D.mod (by rw[hP,c1];rfl))
  |true=>
   rw[c1,Bool.true_and]at hP
   cases c2:decide (q.key.length=jf 1)with
   |false=>exact ite_true rfl (nn D.mod (by rw[hP,c2];rfl))
   |true=>
    rw[c2,Bool.true_and]at hP
    refine ite_false rfl (an (Kl _ _ _) ?_)
    rintro _ w8 ⟨rfl,FU⟩
    subst FU
    refine aN ?_
    cases c3:fz q.high q.used with
    |false=>exact ite_true rfl (nn D.mod (by rw[hP,c3]))
    |true=>exact ite_false rfl ⟨⟨by omega,by omega⟩,aB _ ⟨by rw[hS,cI,hP,c3];rfl,D.front (L:=[_])⟩⟩
 ·rintro again w4 ⟨Oz,H⟩
  refine H.az 0 rfl (ai p 3) rfl (H.az 0 rfl (ai p 3) rfl (ite_false (by rw[Df,Bool.and_true];exact decide_eq_false (by omega)) (H.az 0 rfl (ai p 3) rfl (H.az 0 rfl (ai p 3) rfl ⟨?_,H.mod⟩))))
  rw[Oz,Bool.and_true,mB];rfl
theorem abM(s:bW)(t:aH)(hs:t.small)(w:World)(hx:dF w s t):Ok Pr ab1 [.agg ⟨t.cs s⟩] w λv w'=>v=.bool (decide (t.keys.length<=6)&&mS t t.keys.length)/\Mod [] w w':=by
 refine aC Tryz.func48 (L:=[(2,[(3,.int .i64)])]) ?_
 rw[kN]
 have od:=hx.key.len
 have nS:=hs.key
 refine(ah.start w).nw λp w1 H _=>?_
 have H:ah w [] w1 [.aj p (t.cs s) aQ]:=H
 by_cases h6:t.keys.length<=6
 case neg=>
  refine qA (λx w'=>ah w [] w' [.aj p (t.cs s) aQ]) (λ_ _=>0) H ?_
  intro again i w4 H aB
  refine H.az 0 rfl (ai p 4) rfl (H.az 0 rfl (ai p 4) rfl (ite_false ?_ (H.az 0 rfl (ai p 4) rfl ⟨?_,H.mod⟩)))
  ·rw[show decide ((s.key.n:Int)<=6)=false from decide_eq_false (by omega),Bool.and_false]
  ·rw[decide_eq_false h6,show decide ((s.key.n:Int)<=6)=false from decide_eq_false (by omega)];rfl
 have Df:decide ((s.key.n:Int)<=6)=true:=decide_eq_true (by omega)
 refine bG 0 t.keys.length (λi w'=>mS t i=true/\ah w [] w' [.aj p (t.cs s) aQ]) rfl (by omega) ⟨rfl,H⟩ ?_ ?_
 ·rintro again i w4 _ hi ⟨cI,H⟩ aB
  obtain⟨bF,x,vj,hc⟩:=hx.key.at hi
  have hS:mS t (i+1)=(mS t i&&kW t i (t.keys.getD i kz)):=rfl
  have hN:=LQ (t:=t) (i:=i)
  have nn:∀ {w2:World},Mod [] w w2->kW t i (t.keys.getD i kz)=false->(λv w'=>v=Value.bool (decide (t.keys.length<=6)&&mS t t.keys.length)/\Mod [] w w') (.bool false) w2:=λm h=>⟨by rw[hN h _ hi,Bool.and_false],m⟩
  have q8:=sM hs hi
  have hP:kW t i (t.keys.getD i kz)=(decide ((t.keys.getD i kz).id=(i:Int)+1)&&(aF 1 (t.bn.length:Int) (t.keys.getD i kz).ten&&bK (t.keys.getD i kz))):=rfl
  generalize t.keys.getD i kz=q at*
  refine H.az 0 rfl (ai p 4) rfl (H.az 0 rfl (ai p 4) rfl (ite_true (by rw[Df,Bool.and_true];exact decide_eq_true (by omega)) (H.az 0 rfl (ai p 4) rfl ⟨bF,mC (λj v h=>H.mod.qa (hc j v h)) (H.nw λp1 w5 D _=>D.cO 1 rfl rfl λw6 D=>?_)⟩)))
  have D:ah w [] w6 [.aj p (t.cs s) aQ,.aj p1 (bY q.id q.ten q.set x) aW]:=D
  refine D.au 1 rfl (ai p1 0) rfl ⟨⟨by omega,by omega⟩,D.bD 1 rfl ?_⟩
  by_cases e1:q.id=(i:Int)+1
  case neg=>
   refine ite_true (by rw[decide_eq_false e1];rfl) (D.az 0 rfl (ai p 2) rfl (D.au 1 rfl (ai p1 1) rfl (nn D.mod ?_)))
   rw[hP,decide_eq_false e1];rfl
  refine ite_false (by rw[decide_eq_true e1];rfl) (an (tZ q x (by omega) _ (vj.av D.mod)) ?_)
  rintro _ w7 ⟨rfl,m7⟩
  have D:=D.frame m7
  refine aN (D.az 0 rfl (ai p 2) rfl (D.au 1 rfl (ai p1 1) rfl ?_))
  rw[decide_eq_true e1,Bool.true_and]at hP
  cases c3:bK q with
  |false=>exact ite_true rfl (nn D.mod (by rw[hP,c3,Bool.and_false]))
  |true=>
   rw[c3,Bool.and_true]at hP
   refine ite_false rfl (an (Dp s.ten t.bn q.ten _ (hx.ten.av D.mod)) ?_)
   rintro _ w8 ⟨rfl,FU⟩
   subst FU
   refine aN ?_
   cases c1:aF 1 (t.bn.length:Int) q.ten with
   |false=>exact ite_true rfl (nn D.mod (by rw[hP,c1]))
   |true=>exact ite_false rfl ⟨⟨by omega,by omega⟩,aB _ ⟨by rw[hS,cI,hP,c1];rfl,D.front (L:=[_])⟩⟩
 ·rintro again w4 ⟨OA,H⟩
  refine H.az 0 rfl (ai p 4) rfl (H.az 0 rfl (ai p 4) rfl (ite_false (by rw[Df,Bool.and_true];exact decide_eq_false (by omega)) (H.az 0 rfl (ai p 4) rfl ⟨?_,H.mod⟩)))
  rw[OA,Bool.and_true,Df,decide_eq_true h6]
theorem Gq(s:bW)(t:aH)(hs:t.small)(w:World)(hx:dF w s t):Ok Pr ac2 [.agg ⟨t.cs s⟩] w λv w'=>v=.bool (cP t)/\Mod [] w w':=by
 refine aC Tryz.func24 (J:=[(3,[])]) (L:=[(4,[(3,.int .i64)])]) ?_
 have Jq:=hx.sec.len
 have vi:=hx.ten.len
 have mB:=hx.ax.len
 have od:=hx.key.len
 have Bk:=hx.gr.len
 have sy:=hs.ten
 have sA:=hs.ax
 have nS:=hs.key
 have sB:=hs.gr
 refine(ah.start w).nw λp w1 H _=>?_
 have H:ah w [] w1 [.aj p (t.cs s) aQ]:=H
 have no:∀ {w2:World},Mod [] w w2->cP t=false->(λv w'=>v=Value.bool (cP t)/\Mod [] w w') (.bool false) w2:=λm h=>⟨by rw[h],m⟩
 have eT:cP t=(aF 0 1099511627776 t.clock&&(decide (t.bN.length=32)&&(decide (1<=t.bn.length)&&(gE t.bn&&(aF 1 6 (t.ax.length:Int)&&(decide (t.keys.length<=6)&&fy t.aL)))))&&(mQ t t.ax.length&&(mS t t.keys.length&&!t.aL.any (oT t)))):=rfl
 refine gi λgo aV=>?_
 have Nm:∀w2,Mod [] w1 w2->(cP t=!t.aL.any (oT t))->go w2:=by
  intro w2 m2 hp
  refine aV w2 ?_
  have H:=H.frame m2
  refine bG 0 t.aL.length (λi w'=>(t.aL.take i).any (oT t)=false/\ah w [] w' [.aj p (t.cs s) aQ]) rfl (by omega) ⟨rfl,H⟩ ?_ ?_
  ·rintro again i w3 _ hi ⟨cI,H⟩ aB
   have hS:=vv (oT t) t.aL i hi gz
   have hT:oT t (t.aL.getD i gz)=true->cP t=false:=λh=>by rw[hp,vw (oT t) t.aL i hi gz h];rfl
   have D:=H.drew
   have hg:=hx.gr.av D.mod
   have hb:oT t (t.aL.getD i gz)=(decide ((t.keys.length:Int)<(t.aL.getD i gz).n1)||decide ((t.ax.length:Int)<(t.aL.getD i gz).n2)):=rfl
   have bF:s.gr.a.isSome=true/\(0:Int)<=(i:Int)/\(i:Int)<(s.gr.n:Int):=⟨hg.pre (by omega),by omega,by omega⟩
   have iz:∀(j:Nat) (v:Value),(t.aL.getD i gz).cells[j]? = some v->w3.drew.cell? (Addr.add (Addr.add (base s.gr.a) (Int.toNat (i:Int)*6)) j)=some v:=λj v hv=>by
    rw[Int.toNat_natCast];exact fN.cell hg hi hv
   generalize t.aL.getD i gz=g at*
   refine H.az 0 rfl (ai p 5) rfl (ite_true (decide_eq_true (by omega)) (D.az 0 rfl (ai p 5) rfl ⟨bF,_,iz 1 _ rfl,D.az 0 rfl (ai p 4) rfl (D.az 0 rfl (ai p 5) rfl ?_)⟩))
   show dc (decide ((s.key.n:Int)<g.n1)) _ _
   rw[<- od]
   cases c1:decide ((t.keys.length:Int)<g.n1)with
   |true=>exact ite_true rfl (no D.mod (hT (by rw[hb,c1];rfl)))
   |false=>
    refine ite_false rfl ⟨bF,_,iz 2 _ rfl,D.az 0 rfl (ai p 3) rfl ?_⟩
    show dc (decide ((s.ax.n:Int)<g.n2)) _ _
    rw[<- mB]
    cases c2:decide ((t.ax.length:Int)<g.n2)with
    |true=>exact ite_true rfl (no D.mod (hT (by rw[hb,c2,Bool.or_true])))
    |false=>exact ite_false rfl ⟨⟨by omega,by omega⟩,aB _ ⟨by rw[hS,cI,hb,c1,c2];rfl,D⟩⟩
  ·rintro again w3 ⟨cI,H⟩
   rw[List.take_of_length_le (Nat.le_refl _)]at cI
   exact H.az 0 rfl (ai p 5) rfl (ite_false (decide_eq_false (by omega)) ⟨by rw[hp,cI];rfl,H.mod⟩)
 refine H.au 0 rfl (ai p 0) rfl (H.au 0 rfl (ai p 0) rfl (H.az 0 rfl (ai p 1) rfl (H.az 0 rfl (ai p 2) rfl (H.az 0 rfl (ai p 2) rfl ?_))))
 by_cases hf:(0<=t.clock/\t.clock<=1099511627776)/\t.bN.length=32/\1<=t.bn.length
 case neg=>
  refine ite_true ?_ (H.bC 0 rfl (H.bC 0 rfl (H.az 0 rfl (ai p 5) rfl (no H.mod ?_))))
  ·simp only[Bool.or_eq_true,decide_eq_true_eq,Bool.not_eq_true',decide_eq_false_iff_not];omega
  ·refine Bool.eq_false_iff.2 λh=>hf ?_
   rw[eT]at h
   simp only[Bool.and_eq_true,decide_eq_true_eq,aF]at h
   exact⟨h.1.1,h.1.2.1,h.1.2.2.1⟩
 refine ite_false ?_ ?_
 ·simp only[Bool.or_eq_false_iff,decide_eq_false_iff_not,Bool.not_eq_false',decide_eq_true_eq];omega
 have e0:aF 0 1099511627776 t.clock=true:=by unfold aF;rw[decide_eq_true hf.1.1,decide_eq_true hf.1.2];rfl
 rw[e0,decide_eq_true hf.2.1,decide_eq_true hf.2.2,Bool.true_and,Bool.true_and,Bool.true_and]at eT
 refine an (Gp s.ten t.bn (by omega) _ (hx.ten.av H.mod)) ?_
 rintro _ w3 ⟨rfl,m3⟩
 have H3:=H.frame m3
 refine aN (H3.bC 0 rfl ?_)
 cases c4:gE t.bn with
 |false=>exact ite_true rfl (H3.bC 0 rfl (H3.az 0 rfl (ai p 5) rfl (no H3.mod (by rw[eT,c4];rfl))))
 |true=>
 rw[c4,Bool.true_and]at eT
 refine ite_false rfl (an (ZS s t hs _ (hx.av H3.mod)) ?_)
 rintro _ w4 ⟨rfl,m4⟩
 have H4:=H3.frame m4
 refine aN (H4.bC 0 rfl ?_)
 cases c5:(aF 1 6 (t.ax.length:Int)&&mQ t t.ax.length)with
 |false=>
  refine ite_true rfl (H4.az 0 rfl (ai p 5) rfl (no H4.mod ?_))
  rw[eT]
  rcases Bool.and_eq_false_iff.1 c5 with h|h<;>rw[h]<;>simp
 |true=>
 rw[Bool.and_eq_true]at c5
 rw[c5.1,c5.2,Bool.true_and,Bool.true_and]at eT
 refine ite_false rfl (an (abM s t hs _ (hx.av H4.mod)) ?_)
 rintro _ w5 ⟨rfl,m5⟩
 have H5:=H4.frame m5
 refine aN (H5.az 0 rfl (ai p 5) rfl ?_)
 cases c6:(decide (t.keys.length<=6)&&mS t t.keys.length)with
 |false=>
  refine ite_true rfl (no H5.mod ?_)
  rw[eT]
  rcases Bool.and_eq_false_iff.1 c6 with h|h<;>rw[h]<;>simp
 |true=>
 rw[Bool.and_eq_true]at c6
 rw[c6.1,c6.2,Bool.true_and,Bool.true_and]at eT
 refine ite_false rfl (an (Gn s.gr t.aL hs.gf (by omega) _ (hx.gr.av H5.mod)) ?_)
 rintro _ w6 ⟨rfl,m6⟩
 refine aN ?_
 cases c7:fy t.aL with
 |false=>exact ite_true rfl (no (H5.mod.trans m6) (by rw[eT,c7];rfl))
 |true=>exact ite_false rfl (Nm _ (((m3.trans m4).trans m5).trans m6) (by rw[eT,c7];rfl))
end Go.Proofs.YtgjoehgomjgckaaGreatDoor
end
section
set_option linter.unusedVariables false
set_option linter.unusedSimpArgs false
namespace Go.Ev
open Go Go.RowKit
set_option linter.unusedVariables false
theorem ah.bX{w0 w:World}{S:List Nat}{L L':List aA}(H:ah w0 S w L)(idx:List Nat)(hn:idx.Nodup)(h:idx.map (λi=>L[i]?)=L'.map some):ah w0 S w L':=by
 have hl:idx.length=L'.length:=by have:=congrArg List.length h;simpa using this
 have key:∀(k:Nat) (r:aA),L'[k]? = some r->∃i,idx[k]? = some i/\L[i]? = some r:=λk r hk=>by
  have fM:k<idx.length:=by rw[hl];exact(List.getElem?_eq_some_iff.1 hk).1
  refine⟨idx[k],List.getElem?_eq_getElem fM,?_⟩
  have:=congrArg (·[k]?) h
  simp only[List.getElem?_map,List.getElem?_eq_getElem fM,hk,Option.map_some]at this
  exact Option.some.inj this
 refine⟨H.mod,λk r hk=>?_,λk r hk=>?_,λj k r s je hj hk=>?_⟩
 ·obtain⟨i,_,hi⟩:=key k r hk
  exact H.ok i r hi
 ·obtain⟨i,_,hi⟩:=key k r hk
  exact H.own i r hi
 ·obtain⟨i,Xm,hi⟩:=key j r hj
  obtain⟨i',alc,AI⟩:=key k s hk
  refine H.apart i i' r s (λe=>je ?_) hi AI
  subst e
  exact(List.getElem?_inj (List.getElem?_eq_some_iff.1 Xm).1 hn).1 (Xm.trans alc.symm)
theorem ah.ajD{w0 w:World}{S:List Nat}{L:List aA}{te:TypeId}{sz:Nat}{y:ag}{vs:List Value}{fq:List Nat}{Q:World->Prop}(H:ah w0 S w (L++[.row te sz y vs,.box fq Q])):∃fp,ah w0 S w (L++[.box fp λw=>Own w 0 te sz y vs/\Q w]):=by
 have H2:=H.merge L.length (L.length+1) (t:=.box (y.row++fq) λw=>Own w 0 te sz y vs/\Q w) At M1 (by omega) (λh1 h2=>?_) (λb hb=>List.mem_append.1 hb)
 ·refine⟨y.row++fq,?_⟩
  have e:((L++[aA.row te sz y vs,aA.box fq Q]).set (L.length+1) aA.no).set L.length (.box (y.row++fq) λw=>Own w 0 te sz y vs/\Q w)=(L++[.box (y.row++fq) λw=>Own w 0 te sz y vs/\Q w])++[aA.no]:=by
   rw[List.set_append_right _ _ (by omega),Nat.add_sub_cancel_left,List.set_append_right _ _ (Nat.le_refl _),Nat.sub_self,List.append_assoc];rfl
  rw[e]at H2
  exact H2.front
 ·refine⟨λb hb=>?_,λw2 h3=>⟨?_,h2.2 w2 λb hb=>h3 b (List.mem_append_right _ hb)⟩⟩
  ·rcases List.mem_append.1 hb with h|h
   ·exact(Own.yb h1 b h).2
   ·exact h2.1 b h
  ·exact(aA.row te sz y vs).gV w w2 (λb hb=>h3 b (List.mem_append_left _ hb)) h1
section
variable{A:Type}{C:A->ag->List Value}{sz:Nat}{E:World->ag->A->Prop}{te:TypeId}{w0 w w':World}{S:List Nat}{L M:List aA}{s:ag}{ls:List A}{xs ys:List ag}{i:Nat}
theorem zA{A:Type}{l:List A}{i:Nat}{a:A}(h:l[i]? = some a):l.set i a=l:=by
 refine List.ext_getElem? λk=>?_
 rw[List.getElem?_set]
 by_cases e:i=k
 ·subst e;rw[if_pos rfl,if_pos (List.getElem?_eq_some_iff.1 h).1,h]
 ·rw[if_neg e]
theorem ah.akA(H:ah w0 S w (L++.row te sz s (aO C ls (ys++xs.drop i))::M))(hC:∀a x,(C a x).length=sz)(hy:ys.length=i)(hx:xs.length=ls.length){a:A}{x z:ag}(ha:ls[i]? = some a)(cu:xs[i]? = some x){j:Nat}(hj:j<sz)(hz:C a z=(C a x).set j z.v){K:World->Prop}
  (hk:∀w2,ah w0 S w2 (L++.row te sz s (aO C ls (ys++z::xs.drop (i+1)))::M)->K w2):Ev.st (Addr.add (Addr.add (base s.a) (Int.toNat (i:Int)*sz)) j) (.slice z.a z.n z.c) w K:=by
 have hi:=(List.getElem?_eq_some_iff.1 ha).1
 have Fw:(ys++xs.drop i).length=ls.length:=by rw[List.length_append,List.length_drop];omega
 have M3:(ys++xs.drop i)[i]? = some x:=by rw[List.getElem?_append_right (by omega),hy,Nat.sub_self,List.getElem?_drop,Nat.add_zero];exact cu
 have nI:(ys++xs.drop i).set i z=ys++z::xs.drop (i+1):=by
  rw[List.set_append_right _ _ (by omega),hy,Nat.sub_self,List.drop_eq_getElem_cons (by omega),List.set_cons_zero]
 refine H.gx L.length (i:=i*sz+j) (v:=z.v) At (by rw[add_add,Int.toNat_natCast]) ?_ rfl λw2 H4=>hk w2 ?_
 ·rw[gw hC _ _ Fw]
  have:=Nat.mul_le_mul_right sz (show i+1<=ls.length from hi)
  rw[Nat.succ_mul]at this
  omega
 ·rw[List.set_append_right _ _ (Nat.le_refl _),Nat.sub_self,List.set_cons_zero,rD hC ls (ys++xs.drop i) i j a a x z z.v ha M3 hj hz,nI,zA ha]at H4
  exact H4
theorem gI.close(hy:ys.length=i){a:A}{z:ag}(ha:ls[i]? = some a){fp de:List Nat}(H:ah w0 S w (L++[.row te sz s (aO C ls (ys++z::xs.drop (i+1))),.box fp λw=>aM E w ys (ls.take i),.box de λw=>E w z a])):gI C sz E te w0 S L w s ls xs (i+1):=by
 have NY:ls.take (i+1)=ls.take i++[a]:=by rw[List.take_add_one,ha];rfl
 have H2:=H.merge (L.length+1) (L.length+2) (t:=.box (fp++de) λw=>aM E w (ys++[z]) (ls.take (i+1))) M1 V9 (by omega) (λh1 h2=>?_) (λb hb=>List.mem_append.1 hb)
 ·have e:(((L++[aA.row te sz s (aO C ls (ys++z::xs.drop (i+1))),aA.box fp λw=>aM E w ys (ls.take i),aA.box de λw=>E w z a]).set (L.length+2) aA.no).set (L.length+1) (aA.box (fp++de) λw=>aM E w (ys++[z]) (ls.take (i+1)))) =
    (L++[aA.row te sz s (aO C ls (ys++z::xs.drop (i+1))),aA.box (fp++de) λw=>aM E w (ys++[z]) (ls.take (i+1))])++[aA.no]:=by
   rw[List.set_append_right _ _ (by omega),Nat.add_sub_cancel_left,List.set_append_right _ _ (by omega),Nat.add_sub_cancel_left,List.append_assoc]
   rfl
  rw[e]at H2
  refine⟨ys++[z],fp++de,by simp[hy],?_⟩
  have H3:=H2.front
  rw[show ys++z::xs.drop (i+1)=(ys++[z])++xs.drop (i+1) by simp]at H3
  exact H3
 ·refine⟨λb hb=>?_,λw2 h3=>?_⟩
  ·rcases List.mem_append.1 hb with h|h
   ·exact h1.1 b h
   ·exact h2.1 b h
  ·rw[NY]
   exact aM.snoc (h1.2 w2 λb hb=>h3 b (List.mem_append_left _ hb)) (h2.2 w2 λb hb=>h3 b (List.mem_append_right _ hb))
end
end Go.Ev
end
section
set_option linter.unusedVariables false
set_option linter.unusedSimpArgs false
namespace Go.Proofs.YtgjoehgomjgckaaGreatDoor
open Go Go.Ev
set_option maxRecDepth 20000
set_option linter.unusedVariables false
def eY(w:World)(x:ag)(p:bE):Prop:=Own w 0 aE 1 x (aG p.key)
def cZ(w:World)(x:ag)(k:aI):Prop:=fI w x k.ay
def cJ(s:bW)(t:aH)(ys zs:List ag)(fp fq:List Nat):List aA:=
 [.row aE 1 s.sec (aG t.bN),.row cD 3 s.ten (dJ t.bn),.row cc 6 s.gr (cw t.aL),.row dM 5 s.ax (aO bE.cs t.ax ys),.box fp λw=>aM eY w ys t.ax,.row aW 4 s.key (aO aI.cs t.keys zs),.box fq λw=>aM cZ w zs t.keys]
theorem TC{w:World}{ys:List ag}{l:List bE}(h:aM eY w ys l):aM xo w ys l:=⟨h.1,λi x v hx hv=>Own.bytes (h.2 i x v hx hv)⟩
theorem TD{w:World}{ys:List ag}{l:List aI}(h:aM cZ w ys l):aM zj w ys l:=⟨h.1,λi x v hx hv=>(h.2 i x v hx hv).ay⟩
theorem nu{w0 w:World}{S:List Nat}{L:List aA}{s:bW}{t:aH}{ys zs:List ag}{fp fq:List Nat}(H:ah w0 S w (L++cJ s t ys zs fp fq)):dF w s t:=by
 have H:=H.drop L.length
 rw[List.drop_left]at H
 exact⟨Own.bytes (H.l8 0 rfl),fk.of (H.cG 1 rfl),⟨ys,H.cG 3 rfl,TC (H.box 4 rfl)⟩,⟨zs,H.cG 5 rfl,TD (H.box 6 rfl)⟩,H.cG 2 rfl⟩
theorem Uz(p:bE)(x z:ag):p.cs z=(p.cs x).set 2 z.v:=rfl
theorem aiK(k:aI)(x z:ag):k.cs z=(k.cs x).set 3 z.v:=rfl
theorem J7(s:bW)(t:aH)(hs:t.small)(w:World)(hx:dF w s t):Ok Pr abX [.agg ⟨t.cs s⟩] w λr w'=>∃s' ys zs fp fq,r=.agg ⟨t.cs s'⟩/\ah w [] w' (cJ s' t ys zs fp fq):=by
 refine aC Tryz.func36 (L:=[(3,[(30,.int .i64)]),(8,[(49,.int .i64)]),(13,[(69,.int .i64)])]) ?_
 rw[oB]
 have vf:=hs.sec
 have sy:=hs.ten
 have sA:=hs.ax
 have nS:=hs.key
 have sB:=hs.gr
 have Bd:=hs.pk
 have FV:=hs.aJ
 have fZ:=hs.ak
 obtain⟨h1,h2,⟨xs,h3,pM⟩,⟨us,h4,oe⟩,h5⟩:=hx
 have Jq:=h1.len
 refine(ah.start w).nw λp w1 H _=>H.nw λp1 w2 H _=>?_
 have H:ah w [] w2 [.aj p (t.cs s) aQ,.aj p1 (lz 0 ⟨none,0,0⟩ ⟨none,0,0⟩ ⟨none,0,0⟩ ⟨none,0,0⟩ ⟨none,0,0⟩) aQ]:=H
 have H:=H.drew
 refine H.az 0 rfl (ai p 1) rfl (H.az 0 rfl (ai p 2) rfl (H.az 0 rfl (ai p 3) rfl (H.az 0 rfl (ai p 4) rfl (H.az 0 rfl (ai p 5) rfl (an (Dj s.sec t.bN vf _ (h1.av H.mod)) ?_)))))
 rintro _ w3 ⟨y1,rfl,tI,m3⟩
 have H3:=H.bg m3 tI
 refine aS ⟨H.kept m3 0 rfl (ai p 5) 1,H.kept m3 0 rfl (ai p 4) 1,H.kept m3 0 rfl (ai p 3) 1,H.kept m3 0 rfl (ai p 2) 1,an (O2 s.ten t.bn (by omega) _ (h2.av H3.mod)) ?_⟩
 rintro _ w4 ⟨y2,rfl,lJ,_,m4⟩
 have H4:=H3.bg m4 lJ
 refine aS ⟨H3.kept m4 0 rfl (ai p 5) 1,H3.kept m4 0 rfl (ai p 4) 1,H3.kept m4 0 rfl (ai p 3) 1,an (Yl s.ax t.ax xs pM.1 (by omega) _ (h3.av H4.mod)) ?_⟩
 rintro _ w5 ⟨y3,rfl,Bg,tw,m5⟩
 have H5:=H4.bg m5 Bg
 refine aS ⟨H4.kept m5 0 rfl (ai p 5) 1,H4.kept m5 0 rfl (ai p 4) 1,an (Ym s.key t.keys us oe.1 (by omega) _ (h4.av H5.mod)) ?_⟩
 rintro _ w6 ⟨y4,rfl,FH,Fx,m6⟩
 have H6:=H5.bg m6 FH
 refine aS ⟨H5.kept m6 0 rfl (ai p 5) 1,an (F5 s.gr t.aL (by omega) _ (h5.av H6.mod)) ?_⟩
 rintro _ w7 ⟨y5,rfl,FI,hn5,m7⟩
 have H7:=H6.bg m7 FI
 refine aS ?_
 refine H7.st 0 rfl (ai p 1) (by show 1<6;omega) rfl λw8 H8=>H8.st 0 rfl (ai p 2) (by show 2<6;omega) rfl λw9 H9=>H9.st 0 rfl (ai p 3) (by show 3<6;omega) rfl λbP Jb=>Jb.st 0 rfl (ai p 4) (by show 4<6;omega) rfl λbQ Jc=>Jc.st 0 rfl (ai p 5) (by show 5<6;omega) rfl λcH Jd=>?_
 have H:ah w [] cH [.aj p (t.cs ⟨y1,y2,y3,y4,y5⟩) aQ,.aj p1 (lz 0 ⟨none,0,0⟩ ⟨none,0,0⟩ ⟨none,0,0⟩ ⟨none,0,0⟩ ⟨none,0,0⟩) aQ,.row aE 1 y1 (aG t.bN),.row cD 3 y2 (dJ t.bn),.row dM 5 y3 (aO bE.cs t.ax xs),.row aW 4 y4 (aO aI.cs t.keys us),.row cc 6 y5 (cw t.aL)]:=Jd
 have zg:=(H.cG 4 rfl).len
 rw[gw bE.bA _ _ pM.1]at zg
 have Ba:=(H.cG 5 rfl).len
 rw[gw aI.bA _ _ oe.1]at Ba
 have e3:t.ax.length=y3.n:=by omega
 have e4:t.keys.length=y4.n:=by omega
 have H:=H.bX (L':=[.aj p (t.cs ⟨y1,y2,y3,y4,y5⟩) aQ,.aj p1 (lz 0 ⟨none,0,0⟩ ⟨none,0,0⟩ ⟨none,0,0⟩ ⟨none,0,0⟩ ⟨none,0,0⟩) aQ,.row aE 1 y1 (aG t.bN),.row cD 3 y2 (dJ t.bn),.row cc 6 y5 (cw t.aL),.row aW 4 y4 (aO aI.cs t.keys us)]++[.row dM 5 y3 (aO bE.cs t.ax xs)]) [0,1,2,3,6,5,4] (by decide) rfl
 refine H.az 0 rfl (ai p 3) rfl ?_
 refine bG 0 t.ax.length (λi w'=>gI bE.cs 5 eY dM w [] [.aj p (t.cs ⟨y1,y2,y3,y4,y5⟩) aQ,.aj p1 (lz 0 ⟨none,0,0⟩ ⟨none,0,0⟩ ⟨none,0,0⟩ ⟨none,0,0⟩ ⟨none,0,0⟩) aQ,.row aE 1 y1 (aG t.bN),.row cD 3 y2 (dJ t.bn),.row cc 6 y5 (cw t.aL),.row aW 4 y4 (aO aI.cs t.keys us)] w' y3 t.ax xs i) rfl (by omega) (gI.start H) ?_ ?_
 ·intro again i eg _ hi R aB
  have R:=R.frame (Mod.drew [] eg)
  have ha:t.ax[i]? = some t.ax[i]:=List.getElem?_eq_getElem hi
  have cu:xs[i]? = some (xs[i]'(by rw[pM.1];exact hi)):=List.getElem?_eq_getElem _
  have fZ:=Bd _ (List.getElem_mem hi)
  have tM:=pM.2 i _ _ cu ha
  obtain⟨bF,hc⟩:=R.at bE.bA (by omega) pM.1 ha cu
  generalize t.ax[i]=v at*
  generalize xs[i]'(by rw[pM.1];exact hi)=z at*
  have F:=R.front
  refine ite_true (decide_eq_true (show(i:Int)<(y3.n:Int) by omega)) (F.az 0 rfl (ai p 3) rfl (F.az 0 rfl (ai p 3) rfl ⟨bF,z,hc 2 z.v rfl,an (Dj z v.key fZ _ (Bytes.av tM F.mod)) ?_⟩))
  rintro _ fQ FK
  obtain⟨u,rfl,hu⟩:=FK.Nl
  exact aS ⟨F.kept hu.mod 0 rfl (ai p 3) 1,bF,R.step bE.bA pM.1 ha cu (hu:dU _ _ λw=>eY w u v) (by omega:2<5) (Uz v z u) λir R=>⟨⟨by omega,by omega⟩,aB ir R⟩⟩
 ·intro again eg R
  obtain⟨ys,fp,H⟩:=R.done rfl pM.1
  have H:=H.bX (L':=[.aj p (t.cs ⟨y1,y2,y3,y4,y5⟩) aQ,.aj p1 (lz 0 ⟨none,0,0⟩ ⟨none,0,0⟩ ⟨none,0,0⟩ ⟨none,0,0⟩ ⟨none,0,0⟩) aQ,.row aE 1 y1 (aG t.bN),.row cD 3 y2 (dJ t.bn),.row cc 6 y5 (cw t.aL),.row dM 5 y3 (aO bE.cs t.ax ys),.box fp λw=>aM eY w ys t.ax]++[.row aW 4 y4 (aO aI.cs t.keys us)]) [0,1,2,3,4,6,7,5] (by decide) rfl
  refine ite_false (decide_eq_false (by show ¬((t.ax.length:Int)<(y3.n:Int));omega)) (H.az 0 rfl (ai p 4) rfl ?_)
  obtain⟨L,hL⟩:∃L,L=[aA.aj p (t.cs ⟨y1,y2,y3,y4,y5⟩) aQ,.aj p1 (lz 0 ⟨none,0,0⟩ ⟨none,0,0⟩ ⟨none,0,0⟩ ⟨none,0,0⟩ ⟨none,0,0⟩) aQ,.row aE 1 y1 (aG t.bN),.row cD 3 y2 (dJ t.bn),.row cc 6 y5 (cw t.aL),.row dM 5 y3 (aO bE.cs t.ax ys),.box fp λw=>aM eY w ys t.ax]:=⟨_,rfl⟩
  rw[<- hL]at H
  have Dg:L[0]? = some (.aj p (t.cs ⟨y1,y2,y3,y4,y5⟩) aQ):=by rw[hL];rfl
  refine bG 0 t.keys.length (λi w'=>gI aI.cs 4 cZ aW w [] L w' y4 t.keys us i) rfl (by omega) (gI.start H) ?_ ?_
  ·intro again i gH _ hi R aB
   have ha:t.keys[i]? = some t.keys[i]:=List.getElem?_eq_getElem hi
   have cu:us[i]? = some (us[i]'(by rw[oe.1];exact hi)):=List.getElem?_eq_getElem _
   have Xn:=FV _ (List.getElem_mem hi)
   have OD:=fZ _ (List.getElem_mem hi)
   have tM:=oe.2 i _ _ cu ha
   obtain⟨bF,hc⟩:=R.at aI.bA (by omega) oe.1 ha cu
   generalize t.keys[i]=k at*
   generalize us[i]'(by rw[oe.1];exact hi)=z at*
   have F:=R.front
   obtain⟨vs,rW,zn⟩:=tM
   refine ite_true (decide_eq_true (show(i:Int)<(y4.n:Int) by omega)) (F.az 0 Dg (ai p 4) rfl ⟨bF,z,hc 3 z.v rfl,an (O1 z k.ay vs zn.1 (by omega) _ (rW.av F.mod)) ?_⟩)
   rintro _ lI ⟨u,rfl,hu,C8,ng⟩
   have iR:=(Own.sl hu).len
   rw[gw aR.bA _ _ zn.1]at iR
   have aoa:k.ay.length=u.n:=by omega
   obtain⟨qs,fq,hq,D⟩:=R
   have D:=D.bg ng hu
   rw[List.append_assoc]at D
   refine aS (D.akA aI.bA hq oe.1 ha cu (by omega:3<4) (aiK k z u) λpF D=>?_)
   have D:ah w [] pF ((L++[.row aW 4 y4 (aO aI.cs t.keys (qs++u::us.drop (i+1))),.box fq λw=>aM cZ w qs (t.keys.take i)])++[.row cR 4 u (aO aR.cs k.ay vs)]):=by rw[List.append_assoc];exact D
   have hqu:(qs++u::us.drop (i+1))[i]? = some u:=by rw[List.getElem?_append_right (by omega),hq,Nat.sub_self];rfl
   have cell:∀ {w2:World},ah w [] w2 (L++[.row aW 4 y4 (aO aI.cs t.keys (qs++u::us.drop (i+1))),.box fq λw=>aM cZ w qs (t.keys.take i)])->w2.cell? (Addr.add (Addr.add (base y4.a) (Int.toNat (i:Int)*4)) 3)=some u.v:=λG=>by
    rw[Int.toNat_natCast]
    exact(G.cG L.length At).oH aI.bA ha hqu (j:=3) rfl
   refine⟨u,cell D.front,?_⟩
   refine bG 0 k.ay.length (λn w'=>gI aR.cs 4 e6 cR w [] (L++[.row aW 4 y4 (aO aI.cs t.keys (qs++u::us.drop (i+1))),.box fq λw=>aM cZ w qs (t.keys.take i)]) w' u k.ay vs n) rfl (by omega) (gI.start D) ?_ ?_
   ·intro vZ n qt _ hn R2 wD
    have R2:=R2.frame (Mod.drew [] qt)
    have hb:k.ay[n]? = some k.ay[n]:=List.getElem?_eq_getElem hn
    have De:vs[n]? = some (vs[n]'(by rw[zn.1];exact hn)):=List.getElem?_eq_getElem _
    have vf:=OD _ (List.getElem_mem hn)
    have nO:=zn.2 n _ _ De hb
    obtain⟨IE,tG⟩:=R2.at aR.bA (by omega) zn.1 hb De
    generalize k.ay[n]=v at*
    generalize vs[n]'(by rw[zn.1];exact hn)=x at*
    have F2:=R2.front
    refine ite_true (decide_eq_true (by omega)) ⟨u,cell F2,u,cell F2,IE,x,tG 3 x.v rfl,an (Dj x v.ak vf _ (Bytes.av nO F2.mod)) ?_⟩
    rintro _ Jk h20
    obtain⟨y,rfl,hy⟩:=h20.Nl
    exact aS ⟨vM hy.mod (cell F2),IE,R2.step aR.bA zn.1 hb De (hy:dU _ _ λw=>e6 w y v) (by omega:3<4) (Lp v x y) λNR R2=>⟨⟨by omega,by omega⟩,wD NR R2⟩⟩
   ·intro vZ qt R2
    obtain⟨zs,f2,G⟩:=R2.done rfl zn.1
    obtain⟨f3,G⟩:=G.ajD
    have G:=G.D9 (Q':=λw=>cZ w u k) (L++[aA.row aW 4 y4 (aO aI.cs t.keys (qs++u::us.drop (i+1))),.box fq λw=>aM cZ w qs (t.keys.take i)]).length At λw h=>⟨zs,h.1,h.2⟩
    rw[List.set_append_right _ _ (Nat.le_refl _),Nat.sub_self,List.set_cons_zero,List.append_assoc]at G
    exact ite_false (decide_eq_false (by omega)) ⟨⟨by omega,by omega⟩,aB _ (gI.close hq ha G)⟩
  ·intro again gH R
   obtain⟨zs,fq,H⟩:=R.done rfl oe.1
   subst hL
   refine ite_false (decide_eq_false (show ¬((t.keys.length:Int)<(y4.n:Int)) by omega)) (H.bC 0 rfl (H.cF 1 rfl rfl λlI H=>H.bC 1 rfl ?_))
   exact⟨⟨y1,y2,y3,y4,y5⟩,ys,zs,fp,fq,rfl,H.drop 2⟩
end Go.Proofs.YtgjoehgomjgckaaGreatDoor
end
section
set_option linter.unusedVariables false
set_option linter.unusedSimpArgs false
namespace Go.Ev
open Go Go.RowKit
set_option linter.unusedVariables false
def ov(vs:List Value)(p:Nat)(l:List Value):List Value:=vs.take p++(l++vs.drop (p+l.length))
theorem Vi(vs:List Value)(p:Nat):ov vs p []=vs:=by unfold ov;simp
theorem UA(vs:List Value)(p:Nat)(v:Value)(l:List Value)(h:p<vs.length):ov (vs.set p v) (p+1) l=ov vs p (v::l):=by
 unfold ov
 rw[List.length_cons,List.drop_set_of_lt (by omega),show p+(l.length+1)=p+1+l.length by omega,List.take_set,List.take_add_one,List.getElem?_eq_getElem h,List.set_append_right _ _ (by rw[List.length_take];omega),List.length_take,Nat.min_eq_left (by omega),Nat.sub_self]
 simp
theorem ah.lX{w0:World}{S:List Nat}{k:Nat}{e:TypeId}{sz:Nat}{s:ag}{o:Nat}{K:World->Prop}:∀(l:List Value) {i:Nat} {vs:List Value} {L:List aA} {w:World},ah w0 S w L->L[k]? = some (.row e sz s vs)->o+i+l.length<=vs.length->(∀v∈l,dQ v=true)->
  (∀w',ah w0 S w' (L.set k (.row e sz s (ov vs (o+i) l)))->K w')->Ev.lX l (Addr.add (base s.a) o) i w K
 |[],i,vs,L,w,H,hk,hl,h1,h=>by
  refine h w ?_
  rw[Vi,zA hk]
  exact H
 |v::r,i,vs,L,w,H,hk,hl,h1,h=>by
  rw[List.length_cons]at hl
  refine H.gx k (i:=o+i) hk (by rw[add_add]) (by omega) (h1 v (List.mem_cons_self ..)) λw1 H1=>?_
  have br:k<L.length:=(List.getElem?_eq_some_iff.1 hk).1
  refine ah.lX r H1 (by rw[List.getElem?_set,if_pos rfl,if_pos br]) (by rw[List.length_set];omega) (λu hu=>h1 u (List.mem_cons_of_mem _ hu)) λw' H'=>h w' ?_
  rw[List.set_set,show o+(i+1)=o+i+1 by omega,UA _ _ _ _ (by omega)]at H'
  exact H'
section
variable{A:Type}{C:A->ag->List Value}{sz:Nat}{te:TypeId}{w0 w:World}{S:List Nat}{L:List aA}{s:ag}{ls:List A}{xs:List ag}{i:Nat}
theorem SI{a:A}{x:ag}(hx:xs.length=ls.length)(ha:ls[i]? = some a)(cu:xs[i]? = some x):aO C ls xs=aO C (ls.take i) (xs.take i)++(C a x++aO C (ls.drop (i+1)) (xs.drop (i+1))):=by
 have hi:=(List.getElem?_eq_some_iff.1 ha).1
 have h1:=vG (C:=C) (ls.take i) (xs.take i) (by simp[hx]) (ls.drop i) (xs.drop i)
 rw[List.take_append_drop,List.take_append_drop]at h1
 rw[h1,List.drop_eq_getElem_cons hi,List.drop_eq_getElem_cons (show i<xs.length by omega),rA]
 congr 3
 ·exact Option.some.inj ((List.getElem?_eq_getElem hi).symm.trans ha)
 ·exact Option.some.inj ((List.getElem?_eq_getElem (by omega)).symm.trans cu)
theorem ajE(hC:∀a x,(C a x).length=sz)(hx:xs.length=ls.length)(hi:i<ls.length)(a':A)(x':ag):ov (aO C ls xs) (i*sz) (C a' x')=aO C (ls.set i a') (xs.set i x'):=by
 obtain⟨a,ha⟩:∃a,ls[i]? = some a:=⟨_,List.getElem?_eq_getElem hi⟩
 obtain⟨x,cu⟩:∃x,xs[i]? = some x:=⟨_,List.getElem?_eq_getElem (by omega)⟩
 have e2:=SI (C:=C) (ls:=ls.set i a') (xs:=xs.set i x') (i:=i) (a:=a') (x:=x') (by simp[hx]) (by rw[List.getElem?_set,if_pos rfl,if_pos hi]) (by rw[List.getElem?_set,if_pos rfl,if_pos (by omega)])
 rw[List.take_set_of_le (Nat.le_refl _),List.take_set_of_le (Nat.le_refl _),List.drop_set_of_lt (by omega),List.drop_set_of_lt (by omega)]at e2
 have hl:(aO C (ls.take i) (xs.take i)).length=i*sz:=by
  rw[gw hC _ _ (by simp[hx]),List.length_take,Nat.min_eq_left (by omega)]
 rw[e2]
 unfold ov
 rw[SI hx ha cu,List.take_append_of_le_length (by omega),List.take_of_length_le (by omega),List.drop_append,List.drop_of_length_le (by omega),List.nil_append,hl,hC,Nat.add_sub_cancel_left,List.drop_append,List.drop_of_length_le (by rw[hC];omega),hC,Nat.sub_self]
 rfl
theorem ah.putAt(H:ah w0 S w L)(k:Nat)(hk:L[k]? = some (.row te sz s (aO C ls xs)))(hC:∀a x,(C a x).length=sz)(hx:xs.length=ls.length)(hi:i<ls.length)(a':A)(x':ag)(h1:∀v∈C a' x',dQ v=true){K:World->Prop}
  (h:∀w',ah w0 S w' (L.set k (.row te sz s (aO C (ls.set i a') (xs.set i x'))))->K w'):Ev.lX (C a' x') (Addr.add (base s.a) (Int.toNat (i:Int)*sz)) 0 w K:=by
 rw[Int.toNat_natCast]
 refine ah.lX (C a' x') H hk ?_ h1 λw' H'=>h w' ?_
 ·rw[gw hC _ _ hx,hC]
  have:=Nat.mul_le_mul_right sz (show i+1<=ls.length from hi)
  rw[Nat.succ_mul]at this
  omega
 ·rw[Nat.add_zero,ajE hC hx hi]at H'
  exact H'
end
end Go.Ev
end
section
set_option linter.unusedVariables false
set_option linter.unusedSimpArgs false
namespace Go.Proofs.YtgjoehgomjgckaaGreatDoor
open Go Go.Ev
set_option maxRecDepth 20000
set_option linter.unusedVariables false
theorem Gg(s:bW)(t:aH)(hs:t.small)(w:World)(hx:dF w s t):Ok Pr abW [.agg ⟨t.cs s⟩] w λr w'=>∃s' ys zs fp fq,r=.agg ⟨t.cs s'⟩/\ah w [] w' (cJ s' t ys zs fp fq):=by
 refine aC Tryz.func22 (L:=[(5,[(3,.int .i64)]),(10,[(4,.int .i64)])]) ?_
 rw[oB]
 have vf:=hs.sec
 have sy:=hs.ten
 have sA:=hs.ax
 have nS:=hs.key
 have sB:=hs.gr
 have Bd:=hs.pk
 have FV:=hs.aJ
 have fZ:=hs.ak
 have zg:=hx.ax.len
 have Ba:=hx.key.len
 obtain⟨h1,h2,⟨xs,h3,pM⟩,⟨us,h4,oe⟩,h5⟩:=hx
 have Jq:=h1.len
 have vi:=(fk.len h2)
 have Bk:=fN.len h5
 refine(ah.start w).nw λp w1 H _=>H.nw λp1 w2 H _=>?_
 have H:ah w [] w2 [.aj p (t.cs s) aQ,.aj p1 (lz 0 ⟨none,0,0⟩ ⟨none,0,0⟩ ⟨none,0,0⟩ ⟨none,0,0⟩ ⟨none,0,0⟩) aQ]:=H
 refine H.az 0 rfl (ai p 1) rfl (H.oD cg (h1.av H.mod) (by omega) λy1 w3 H _=>H.st 0 rfl (ai p 1) (by show 1<6;omega) rfl λw4 H=>H.az 0 rfl (ai p 2) rfl ?_)
 refine H.clone Ce ((fk.sl h2).av H.mod) (ug (C:=bL.cs) (λa x v hv=>bL.jE a x v hv) _ _) (by show s.ten.n*32<=_;omega) (by show s.ten.n<=_;omega) λy2 w5 H _=>H.st 0 rfl (ai p 2) (by show 2<6;omega) rfl λw6 H=>H.az 0 rfl (ai p 3) rfl ?_
 refine H.clone HG (h3.av H.mod) (ug bE.jE _ _) (by show s.ax.n*56<=_;omega) (by show s.ax.n<=_;omega) λy3 w7 H tw=>H.st 0 rfl (ai p 3) (by show 3<6;omega) rfl λw8 H=>?_
 have H:ah w [] w8 ([.aj p (t.cs ⟨y1,y2,y3,s.key,s.gr⟩) aQ,.aj p1 (lz 0 ⟨none,0,0⟩ ⟨none,0,0⟩ ⟨none,0,0⟩ ⟨none,0,0⟩ ⟨none,0,0⟩) aQ,.row aE 1 y1 (aG t.bN),.row cD 3 y2 (dJ t.bn)]++[.row dM 5 y3 (aO bE.cs t.ax xs)]):=H
 have e3:t.ax.length=y3.n:=by rw[tw];exact zg
 refine bG 0 t.ax.length (λi w'=>gI bE.cs 5 eY dM w [] [.aj p (t.cs ⟨y1,y2,y3,s.key,s.gr⟩) aQ,.aj p1 (lz 0 ⟨none,0,0⟩ ⟨none,0,0⟩ ⟨none,0,0⟩ ⟨none,0,0⟩ ⟨none,0,0⟩) aQ,.row aE 1 y1 (aG t.bN),.row cD 3 y2 (dJ t.bn)] w' y3 t.ax xs i) rfl (by omega) (gI.start H) ?_ ?_
 ·intro again i eg _ hi R aB
  have F0:=R.front
  have R:=R.frame (Mod.drew [] eg)
  have ha:t.ax[i]? = some t.ax[i]:=List.getElem?_eq_getElem hi
  have cu:xs[i]? = some (xs[i]'(by rw[pM.1];exact hi)):=List.getElem?_eq_getElem _
  have fZ:=Bd _ (List.getElem_mem hi)
  have tM:=pM.2 i _ _ cu ha
  obtain⟨bF,hc⟩:=R.at bE.bA (by omega) pM.1 ha cu
  generalize t.ax[i]=v at*
  generalize xs[i]'(by rw[pM.1];exact hi)=z at*
  have F:=R.front
  have hb:Bytes eg.drew z v.key:=Bytes.av tM F.mod
  have gR:=Bytes.len hb
  refine F0.az 0 rfl (ai p 3) rfl (ite_true (decide_eq_true (show(i:Int)<(y3.n:Int) by omega)) (F.az 0 rfl (ai p 3) rfl (F.az 0 rfl (ai p 3) rfl ⟨bF,z,hc 2 z.v rfl,(ah.start eg.drew).oD cg hb (by omega) λu fQ U _=>?_⟩)))
  have hu:dU eg.drew fQ λw=>eY w u v:=U.boxed λw' h=>h 0 _ rfl
  exact⟨F.kept hu.mod 0 rfl (ai p 3) 1,bF,R.step bE.bA pM.1 ha cu hu (by omega:2<5) (Uz v z u) λir R=>⟨⟨by omega,by omega⟩,aB ir R⟩⟩
 ·intro again eg R
  have F0:=R.front
  obtain⟨ys,fp,H⟩:=R.done rfl pM.1
  refine F0.az 0 rfl (ai p 3) rfl (ite_false (decide_eq_false (show ¬((t.ax.length:Int)<(y3.n:Int)) by omega)) (H.az 0 rfl (ai p 4) rfl ?_))
  refine H.clone HH (h4.av H.mod) (ug aI.jE _ _) (by show s.key.n*48<=_;omega) (by show s.key.n<=_;omega) λy4 fQ H Fx=>H.st 0 rfl (ai p 4) (by show 4<6;omega) rfl λir H=>?_
  have e4:t.keys.length=y4.n:=by rw[Fx];exact Ba
  obtain⟨L,hL⟩:∃L,L=[aA.aj p (t.cs ⟨y1,y2,y3,y4,s.gr⟩) aQ,.aj p1 (lz 0 ⟨none,0,0⟩ ⟨none,0,0⟩ ⟨none,0,0⟩ ⟨none,0,0⟩ ⟨none,0,0⟩) aQ,.row aE 1 y1 (aG t.bN),.row cD 3 y2 (dJ t.bn),.row dM 5 y3 (aO bE.cs t.ax ys),.box fp λw=>aM eY w ys t.ax]:=⟨_,rfl⟩
  have H:ah w [] ir (L++[.row aW 4 y4 (aO aI.cs t.keys us)]):=by rw[hL];exact H
  have Dg:L[0]? = some (.aj p (t.cs ⟨y1,y2,y3,y4,s.gr⟩) aQ):=by rw[hL];rfl
  refine bG 0 t.keys.length (λi w'=>gI aI.cs 4 cZ aW w [] L w' y4 t.keys us i) rfl (by omega) (gI.start H) ?_ ?_
  ·intro again i gH _ hi R aB
   have F0:=R.front
   have R:=R.frame (Mod.drew [] gH)
   have ha:t.keys[i]? = some t.keys[i]:=List.getElem?_eq_getElem hi
   have cu:us[i]? = some (us[i]'(by rw[oe.1];exact hi)):=List.getElem?_eq_getElem _
   have Xn:=FV _ (List.getElem_mem hi)
   have OD:=fZ _ (List.getElem_mem hi)
   have tM:=oe.2 i _ _ cu ha
   obtain⟨bF,hc⟩:=R.at aI.bA (by omega) oe.1 ha cu
   have nI:t.keys.set i t.keys[i]=t.keys:=zA ha
   generalize t.keys[i]=k at*
   generalize us[i]'(by rw[oe.1];exact hi)=z at*
   have F:=R.front
   refine F0.az 0 Dg (ai p 4) rfl (ite_true (decide_eq_true (show(i:Int)<(y4.n:Int) by omega)) (F.az 0 Dg (ai p 4) rfl (F.az 0 Dg (ai p 4) rfl ⟨bF,mC hc (an (Bu k z Xn OD _ (dD.av tM F.mod)) ?_)⟩)))
   rintro _ lI ⟨u,rfl,hu⟩
   have FT:=hu.box
   obtain⟨qs,fq,hq,D⟩:=R
   obtain⟨f2,D⟩:=D.dz FT
   refine jz ⟨vM FT.mod (F.cell 0 Dg (ai p 4) rfl),bF,?_⟩
   have Fw:(qs++us.drop i).length=t.keys.length:=by rw[List.length_append,List.length_drop,oe.1];omega
   have Oy:(qs++us.drop i).set i u=qs++u::us.drop (i+1):=by
    rw[List.set_append_right _ _ (by omega),hq,Nat.sub_self,List.drop_eq_getElem_cons (by rw[oe.1];exact hi),List.set_cons_zero]
   rw[List.append_assoc]at D
   show lX (k.cs u) _ 0 _ _
   refine D.putAt L.length At aI.bA Fw hi k u (aI.jE k u) λpF D=>⟨⟨by omega,by omega⟩,aB _ (gI.close (z:=u) hq ha (fp:=fq) (de:=f2) ?_)⟩
   rw[List.set_append_right _ _ (Nat.le_refl _),Nat.sub_self,nI,Oy]at D
   exact D
  ·intro again gH R
   have F0:=R.front
   obtain⟨zs,fq,H⟩:=R.done rfl oe.1
   subst hL
   refine F0.az 0 rfl (ai p 4) rfl (ite_false (decide_eq_false (show ¬((t.keys.length:Int)<(y4.n:Int)) by omega)) (H.az 0 rfl (ai p 5) rfl ?_))
   refine H.clone Ae (h5.av H.mod) (B4 _) (by show s.gr.n*48<=_;omega) (by show s.gr.n<=_;omega) λy5 lI H _=>H.st 0 rfl (ai p 5) (by show 5<6;omega) rfl λpF H=>?_
   refine H.bC 0 rfl (H.cF 1 rfl rfl λqt H=>H.bC 1 rfl ?_)
   refine⟨⟨y1,y2,y3,y4,y5⟩,ys,zs,fp,fq,rfl,?_⟩
   exact H.bX [2,3,8,4,5,6,7] (by decide) rfl
def sZ:bW:=⟨⟨none,0,0⟩,⟨none,0,0⟩,⟨none,0,0⟩,⟨none,0,0⟩,⟨none,0,0⟩⟩
def cQ:aH:=⟨0,[],[],[],[],[]⟩
theorem ah.Vj{w0 w:World}{S:List Nat}{L:List aA}(H:ah w0 S w L){Q:World->Prop}(h:∀w,Q w):ah w0 S w (L++[.box [] Q]):=
 H.push (Mod.refl [] w) ⟨λb hb=>(by cases hb),λw' _=>h w'⟩ (λb hb=>(by cases hb))
theorem DX{w0 w:World}{S:List Nat}{L:List aA}(H:ah w0 S w L):ah w0 S w (L++cJ sZ cQ [] [] [] []):=by
 have H:=H.dy aE 1
 have H:=H.dy cD 3
 have H:=H.dy cc 6
 have H:=H.dy dM 5
 have H:=ah.Vj H (Q:=λw=>aM eY w [] ([]:List bE)) λw=>⟨rfl,λi x l h=>by simp at h⟩
 have H:=H.dy aW 4
 have H:=ah.Vj H (Q:=λw=>aM cZ w [] ([]:List aI)) λw=>⟨rfl,λi x l h=>by simp at h⟩
 simp only[List.append_assoc,List.cons_append,List.nil_append]at H
 exact H
def lE(name:ByteArray)(vk sec:List B8):aH:=⟨0,sec,[⟨1,0,name⟩],[⟨1,1,vk,0,0⟩],[],[]⟩
theorem KR{name:ByteArray}{vk sec:List B8}(h1:vk.length<=1000000)(h2:sec.length<=1000000):(lE name vk sec).small where
 sec:=h2
 ten:=by show 1<=1000;omega
 ax:=by show 1<=1000;omega
 key:=by show 0<=1000;omega
 gr:=by show 0<=1000;omega
 pk:=λp hp=>by rw[List.mem_singleton.1 hp];exact h1
 aJ:=λk hk=>by cases hk
 ak:=λk hk=>by cases hk
 gf:=λk hk=>by cases hk
theorem ajF{w:World}{name:ByteArray}{vk sec:List B8}{x y:ag}{p q:Nat}(hx:Bytes w x vk)(hy:Bytes w y sec)(hp:bp w p (kL 1 0 name) cD)(hq:bp w q (jP 1 1 x 0 0) dM):dF w ⟨y,⟨some ⟨p,0,none⟩,1,1⟩,⟨some ⟨q,0,none⟩,1,1⟩,⟨none,0,0⟩,⟨none,0,0⟩⟩ (lE name vk sec) where
 sec:=hy
 ten:=fk.of (by
  have:=hp.sl 3 1 1 (by simp) (by omega)
  simpa[dJ,aO,lE,bL.cs,kL]using this)
 ax:=⟨[x],by
  have:=hq.sl 5 1 1 (by simp) (by omega)
  rw[show(lE name vk sec).ax=[⟨1,1,vk,0,0⟩] from rfl,sJ]
  simpa[bE.cs,jP]using this,rfl,λi u l h1 h2=>by
   cases i with
   |zero=>
    simp only[List.getElem?_cons_zero,Option.some.injEq,lE]at h1 h2
    subst h1 h2;exact hx
   |succ i=>simp[lE]at h2⟩
 key:=Dv.nil w
 gr:=fN.nil w
def FW(name:ByteArray)(vk sec:List B8):aH:=if cP (lE name vk sec)=true then lE name vk sec else cQ
def OE(name:ByteArray)(vk sec:List B8):Int:=if cP (lE name vk sec)=true then 0 else 2
def Wj(w w':World)(v:Value)(t:aH)(rest:List Value)(M:List aA):Prop:=∃s ys zs fp fq,v=.tuple ⟨.agg ⟨t.cs s⟩::rest⟩/\ah w [] w' (cJ s t ys zs fp fq++M)
theorem aaz(name:ByteArray)(x y:ag)(vk sec:List B8)(h1:vk.length<=1000000)(h2:sec.length<=1000000)(w:World)(hx:Bytes w x vk)(hy:Bytes w y sec):Ok Pr Gb [.string name,.slice x.a x.n x.c,.slice y.a y.n y.c] w λv w'=>Wj w w' v (FW name vk sec) [.int .i64 (OE name vk sec)] []:=by
 refine aC Tryz.func26 ?_
 rw[oB]
 have hT:FW name vk sec=if cP (lE name vk sec)=true then lE name vk sec else cQ:=rfl
 have hC:OE name vk sec=if cP (lE name vk sec)=true then 0 else 2:=rfl
 generalize FW name vk sec=T at*
 generalize OE name vk sec=C at*
 refine(ah.start w).nw λp w1 H _=>H.nw λp1 w2 H _=>H.nw λp2 w3 H _=>?_
 have H:ah w [] w3 [.aj p (cQ.cs sZ) aQ,.aj p1 (kL 1 0 name) cD,.aj p2 (jP 1 1 x 0 0) dM]:=H
 refine an (Gg ⟨y,⟨some ⟨p1,0,none⟩,1,1⟩,⟨some ⟨p2,0,none⟩,1,1⟩,⟨none,0,0⟩,⟨none,0,0⟩⟩ (lE name vk sec) (KR h1 h2) w3 (ajF (hx.av H.mod) (hy.av H.mod) (H.aj 1 rfl) (H.aj 2 rfl))) ?_
 rintro _ w4 ⟨s,ys,zs,fp,fq,rfl,D⟩
 have H:=H.join D
 refine ia (H.nw λp3 w5 H _=>H.cF 10 rfl rfl λw6 H=>H.bC 10 rfl ?_)
 have H:ah w [] w6 ([.aj p (cQ.cs sZ) aQ,.aj p1 (kL 1 0 name) cD,.aj p2 (jP 1 1 x 0 0) dM]++(cJ s (lE name vk sec) ys zs fp fq++[.aj p3 ((lE name vk sec).cs s) aQ])):=H
 have hr:dF w6 s (lE name vk sec):=nu (L:=[.aj p (cQ.cs sZ) aQ,.aj p1 (kL 1 0 name) cD,.aj p2 (jP 1 1 x 0 0) dM]) (H.take 10)
 refine an (Gq s (lE name vk sec) (KR h1 h2) w6 hr) ?_
 rintro _ w7 ⟨rfl,m7⟩
 have H:=H.frame m7
 refine aN ?_
 cases hm:cP (lE name vk sec)with
 |false=>
  rw[hm,if_neg (by decide)]at hT hC
  subst hT hC
  refine ite_true rfl (H.cF 0 rfl rfl λw8 H=>H.bC 0 rfl ⟨sZ,[],[],[],[],rfl,?_⟩)
  exact(DX H).drop 11
 |true=>
  rw[hm,if_pos rfl]at hT hC
  subst hT hC
  refine ite_false rfl (H.bC 10 rfl (H.cF 0 rfl rfl λw8 H=>H.bC 0 rfl ⟨s,ys,zs,fp,fq,rfl,?_⟩))
  exact(H.take 10).drop 3
end Go.Proofs.YtgjoehgomjgckaaGreatDoor
end
section
set_option linter.unusedVariables false
set_option linter.unusedSimpArgs false
namespace Go.Ev
open Go Go.RowKit
theorem ah.gL{w0 w:World}{S:List Nat}{L:List aA}(H:ah w0 S w L){t:TypeId}{cs:List Value}{K:Addr->World->Prop}(h:∀b w',ah w0 S w' (L++[.aj b cs t])->Mod [] w w'->K ⟨b,0,none⟩ w'):Ev.nw t cs w K:=
 qE λb w' hb h1 h2 _=>h b w' (H.push h2 h1 (by simp[aA.aj,hb])) h2
theorem bz(b i j:Nat):Addr.add (Addr.add ⟨b,0,none⟩ i) j=⟨b,i+j,none⟩:=by rw[ai,sP]
end Go.Ev
namespace Go.Proofs.YtgjoehgomjgckaaGreatDoor
open Go Go.Ev
set_option maxRecDepth 20000
set_option linter.unusedVariables false
variable{w0:World}{ow:Int}{sd:ag}
def Az(q:aY)(t:aH)(s:bW)(ow:Int)(sd:ag):List Value:=
 [.int .i64 q.n0,.int .i64 q.n1,.int .i64 q.n2,.int .i64 q.n3,.int .i64 q.n4,.int .i64 q.n5,.int .i64 q.n6,.int .i64 q.n7,.int .i64 q.n8,.int .i64 q.n9,.int .i64 q.gS,.string q.name,.slice q.cM.a q.cM.n q.cM.c,.slice q.tok.a q.tok.n q.tok.c,
  .int .i64 t.clock,.slice s.sec.a s.sec.n s.sec.c,.slice s.ten.a s.ten.n s.ten.c,.slice s.ax.a s.ax.n s.ax.c,.slice s.key.a s.key.n s.key.c,.slice s.gr.a s.gr.n s.gr.c,.int .i64 ow,.slice sd.a sd.n sd.c]
def e8(q:aY)(t:aH):Int:=if q.n2=13 then (t.aL.getD (q.n7 - 1).toNat gz).n1 else q.n4
def mJ(q:aY)(t:aH):aI:=t.keys.getD (e8 q t - 1).toNat kz
def fO(op:Int):Bool:=decide (op=1)||(decide (op=2)||decide (op=3))
def kT(op:Int):Bool:=decide (op=5)||(decide (op=6)||(decide (op=7)||(decide (op=8)||(decide (op=10)||decide (op=11)))))
def eH(q:aY)(t:aH):Bool:=
 if fO q.n2=true then aF 1 (t.bn.length:Int) q.n3
 else (decide (q.n2≠13)||aF 1 (t.aL.length:Int) q.n7)&&(aF 1 (t.keys.length:Int) (e8 q t)&&
  (if kT q.n2=true then (di (mJ q t) q.n5).isSome else decide (q.n2≠12)||aF 1 (t.ax.length:Int) q.n8))
def kO(q:aY)(t:aH):Int:=if fO q.n2=true then q.n3 else (mJ q t).ten
def cB(b:Nat)(q:aY)(t:aH)(s:bW)(ow:Int)(sd:ag)(ys zs:List ag)(fp fq:List Nat):List aA:=.aj b (Az q t s ow sd) zB::cJ s t ys zs fp fq
theorem Bq(c:Int)(hc:c≠0)(w:World):Ok Pr Gc [.int .i64 c] w λv w'=>cA w w' v c/\Mod [] w w':=by
 refine aC Tryz.func35 ?_
 exact qE λb w' hb h1 h2 _=>⟨cA.mk h1 (by omega) hc,h2⟩
theorem Dq(id many:Int)(w:World):Ok Pr aaK [.int .i64 id,.int .i64 many] w λv w'=>v=.bool (aF 1 many id)/\w'=w:=by
 refine aC Tryz.func51 ?_
 exact⟨rfl,rfl⟩
theorem wg{w:World}{S:List Nat}{b:Nat}{q:aY}{t:aH}{s:bW}{ys zs:List ag}{fp fq:List Nat}(H:ah w0 S w (cB b q t s ow sd ys zs fp fq)):dF w s t:=nu (L:=[_]) H
theorem Mh{w:World}{S:List Nat}{b:Nat}{q:aY}{t:aH}{s:bW}{ys zs:List ag}{fp fq:List Nat}{M:List aA}(H:ah w0 S w (cB b q t s ow sd ys zs fp fq++M)){i:Nat}{x:ag}{k:aI}(hx:zs[i]? = some x)(hk:t.keys[i]? = some k):fI w x k.ay:=by
 have h:aM cZ w zs t.keys:=H.box 7 rfl
 exact h.2 i x k hx hk
theorem LU{w:World}{S:List Nat}{b:Nat}{q:aY}{t:aH}{s:bW}{ys zs:List ag}{fp fq:List Nat}{M:List aA}(H:ah w0 S w (cB b q t s ow sd ys zs fp fq++M)){i:Nat}(hi:i<t.keys.length):
  t.keys[i]? = some (t.keys.getD i kz)/\(s.key.a.isSome=true/\(0:Int)<=(i:Int)/\(i:Int)<(s.key.n:Int))/\∃x,zs[i]? = some x/\∀(j:Nat) (v:Value),((t.keys.getD i kz).cs x)[j]? = some v->w.cell? (Addr.add (Addr.add (base s.key.a) (Int.toNat (i:Int)*4)) j)=some v:=by
 have hk:t.keys[i]? = some (t.keys.getD i kz):=by rw[List.getD_eq_getElem?_getD,List.getElem?_eq_getElem hi];rfl
 have h:aM cZ w zs t.keys:=H.box 7 rfl
 have hr:=H.cG 6 rfl
 have hl:=hr.len
 rw[gw aI.bA _ _ h.1]at hl
 have hx:zs[i]? = some (zs[i]'(by rw[h.1];exact hi)):=List.getElem?_eq_getElem _
 refine⟨hk,⟨hr.pre (by omega),by omega,by omega⟩,_,hx,λj v hv=>?_⟩
 rw[Int.toNat_natCast]
 exact hr.oH aI.bA hk hx hv
theorem mD{n:Int}{m:Nat}(h:aF 1 (m:Int) n=true):∃i:Nat,n - 1=(i:Int)/\(n - 1).toNat=i/\i<m:=by
 unfold aF at h
 rw[Bool.and_eq_true,decide_eq_true_eq,decide_eq_true_eq]at h
 exact⟨(n - 1).toNat,by omega,rfl,by omega⟩
theorem YU{w:World}{b:Nat}{q:aY}{t:aH}{s:bW}{ys zs:List ag}{fp fq:List Nat}(H:ah w0 [] w (cB b q t s ow sd ys zs fp fq))(hs:t.small)(hq:cv q.n4/\cv q.n7):
  Ok Pr Pb [.pointer (some ⟨b,0,none⟩)] w λv w'=>v=.bool (eH q t)/\∃q' jM,(eH q t=true->q'={ q with n4:=e8 q t }/\jM=kO q t)/\ah w0 [] w' (cB b q' t s jM sd ys zs fp fq):=by
 refine aC Tryz.func53 (J:=[(11,[]),(5,[(11,.bool)]),(22,[(104,.bool)])]) ?_
 rw[kN,oA]
 have hR:=wg H
 have vi:=hR.ten.len
 have mB:=hR.ax.len
 have od:=hR.key.len
 have Bk:=hR.gr.len
 have q8:∀i,i<t.keys.length->(t.keys.getD i kz).ay.length<=1000:=λi hi=>sM hs hi
 obtain⟨hq4,hq7⟩:=hq
 have nS:=hs.key
 have sB:=hs.gr
 have no:∀ {w':World} (q':aY) (jM:Int),eH q t=false->ah w0 [] w' (cB b q' t s jM sd ys zs fp fq)->(λ(v:Value) (w':World)=>v=.bool (eH q t)/\∃q' jM,(eH q t=true->q'={ q with n4:=e8 q t }/\jM=kO q t)/\ah w0 [] w' (cB b q' t s jM sd ys zs fp fq)) (.bool false) w':=λq' jM h D=>⟨by rw[h],q',jM,λh2=>(by rw[h]at h2;cases h2),D⟩
 refine gi λgo aV=>?_
 have key:∀(w1:World),fO q.n2=false->(q.n2≠13\/aF 1 (t.aL.length:Int) q.n7=true)->ah w0 [] w1 (cB b { q with n4:=e8 q t } t s ow sd ys zs fp fq)->go w1:=by
  intro w1 jv Jr H
  refine aV w1 ?_
  have eF:eH q t=(aF 1 (t.keys.length:Int) (e8 q t)&&(if kT q.n2=true then (di (mJ q t) q.n5).isSome else decide (q.n2≠12)||aF 1 (t.ax.length:Int) q.n8)):=by
   unfold eH
   rw[if_neg (by rw[jv];decide)]
   rcases Jr with h|h
   ·rw[decide_eq_true h,Bool.true_or,Bool.true_and]
   ·rw[h,Bool.or_true,Bool.true_and]
  have D:=H.drew
  refine nc (D.au 0 rfl (bz b 0 4) rfl (nc (D.az 0 rfl (bz b 14 4) rfl (an (Dq _ _ _) ?_))))
  rintro _ w2 ⟨rfl,so⟩
  subst so
  refine aN ?_
  show dc (!aF 1 (s.key.n:Int) (e8 q t)) _ _
  rw[<- od]
  cases c1:aF 1 (t.keys.length:Int) (e8 q t)with
  |false=>exact ite_true rfl (no _ _ (by rw[eF,c1];rfl) D)
  |true=>
  rw[c1,Bool.true_and]at eF
  obtain⟨i,ei,en,hi⟩:=mD c1
  have hJ:mJ q t=t.keys.getD i kz:=by unfold mJ;rw[en]
  have Xo:kO q t=(mJ q t).ten:=by unfold kO;rw[if_neg (by rw[jv];decide)]
  have hvi:=q8 i hi
  have D2:=D.drew
  obtain⟨ja,bF,x,cu,hc⟩:=LU (M:=[]) D2 hi
  have hib:cv (e8 q t - 1):=by unfold cv;omega
  refine ite_false rfl (nc (D2.az 0 rfl (bz b 14 4) rfl (nc (D2.au 0 rfl (bz b 0 4) rfl ⟨hib,?_⟩))))
  show ij s.key.a (e8 q t - 1) s.key.n _
  rw[hJ]at eF Xo
  rw[ei]
  generalize t.keys.getD i kz=k at*
  refine⟨bF,mC hc (D2.gL λp w3 E m3=>⟨vM m3 (hc 0 _ rfl),D2.kept m3 0 rfl (bz b 0 4) 1,D2.kept m3 0 rfl (bz b 14 4) 1,E.cO 8 rfl rfl λw4 E=>E.au 8 rfl (ai p 1) rfl (nc (E.st 0 rfl (ai b 20) (by show 20<22;omega) rfl λw5 E=>?_))⟩)⟩
  have E:ah w0 [] w5 (cB b { q with n4:=e8 q t } t s k.ten sd ys zs fp fq++[.aj p (bY k.id k.ten k.set x) aW]):=E
  have yes:∀ {w':World},eH q t=true->ah w0 [] w' (cB b { q with n4:=e8 q t } t s k.ten sd ys zs fp fq)->(λ(v:Value) (w':World)=>v=.bool (eH q t)/\∃q' jM,(eH q t=true->q'={ q with n4:=e8 q t }/\jM=kO q t)/\ah w0 [] w' (cB b q' t s jM sd ys zs fp fq)) (.bool true) w':=λh D=>⟨by rw[h],_,_,λ_=>⟨rfl,Xo.symm⟩,D⟩
  have any:∀ {w':World} (r:Bool),eH q t=r->ah w0 [] w' (cB b { q with n4:=e8 q t } t s k.ten sd ys zs fp fq)->(λ(v:Value) (w':World)=>v=.bool (eH q t)/\∃q' jM,(eH q t=true->q'={ q with n4:=e8 q t }/\jM=kO q t)/\ah w0 [] w' (cB b q' t s jM sd ys zs fp fq)) (.bool r) w':=λr h D=>by
   cases r with
   |true=>exact yes h D
   |false=>exact no _ _ h D
  have vj:∀ {w':World} {M:List aA},ah w0 [] w' (cB b { q with n4:=e8 q t } t s k.ten sd ys zs fp fq++M)->dD w' x k.ay:=λD=>(Mh D cu ja).ay
  refine nc (E.au 0 rfl (bz b 0 2) rfl (fo λgB fu=>?_))
  have G:gB (kT q.n2) w5:=by
   refine fu _ _ ?_
   have E2:=E.drew
   cases hv:kT q.n2 with
   |true=>
    rw[hv,if_pos rfl]at eF
    refine ite_true rfl (E2.bD 8 rfl (nc (E2.au 0 rfl (bz b 0 5) rfl ⟨?_,?_⟩)))
    ·refine an (Dw k x q.n5 (by omega) _ (vj E2)) ?_
     rintro _ w7 ⟨y,rfl,hy⟩
     have E3:=E2.frame hy.mod
     refine⟨_,rfl,om ⟨_,rfl,rfl,E3.gL λp1 w8 E4 m8=>⟨E3.kept m8 0 rfl (bz b 0 5) 1,E3.kept m8 8 rfl rfl 4,E4.gU 9 rfl rfl λw9 E5=>any _ eF (E5.take 8)⟩⟩⟩
    ·refine E2.gL λp1 w8 E4 m8=>⟨E2.kept m8 0 rfl (bz b 0 5) 1,E2.kept m8 8 rfl rfl 4,an (Dw k x q.n5 (by omega) _ (vj (M:=[_,_]) E4)) ?_⟩
     rintro _ w7 ⟨y,rfl,hy⟩
     have E5:=E4.frame hy.mod
     refine⟨_,rfl,om ⟨_,rfl,rfl,E5.gU 9 rfl rfl λw9 E6=>any _ eF (E6.take 8)⟩⟩
   |false=>
    rw[hv,if_neg (by decide)]at eF
    refine ite_false rfl (aZ (λh=>?_) (λh=>?_))
    ·have h:=of_decide_eq_true h
     have iC:q.n2=12:=h
     rw[decide_eq_false (by omega),Bool.false_or,mB]at eF
     refine nc (E2.au 0 rfl (bz b 0 8) rfl (nc (E2.az 0 rfl (bz b 14 3) rfl (an (Dq _ _ _) ?_))))
     rintro _ w7 ⟨rfl,tP⟩
     subst tP
     exact aN (any _ eF (E2.take 8))
    ·have h:¬q.n2=12:=of_decide_eq_false h
     rw[decide_eq_true h,Bool.true_or]at eF
     exact yes eF (E.take 8)
  show dc (decide (q.n2=5)) _ _
  have tv:∀ {z:Int},kT z=true->q.n2=z->gB (decide (q.n2=z)) w5:=λhz e=>by
   rw[e]at G⊢
   rw[hz]at G
   rw[decide_eq_true rfl]
   exact G
  refine aZ (λh=>tv rfl (of_decide_eq_true h)) λh5=>?_
  refine aZ (λh=>tv rfl (of_decide_eq_true h)) λh6=>?_
  refine aZ (λh=>tv rfl (of_decide_eq_true h)) λh7=>?_
  refine aZ (λh=>tv rfl (of_decide_eq_true h)) λh8=>?_
  refine aZ (λh=>tv rfl (of_decide_eq_true h)) λjr=>?_
  have e:kT q.n2=decide (q.n2=11):=by
   unfold kT
   have h5:decide (q.n2=5)=false:=h5
   have h6:decide (q.n2=6)=false:=h6
   have h7:decide (q.n2=7)=false:=h7
   have h8:decide (q.n2=8)=false:=h8
   have jr:decide (q.n2=10)=false:=jr
   rw[h5,h6,h7,h8,jr];rfl
  rw[e]at G
  exact G
 refine nc (H.au 0 rfl (bz b 0 2) rfl (fo λgo2 oN=>?_))
 have G:go2 (fO q.n2) w:=by
  refine oN _ _ ?_
  cases hm:fO q.n2 with
  |true=>
   have eF:eH q t=aF 1 (t.bn.length:Int) q.n3:=by unfold eH;rw[if_pos hm]
   have eo:kO q t=q.n3:=by unfold kO;rw[if_pos hm]
   have pN:q.n2≠13:=λh=>by rw[h]at hm;cases hm
   have eK:e8 q t=q.n4:=by unfold e8;rw[if_neg pN]
   refine ite_true rfl (nc (H.au 0 rfl (bz b 0 3) rfl (nc (H.st 0 rfl (ai b 20) (by show 20<22;omega) rfl λw5 E=>?_))))
   have E:ah w0 [] w5 (cB b q t s q.n3 sd ys zs fp fq):=E
   have E2:=E.drew
   refine nc (E2.au 0 rfl (bz b 0 3) rfl (nc (E2.az 0 rfl (bz b 14 2) rfl (an (Dq _ _ _) ?_))))
   rintro _ w7 ⟨rfl,tP⟩
   subst tP
   refine aN ⟨by rw[eF,vi],q,q.n3,λ_=>⟨by rw[eK],eo.symm⟩,E2⟩
  |false=>
   refine ite_false rfl (aZ (λh=>?_) (λh=>?_))
   ·have fR:q.n2=13:=of_decide_eq_true h
    have H2:=H.drew
    refine nc (H2.au 0 rfl (bz b 0 7) rfl (nc (H2.az 0 rfl (bz b 14 5) rfl (an (Dq _ _ _) ?_))))
    rintro _ w7 ⟨rfl,tP⟩
    subst tP
    refine aN ?_
    show dc (!aF 1 (s.gr.n:Int) q.n7) _ _
    rw[<- Bk]
    cases c1:aF 1 (t.aL.length:Int) q.n7 with
    |false=>
     refine ite_true rfl (no _ _ ?_ H2)
     unfold eH
     rw[if_neg (by rw[hm];decide),c1,decide_eq_false (by omega)];rfl
    |true=>
     obtain⟨i,ei,en,hi⟩:=mD c1
     have H3:=H2.drew
     have Xp:dF _ s t:=wg H3
     have eK:e8 q t=(t.aL.getD i gz).n1:=by unfold e8;rw[if_pos fR,en]
     refine ite_false rfl (nc (H3.az 0 rfl (bz b 14 5) rfl (nc (H3.au 0 rfl (bz b 0 7) rfl ⟨by unfold cv;omega,?_⟩))))
     show ij s.gr.a (q.n7 - 1) s.gr.n _
     rw[ei]
     refine⟨⟨Xp.gr.pre (by omega),by omega,by omega⟩,_,by rw[Int.toNat_natCast];exact fN.cell (j:=1) Xp.gr hi rfl,nc (H3.st 0 rfl (bz b 0 4) (by show 4<22;omega) rfl λw5 E=>key w5 hm (.inr c1) ?_)⟩
     rw[eK]
     exact E
   ·have fR:¬q.n2=13:=of_decide_eq_false h
    have eK:e8 q t=q.n4:=by unfold e8;rw[if_neg fR]
    refine key w hm (.inl fR) ?_
    rw[eK]
    exact H
 show dc (decide (q.n2=1)) _ _
 have tv:∀ {z:Int},fO z=true->q.n2=z->go2 (decide (q.n2=z)) w:=λhz e=>by
  rw[e]at G⊢
  rw[hz]at G
  rw[decide_eq_true rfl]
  exact G
 refine aZ (λh=>tv rfl (of_decide_eq_true h)) λh1=>?_
 refine aZ (λh=>tv rfl (of_decide_eq_true h)) λh2=>?_
 have e:fO q.n2=decide (q.n2=3):=by
  unfold fO
  have h1:decide (q.n2=1)=false:=h1
  have h2:decide (q.n2=2)=false:=h2
  rw[h1,h2];rfl
 rw[e]at G
 exact G
end Go.Proofs.YtgjoehgomjgckaaGreatDoor
end
section
set_option linter.unusedVariables false
set_option linter.unusedSimpArgs false
namespace Go.Proofs.YtgjoehgomjgckaaGreatDoor
open Go Go.Ev
set_option maxRecDepth 20000
set_option linter.unusedVariables false
def zo(l:List bu)(s t:List B8):bu:=if fy l=true then (l.find? λg=>decide (tok s g=t)).getD gz else gz
def qw(l:List bu)(s t:List B8):Int:=if fy l=true then (if (l.find? λg=>decide (tok s g=t)).isSome=true then 0 else 15) else 2
theorem aiL(l:List bu)(s t:List B8):Told l s t (zo l s t) (qw l s t):=by
 unfold Told zo qw
 cases hm:fy l with
 |false=>exact .inl ⟨rfl,rfl,rfl⟩
 |true=>
  cases hf:l.find? (λg=>decide (tok s g=t))with
  |none=>
   refine .inr (.inl ⟨rfl,λj hj e=>?_,rfl,rfl⟩)
   have:=List.find?_eq_none.1 hf (l.getD j gz) (by rw[List.getD_eq_getElem?_getD,List.getElem?_eq_getElem hj];exact List.getElem_mem hj)
   exact this (decide_eq_true e)
  |some g=>
   obtain⟨i,hi,hg,cr⟩:=List.find?_eq_some_iff_getElem.1 hf |>.2
   have ei:l.getD i gz=g:=by rw[List.getD_eq_getElem?_getD,List.getElem?_eq_getElem hi];exact hg
   refine .inr (.inr ⟨rfl,⟨i,hi,?_,λj hj e=>?_,?_⟩,rfl⟩)
   ·rw[ei];exact of_decide_eq_true (List.find?_eq_some_iff_getElem.1 hf).1
   ·have:=cr j hj
    rw[List.getD_eq_getElem?_getD,List.getElem?_eq_getElem (by omega)]at e
    simp only[Option.getD_some]at e
    rw[e]at this
    simp at this
   ·rw[ei];rfl
theorem MI{l:List bu}{s t:List B8}{g:bu}{c:Int}(h:Told l s t g c):g=zo l s t/\c=qw l s t:=h.unique (aiL l s t)
def fj(op:Int):Bool:=decide (op=9)||(decide (op=10)||decide (op=11))
def uI(q:aY)(lt:List B8)(t:aH)(ow:Int):Int:=
 if ux t.bn (t.ax.getD (q.n0 - 1).toNat dK).ten ow=true then 0
 else if fj q.n2=true then (if qw t.aL t.bN lt=0 then qG (zo t.aL t.bN lt) q.n4 q.n0 q.n2 t.clock else qw t.aL t.bN lt)
 else 10
theorem UB{w0 w:World}{S:List Nat}{b:Nat}{q:aY}{t:aH}{s:bW}{ow:Int}{sd:ag}{ys zs:List ag}{fp fq:List Nat}{M:List aA}(H:ah w0 S w (cB b q t s ow sd ys zs fp fq++M)){i:Nat}(hi:i<t.ax.length):
  t.ax[i]? = some (t.ax.getD i dK)/\(s.ax.a.isSome=true/\(0:Int)<=(i:Int)/\(i:Int)<(s.ax.n:Int))/\∃x,ys[i]? = some x/\∀(j:Nat) (v:Value),((t.ax.getD i dK).cs x)[j]? = some v->w.cell? (Addr.add (Addr.add (base s.ax.a) (Int.toNat (i:Int)*5)) j)=some v:=by
 have hk:t.ax[i]? = some (t.ax.getD i dK):=by rw[List.getD_eq_getElem?_getD,List.getElem?_eq_getElem hi];rfl
 have h:aM eY w ys t.ax:=H.box 5 rfl
 have hr:=H.cG 4 rfl
 have hl:=hr.len
 rw[gw bE.bA _ _ h.1]at hl
 have hx:ys[i]? = some (ys[i]'(by rw[h.1];exact hi)):=List.getElem?_eq_getElem _
 refine⟨hk,⟨hr.pre (by omega),by omega,by omega⟩,_,hx,λj v hv=>?_⟩
 rw[Int.toNat_natCast]
 exact hr.oH bE.bA hk hx hv
theorem Ye{w0 w:World}{b:Nat}{q:aY}{t:aH}{s:bW}{ow:Int}{sd:ag}{ys zs:List ag}{fp fq:List Nat}(H:ah w0 [] w (cB b q t s ow sd ys zs fp fq))(hs:t.small)(hw:aF 1 (t.ax.length:Int) q.n0=true)(lt:List B8)(ht:Bytes w0 q.tok lt)(tc:t.bN.length<=1000):
  Ok Pr O0 [.pointer (some ⟨b,0,none⟩)] w λv w'=>cA w w' v (uI q lt t ow)/\Mod [] w w':=by
 refine aC Tryz.func54 (J:=[(8,[(36,.bool)]),(9,[(4,.eX),(5,.val)])]) ?_
 rw[ID]
 have sy:=hs.ten
 have sA:=hs.ax
 have sB:=hs.gr
 have hC:uI q lt t ow=if ux t.bn (t.ax.getD (q.n0 - 1).toNat dK).ten ow=true then 0 else if fj q.n2=true then (if qw t.aL t.bN lt=0 then qG (zo t.aL t.bN lt) q.n4 q.n0 q.n2 t.clock else qw t.aL t.bN lt) else 10:=rfl
 generalize uI q lt t ow=C at*
 obtain⟨i,ei,en,hi⟩:=mD hw
 rw[en]at hC
 have D:=H.drew
 obtain⟨ja,bF,x,cu,hc⟩:=UB (M:=[]) D hi
 refine nc (D.az 0 rfl (bz b 14 3) rfl (nc (D.au 0 rfl (bz b 0 0) rfl ⟨by unfold cv;omega,?_⟩)))
 show ij s.ax.a (q.n0 - 1) s.ax.n _
 rw[ei]
 generalize t.ax.getD i dK=pr at*
 have D2:=D.drew
 have Bm:dF _ s t:=wg D2
 refine⟨bF,_,hc 1 _ rfl,nc (D2.az 0 rfl (bz b 14 2) rfl (nc (D2.au 0 rfl (ai b 20) rfl (an (Zb s.ten t.bn (by omega) pr.ten ow _ Bm.ten) ?_))))⟩
 rintro _ w1 ⟨rfl,m1⟩
 have m:Mod [] w w1:=(Mod.drew [] w).trans ((Mod.drew [] _).trans m1)
 have H1:=H.frame m
 refine aN ?_
 cases ha:ux t.bn pr.ten ow with
 |true=>
  rw[ha,if_pos rfl]at hC
  rw[hC]
  exact ite_true rfl ⟨rH _ _,m⟩
 |false=>
 rw[ha,if_neg (by decide)]at hC
 refine ite_false rfl (nc (H1.au 0 rfl (bz b 0 2) rfl (fo λgB fu=>?_)))
 have G:gB (fj q.n2) w1:=by
  refine fu _ _ ?_
  cases hu:fj q.n2 with
  |false=>
   rw[hu,if_neg (by decide)]at hC
   rw[hC]
   refine ite_false rfl (an (Bq 10 (by decide) w1) ?_)
   rintro e w2 ⟨h,m2⟩
   exact⟨h.from m.size,m.trans m2⟩
  |true=>
   rw[hu,if_pos rfl]at hC
   have E:=H1.drew
   have Js:dF _ s t:=wg E
   refine ite_true rfl (vN λgo aV=>?_)
   have fin:∀(g:Nat) (er:Value) (w3:World),Mod [] w1.drew w3->bp w3 g (zo t.aL t.bN lt).cells cc->cA w1.drew w3 er (qw t.aL t.bN lt)->go ⟨g,0,none⟩ er w3:=by
    intro g er w3 m3 hb he
    have m':Mod [] w w3:=m.trans ((Mod.drew [] w1).trans m3)
    have F:=H.frame m'
    have hE:=he.from (Nat.le_trans m.size (Mod.drew [] w1).size)
    refine aV _ _ _ (he.1.isNil ?_)
    by_cases h0:qw t.aL t.bN lt=0
    case neg=>
     rw[if_neg h0]at hC
     rw[hC]
     exact ite_true (by rw[decide_eq_false h0];rfl) ⟨hE,m'⟩
    rw[if_pos h0]at hC
    rw[hC]
    refine ite_false (by rw[decide_eq_true h0];rfl) ?_
    have F2:=F.drew
    have gZ:=hb.av (Mod.drew [] w3)
    refine JL (λj v hv=>by rw[ai,gZ.cell];exact hv) (nc (F2.au 0 rfl (bz b 0 4) rfl (nc (F2.au 0 rfl (bz b 0 0) rfl (nc (F2.au 0 rfl (bz b 0 2) rfl (nc (F2.au 0 rfl (bz b 14 0) rfl (an (Zd _ _ _ _ _ _) ?_)))))))))
    rintro v w4 ⟨h4,m4⟩
    have m2:=m'.trans (Mod.drew [] w3)
    exact⟨h4.from m2.size,m2.trans m4⟩
   refine nc (E.az 0 rfl (bz b 14 5) rfl (nc (E.az 0 rfl (bz b 14 1) rfl (nc (E.az 0 rfl (bz b 0 13) rfl ⟨?_,?_⟩)))))
   ·refine an (Px t.aL s.gr s.sec q.tok t.bN lt tc (by omega) _ Js.gr Js.sec (ht.av E.mod)) ?_
    rintro _ w5 ⟨g,c,er,rfl,hT,he,m5⟩
    obtain⟨rfl,rfl⟩:=MI hT
    have E5:=E.frame m5
    have K:=(ah.start w1.drew).gW m5 he
    refine⟨_,rfl,JM ⟨rfl,K.gL λp w6 K6 m6=>⟨E5.kept m6 0 rfl (bz b 0 13) 1,E5.kept m6 0 rfl (bz b 14 1) 1,E5.kept m6 0 rfl (bz b 14 5) 1,K6.pP 1 rfl rfl λw7 K7=>fin p er w7 K7.mod (K7.aj 1 rfl) ⟨K7.ok 0 _ rfl,λb hb=>(K7.own 0 _ rfl b hb).resolve_left (by simp)⟩⟩⟩⟩
   ·refine(ah.start w1.drew).gL λp w8 K8 m8=>⟨E.kept m8 0 rfl (bz b 0 13) 1,E.kept m8 0 rfl (bz b 14 1) 1,E.kept m8 0 rfl (bz b 14 5) 1,an (Px t.aL s.gr s.sec q.tok t.bN lt tc (by omega) _ (Js.gr.av m8) (Js.sec.av m8) (ht.av (E.mod.trans m8))) ?_⟩
    rintro _ w5 ⟨g,c,er,rfl,hT,he,m5⟩
    obtain⟨rfl,rfl⟩:=MI hT
    have K:=K8.gW m5 he
    refine⟨_,rfl,JM ⟨rfl,K.pP 0 rfl rfl λw7 K7=>fin p er w7 K7.mod (K7.aj 0 rfl) ⟨K7.ok 1 _ rfl,λb hb=>(K7.own 1 _ rfl b hb).resolve_left (by simp)⟩⟩⟩
 show dc (decide (q.n2=9)) _ _
 have tv:∀ {z:Int},fj z=true->q.n2=z->gB (decide (q.n2=z)) w1:=λhz e=>by
  rw[e]at G⊢
  rw[hz]at G
  rw[decide_eq_true rfl]
  exact G
 refine aZ (λh=>tv rfl (of_decide_eq_true h)) λh9=>?_
 refine aZ (λh=>tv rfl (of_decide_eq_true h)) λjr=>?_
 have e:fj q.n2=decide (q.n2=11):=by
  unfold fj
  have h9:decide (q.n2=9)=false:=h9
  have jr:decide (q.n2=10)=false:=jr
  rw[h9,jr];rfl
 rw[e]at G
 exact G
end Go.Proofs.YtgjoehgomjgckaaGreatDoor
end
section
set_option linter.unusedVariables false
set_option linter.unusedSimpArgs false
namespace Go.Ev
open Go Go.RowKit
section
variable{A:Type}{C:A->ag->List Value}{sz:Nat}{te:TypeId}{w0 w:World}{S:List Nat}{L:List aA}{s:ag}{ls:List A}{xs:List ag}{i:Nat}
theorem ah.kU(H:ah w0 S w L)(k:Nat)(hk:L[k]? = some (.row te sz s (aO C ls xs)))(hC:∀a x,(C a x).length=sz)(hx:xs.length=ls.length){a a':A}{x:ag}(ha:ls[i]? = some a)(cu:xs[i]? = some x){j:Nat}(hj:j<sz){v:Value}(hv:dQ v=true)(hz:C a' x=(C a x).set j v){K:World->Prop}
  (h:∀w',ah w0 S w' (L.set k (.row te sz s (aO C (ls.set i a') xs)))->K w'):Ev.st (Addr.add (Addr.add (base s.a) (Int.toNat (i:Int)*sz)) j) v w K:=by
 have hi:=(List.getElem?_eq_some_iff.1 ha).1
 refine H.gx k (i:=i*sz+j) hk (by rw[add_add,Int.toNat_natCast]) ?_ hv λw' H'=>h w' ?_
 ·rw[gw hC _ _ hx]
  have:=Nat.mul_le_mul_right sz (show i+1<=ls.length from hi)
  rw[Nat.succ_mul]at this
  omega
 ·rw[rD hC ls xs i j a a' x x v ha cu hj hz,zA cu]at H'
  exact H'
end
end Go.Ev
namespace Go.Proofs.YtgjoehgomjgckaaGreatDoor
open Go Go.Ev
set_option maxRecDepth 20000
set_option linter.unusedVariables false
def uP(q:aY)(p:bE):bE:={ p with high:=oR p.high p.used q.n1,used:=s9 p.high p.used q.n1 }
def bI(q:aY)(t:aH):bE:=t.ax.getD (q.n0 - 1).toNat dK
def dG(q:aY)(t:aH):aH:={ t with ax:=t.ax.set (q.n0 - 1).toNat (uP q (bI q t)) }
def qi(q:aY)(lt:List B8)(t:aH):Int:=
 if (cP t&&iy q)=true then
  (if aF 1 (t.ax.length:Int) q.n0=true then
   (if iP (bI q t).high (bI q t).used q.n1=0 then (if eH q t=true then uI q lt t (kO q t) else 9) else 8)
  else 6)
 else 2
theorem KC{q:aY}(h:iy q=true):∀n∈q.rest,0<=n/\n<=1099511627776:=by
 unfold iy at h
 simp only[Bool.and_eq_true]at h
 intro n hn
 have:=List.all_eq_true.1 h.2.2.2.1 n hn
 simpa[aF]using this
theorem mem_set{A:Type}{l:List A}{i:Nat}{a x:A}(h:x∈l.set i a):x∈l\/x=a:=by
 rcases List.mem_or_eq_of_mem_set h with h|h
 ·exact .inl h
 ·exact .inr h
theorem aiM{q:aY}{t:aH}{i:Nat}(en:(q.n0 - 1).toNat=i)(hi:i<t.ax.length):t.ax[i]? = some (bI q t):=by
 unfold bI;rw[en,List.getD_eq_getElem?_getD,List.getElem?_eq_getElem hi];rfl
theorem KS{q:aY}{t:aH}(hs:t.small)(hw:aF 1 (t.ax.length:Int) q.n0=true):(dG q t).small where
 sec:=hs.sec
 ten:=hs.ten
 ax:=by show(t.ax.set _ _).length<=1000;rw[List.length_set];exact hs.ax
 key:=hs.key
 gr:=hs.gr
 pk:=λp hp=>by
  obtain⟨i,_,en,hi⟩:=mD hw
  rcases mem_set hp with h|h
  ·exact hs.pk p h
  ·rw[h];exact hs.pk (bI q t) (List.mem_of_getElem? (aiM en hi))
 aJ:=hs.aJ
 ak:=hs.ak
 gf:=hs.gf
theorem afJ(q:aY)(t:aH):eH q (dG q t)=eH q t:=by
 unfold eH
 have e1:e8 q (dG q t)=e8 q t:=rfl
 have e2:mJ q (dG q t)=mJ q t:=rfl
 have e3:(dG q t).ax.length=t.ax.length:=by show(t.ax.set _ _).length=_;rw[List.length_set]
 rw[e1,e2,e3];rfl
theorem afK(q:aY)(lt:List B8)(t:aH)(ow:Int)(hw:aF 1 (t.ax.length:Int) q.n0=true):uI { q with n4:=e8 q t } lt (dG q t) ow=uI q lt t ow:=by
 obtain⟨i,_,en,hi⟩:=mD hw
 have e:((dG q t).ax.getD (q.n0 - 1).toNat dK).ten=(t.ax.getD (q.n0 - 1).toNat dK).ten:=by
  show((t.ax.set _ _).getD _ dK).ten=_
  rw[List.getD_eq_getElem?_getD,List.getElem?_set,if_pos rfl,if_pos (by omega)];rfl
 show(if ux t.bn ((dG q t).ax.getD (q.n0 - 1).toNat dK).ten ow=true then (0:Int) else if fj q.n2=true then (if qw t.aL t.bN lt=0 then qG (zo t.aL t.bN lt) (e8 q t) q.n0 q.n2 t.clock else qw t.aL t.bN lt) else 10)=_
 rw[e]
 unfold uI
 cases hu:fj q.n2 with
 |false=>rfl
 |true=>
  have:e8 q t=q.n4:=by
   unfold e8
   rw[if_neg (λh=>by rw[h]at hu;cases hu)]
  rw[this]
def Nn(F:Bool)(D:Int)(q:aY)(t:aH):Int:=
 if (cP t&&iy q)=true then
  (if aF 1 (t.ax.length:Int) q.n0=true then
   (if iP (bI q t).high (bI q t).used q.n1=0 then (if F=true then D else 9) else 8)
  else 6)
 else 2
def Iq(w w':World)(v:Value)(C:Int)(qk:aY)(ow:Int)(t1:aH)(sd:ag):Prop:=
 ∃(pj:Option Addr) (er:Value),v=.tuple ⟨[.pointer pj,er]⟩/\cA w w' er C/\Mod [] w w'/\
  (C=0->∃b s ys zs fp fq,pj=some ⟨b,0,none⟩/\ah w [] w' (cB b qk t1 s ow sd ys zs fp fq))
def akB(w w':World)(v:Value)(q:aY)(lt:List B8)(t:aH)(sd:ag):Prop:=Iq w w' v (qi q lt t) { q with n4:=e8 q t } (kO q t) (dG q t) sd
def akC(w:World)(q qk:aY)(t1:aH)(sd:ag)(F:Bool)(ow:Int):Prop:=
 ∀ {w1:World} {b:Nat} {s:bW} {ys zs:List ag} {fp fq:List Nat},ah w [] w1 (cB b q t1 s 0 sd ys zs fp fq)->
  Ok Pr Pb [.pointer (some ⟨b,0,none⟩)] w1 λv w'=>v=.bool F/\∃q' jM,(F=true->q'=qk/\jM=ow)/\ah w [] w' (cB b q' t1 s jM sd ys zs fp fq)
def aiN(w:World)(qk:aY)(t1:aH)(sd:ag)(ow D:Int):Prop:=
 ∀ {w1:World} {b:Nat} {s:bW} {ys zs:List ag} {fp fq:List Nat},ah w [] w1 (cB b qk t1 s ow sd ys zs fp fq)->
  Ok Pr O0 [.pointer (some ⟨b,0,none⟩)] w1 λv w'=>cA w1 w' v D/\Mod [] w1 w'
theorem afL{t:aH}(h:cP t=true):t.bN.length=32:=by
 unfold cP Ay at h
 simp only[Bool.and_eq_true,decide_eq_true_eq]at h
 exact h.1.2.1
theorem ahJ{q:aY}{t:aH}(h:aF 1 (t.ax.length:Int) q.n0=true):aF 1 ((dG q t).ax.length:Int) q.n0=true:=by
 show aF 1 ((t.ax.set _ _).length:Int) _=true
 rw[List.length_set];exact h
theorem ZT(s:bW)(t:aH)(q:aY)(sd:ag)(hs:t.small)(w:World)(hx:dF w s t){F:Bool}{D:Int}{qk:aY}{ow:Int}
  (akD:iy q=true->aF 1 (t.ax.length:Int) q.n0=true->akC w q qk (dG q t) sd F ow)
  (jU:cP t=true->aF 1 (t.ax.length:Int) q.n0=true->aiN w qk (dG q t) sd ow D) :
  Ok Pr JU [.agg ⟨t.cs s⟩,.agg ⟨q.cells⟩,.slice sd.a sd.n sd.c] w λv w'=>Iq w w' v (Nn F D q t) qk ow (dG q t) sd:=by
 refine aC Tryz.func27 (J:=[(3,[]),(2,[(20,.bool)])]) ?_
 have mB:=hx.ax.len
 have hC:Nn F D q t=if (cP t&&iy q)=true then (if aF 1 (t.ax.length:Int) q.n0=true then (if iP (bI q t).high (bI q t).used q.n1=0 then (if F=true then D else 9) else 8) else 6) else 2:=rfl
 generalize Nn F D q t=C at*
 refine(ah.start w).nw λp w1 H _=>H.nw λp1 w2 H _=>?_
 have H:ah w [] w2 [.aj p (t.cs s) aQ,.aj p1 q.cells iu]:=H
 have no:∀ {w3:World} (c:Int),Mod [] w w3->c≠0->C=c->ek Pr Gc [.int .i64 c] w3 λv w4=>Iq w w4 (.tuple ⟨[.pointer none,v]⟩) C qk ow (dG q t) sd:=by
  intro w3 c m hc e
  refine an (Bq c hc w3) ?_
  rintro er w4 ⟨h,m4⟩
  exact⟨none,er,rfl,by rw[e];exact h.from m.size,m.trans m4,λh0=>absurd (e.symm.trans h0) hc⟩
 refine gi λgo aV=>?_
 have go':∀w3,Mod [] w2 w3->(cP t&&iy q)=true->go w3:=by
  intro w3 m3 qf
  refine aV w3 ?_
  rw[if_pos qf]at hC
  rw[Bool.and_eq_true]at qf
  have H3:=H.frame m3
  have D:=H3.drew
  refine D.kM 1 rfl (D.bC 0 rfl (an (J7 s t hs _ (hx.av D.mod)) ?_))
  rintro _ w4 ⟨s',ys,zs,fp,fq,rfl,Wk⟩
  have D4:=D.join Wk
  refine ia ⟨D.kept Wk.mod 1 rfl rfl 14,D4.nw λb w5 D5 _=>?_⟩
  have J:ah w [] w5 (cB b q t s' 0 sd ys zs fp fq++[.aj p (t.cs s) aQ,.aj p1 q.cells iu]):=D5.bX [9,2,3,4,5,6,7,8,0,1] (by decide) rfl
  have J2:=J.drew
  refine J2.au 0 rfl (bz b 0 0) rfl (J2.az 8 rfl (ai p 3) rfl (an (Dq _ _ _) ?_))
  rintro _ w6 ⟨rfl,hw6⟩
  subst hw6
  refine aN ?_
  show dc (!aF 1 (s.ax.n:Int) q.n0) _ _
  rw[<- mB]
  cases c1:aF 1 (t.ax.length:Int) q.n0 with
  |false=>
   rw[c1,if_neg (by decide)]at hC
   exact ite_true rfl (no 6 J2.mod (by decide) hC)
  |true=>
  rw[c1,if_pos rfl]at hC
  obtain⟨i,ei,en,hi⟩:=mD c1
  have J3:=J2.drew
  refine ite_false rfl (J3.az 0 rfl (bz b 14 3) rfl (J3.au 0 rfl (bz b 0 0) rfl ⟨by have:=hs.ax;unfold cv;omega,?_⟩))
  show ij s'.ax.a (q.n0 - 1) s'.ax.n _
  rw[ei]
  have J4:=J3.drew
  obtain⟨ja,bF,x,cu,hc⟩:=UB J4 hi
  have hwp:t.ax.getD i dK=bI q t:=by unfold bI;rw[en]
  rw[hwp]at ja hc
  refine⟨bF,_,hc 3 _ rfl,_,hc 4 _ rfl,J4.au 0 rfl (bz b 0 1) rfl (an (abK (bI q t).high (bI q t).used q.n1 _) ?_)⟩
  rintro _ w8 ⟨er,rfl,lf,m8⟩
  have J5:=J4.frame m8
  refine⟨_,rfl,_,rfl,_,rfl,rfl,lf.1.isNil ?_⟩
  by_cases FX:iP (bI q t).high (bI q t).used q.n1=0
  case neg=>
   rw[if_neg FX]at hC
   exact ite_true (by rw[decide_eq_false FX];rfl) (no 8 J5.mod (by decide) hC)
  rw[if_pos FX]at hC
  refine ite_false (by rw[decide_eq_true FX];rfl) ?_
  have tN:ys.length=t.ax.length:=(J5.box 5 rfl:aM eY _ ys t.ax).1
  refine J5.kU 4 rfl bE.bA tN ja cu (a':={ bI q t with high:=oR (bI q t).high (bI q t).used q.n1 }) (by omega:3<5) rfl rfl λbP K=>?_
  refine K.kU 4 rfl bE.bA (by rw[List.length_set];exact tN) (a:={ bI q t with high:=oR (bI q t).high (bI q t).used q.n1 }) (a':=uP q (bI q t)) (by rw[List.getElem?_set,if_pos rfl,if_pos hi]) cu (by omega:4<5) rfl rfl λbQ K=>?_
  rw[List.set_set,List.set_set]at K
  have K:=K.D9 (Q':=λw=>aM eY w ys (t.ax.set i (uP q (bI q t)))) 5 rfl λw h=>by
   have:=aM.put h (i:=i) (x:=x) (a:=uP q (bI q t)) (h.2 i x _ cu ja:eY w x (bI q t))
   rwa [zA cu]at this
  have K:ah w [] bQ (cB b q (dG q t) s' 0 sd ys zs fp fq):=by
   have K:=K.take 8
   unfold cB cJ dG
   rw[en]
   exact K
  refine an (akD qf.2 c1 K) ?_
  rintro _ cH ⟨rfl,q',jM,hq',K2⟩
  refine aN ?_
  cases F with
  |false=>
   rw[if_neg (by decide)]at hC
   exact ite_true rfl (no 9 K2.mod (by decide) hC)
  |true=>
  rw[if_pos rfl]at hC
  obtain⟨rfl,rfl⟩:=hq' rfl
  refine ite_false rfl (an (jU qf.1 c1 K2) ?_)
  rintro er fQ ⟨FK,jJ⟩
  exact⟨some ⟨b,0,none⟩,er,rfl,by rw[hC];exact FK.from K2.mod.size,K2.mod.trans jJ,λh0=>⟨b,s',ys,zs,fp,fq,rfl,K2.frame jJ⟩⟩
 refine fo λgB fu=>?_
 have Xq:∀ {w3:World},Mod [] w2 w3->(cP t&&iy q)=false->gB true w3:=λm e=>by
  refine fu _ _ (ite_true rfl (no 2 (H.mod.trans m) (by decide) ?_))
  rw[e,if_neg (by decide)]at hC
  exact hC
 refine H.bC 0 rfl (an (QS s t hs _ (hx.av H.mod)) ?_)
 rintro _ w3 ⟨rfl,m3⟩
 have H3:=H.frame m3
 refine aN (H3.kM 1 rfl ?_)
 cases e1:cP t with
 |false=>exact ite_true rfl (Xq m3 (by rw[e1];rfl))
 |true=>
 refine ite_false rfl (an (afC q _) ?_)
 rintro _ w4 ⟨rfl,m4⟩
 refine aN ?_
 cases e2:iy q with
 |false=>exact Xq (m3.trans m4) (by rw[e1,e2];rfl)
 |true=>exact fu _ _ (ite_false rfl (go' _ (m3.trans m4) (by rw[e1,e2];rfl)))
theorem PY(s:bW)(t:aH)(q:aY)(lt:List B8)(sd:ag)(hs:t.small)(w:World)(hx:dF w s t)(ht:Bytes w q.tok lt):
  Ok Pr JU [.agg ⟨t.cs s⟩,.agg ⟨q.cells⟩,.slice sd.a sd.n sd.c] w λv w'=>akB w w' v q lt t sd:=by
 refine ZT s t q sd hs w hx (F:=eH q t) (λhm hw=>?_) λhm hw=>?_
 ·intro w1 b s' ys zs fp fq K
  have hr:=KC hm
  have hq4:=hr q.n4 (by simp[aY.rest])
  have hq7:=hr q.n7 (by simp[aY.rest])
  have h:=YU K (KS hs hw) ⟨by unfold cv;omega,by unfold cv;omega⟩
  rw[afJ]at h
  exact h
 ·intro w1 b s' ys zs fp fq K
  have h:=Ye K (KS hs hw) (ahJ hw) lt ht (by have:=afL hm;show t.bN.length<=1000;omega)
  rw[afK q lt t _ hw]at h
  exact h
theorem acU(s:bW)(t:aH)(q:aY)(lt:List B8)(hs:t.small)(w:World)(hx:dF w s t)(ht:Bytes w q.tok lt):
  Ok Pr ac4 [.agg ⟨t.cs s⟩,.agg ⟨q.cells⟩] w λv w'=>cA w w' v (qi q lt t)/\Mod [] w w':=by
 refine aC Tryz.func42 ?_
 refine(ah.start w).nw λp w1 H _=>H.nw λp1 w2 H _=>?_
 have H:ah w [] w2 [.aj p (t.cs s) aQ,.aj p1 q.cells iu]:=H
 refine H.bC 0 rfl (H.kM 1 rfl (an (PY s t q lt ⟨none,0,0⟩ hs _ (hx.av H.mod) (ht.av H.mod)) ?_))
 rintro _ w3 ⟨pj,er,rfl,lf,m3,_⟩
 exact⟨_,rfl,pj,rfl,rfl,lf.from H.mod.size,H.mod.trans m3⟩
end Go.Proofs.YtgjoehgomjgckaaGreatDoor
end
section
set_option linter.unusedVariables false
set_option linter.unusedSimpArgs false
namespace Go.Proofs.YtgjoehgomjgckaaGreatDoor
open Go Go.Ev
set_option maxRecDepth 20000
set_option linter.unusedVariables false
variable{w0:World}
theorem ah.rI{w:World}{S:List Nat}{L:List aA}(H:ah w0 S w L):ah w0 S w (L++[.cut ⟨none,0,0⟩ []]):=
 H.push (Mod.refl _ _) (.inl ⟨rfl,rfl⟩) (by simp[aA.cut,ag.row])
theorem wG{w:World}{S:List Nat}{L:List aA}(H:ah w0 S w L):ah w0 S w (L++[.cut ⟨none,0,0⟩ [],.cut ⟨none,0,0⟩ []]):=by
 have H:=ah.rI (ah.rI H)
 rwa [List.append_assoc]at H
structure mg where
 id:Int
 cM:List B8
 ex:List B8
theorem pZ:zc Pr ct=bR 0 0 ⟨none,0,0⟩ ⟨none,0,0⟩:=by kernel_rfl
def jw(w0:World)(S:List Nat)(w':World)(v:Value)(b:Nat)(T:aH)(R:mg)(C:Int):Prop:=
 ∃(rc ri:Int) (y z:ag) (er:Value),v=.tuple ⟨[.agg ⟨bR rc ri y z⟩,er]⟩/\(C≠0->ah w0 S w' [aA.err er C])/\
  (C=0->er=.nilIface/\rc=0/\ri=R.id/\∃q s ow sd ys zs fp fq,ah w0 S w' (cB b q T s ow sd ys zs fp fq++[.cut y R.cM,.cut z R.ex]))
theorem ur{w:World}{e:Value}(h:ig w e 0):e=.nilIface:=by
 rcases h with ⟨h,_⟩|⟨b,s,rfl,_,hc⟩
 ·exact h
 ·exact absurd rfl hc
theorem jw.no{w':World}{S:List Nat}{v:Value}{b:Nat}{T:aH}{R:mg}{C:Int}{rc ri:Int}{y z:ag}{er:Value}{L:List aA}(k:Nat)(hC:C≠0)(H:ah w0 S w' L)(hk:L[k]? = some (aA.err er C))(hv:v=.tuple ⟨[.agg ⟨bR rc ri y z⟩,er]⟩):jw w0 S w' v b T R C:=
 ⟨rc,ri,y,z,er,hv,λ_=>H.only k hk,λh=>absurd h hC⟩
def wH(q:aY)(t:aH):aH:={ t with bn:=qh t.bn q.n3 q.name }
def CN(q:aY)(t:aH):mg:=⟨yH t.bn q.n3 q.name,[],[]⟩
theorem Yn{w:World}{S:List Nat}{b:Nat}{q:aY}{t:aH}{s:bW}{ow:Int}{sd:ag}{ys zs:List ag}{fp fq:List Nat}(H:ah w0 S w (cB b q t s ow sd ys zs fp fq))(hs:t.small):
  Ok Pr Yw [.pointer (some ⟨b,0,none⟩)] w λv w'=>jw w0 S w' v b (wH q t) (CN q t) (k5 t.bn q.n3 q.name):=by
 refine aC Tryz.func55 ?_
 rw[pZ]
 have sy:=hs.ten
 refine H.nw λp w1 H _=>?_
 have D:=H.drew
 have hR:dF _ s t:=wg (D.take 8)
 refine nc (D.az 0 rfl (bz b 14 2) rfl (nc (D.au 0 rfl (bz b 0 3) rfl (nc (D.jX 0 rfl (bz b 0 11) rfl (an (aaw s.ten t.bn (by omega) q.n3 q.name _ hR.ten) ?_))))))
 rintro _ w2 ⟨y,er,rfl,K⟩
 have D:=D.join K
 refine⟨_,rfl,_,rfl,_,rfl,rfl,nc (D.st 0 rfl (bz b 14 2) (by show 16<22;omega) rfl λw3 D=>D.dm 8 rfl rfl λw4 D=>D.dO 8 rfl ?_)⟩
 refine⟨0,yH t.bn q.n3 q.name,⟨none,0,0⟩,⟨none,0,0⟩,er,rfl,λ_=>D.only 10 rfl,λh0=>?_⟩
 have he:ig w4 er (k5 t.bn q.n3 q.name):=D.ok 10 _ rfl
 rw[h0]at he
 refine⟨ur he,rfl,rfl,q,⟨s.sec,y,s.ax,s.key,s.gr⟩,ow,sd,ys,zs,fp,fq,?_⟩
 have D:=D.bX (L':=cB b q (wH q t) ⟨s.sec,y,s.ax,s.key,s.gr⟩ ow sd ys zs fp fq) [0,1,9,3,4,5,6,7] (by decide) rfl
 exact wG D
end Go.Proofs.YtgjoehgomjgckaaGreatDoor
end
section
set_option linter.unusedVariables false
set_option linter.unusedSimpArgs false
namespace Go.Ev
open Go Go.RowKit
theorem ah.Xr{w0:World}{S:List Nat}{k b o:Nat}{t:TypeId}{K:World->Prop}:∀(l:List Value) {i:Nat} {vs:List Value} {L:List aA} {w:World},ah w0 S w L->L[k]? = some (.aj b vs t)->o+i+l.length<=vs.length->(∀v∈l,dQ v=true)->
  (∀w',ah w0 S w' (L.set k (.aj b (ov vs (o+i) l) t))->K w')->Ev.lX l (Addr.add ⟨b,0,none⟩ o) i w K
 |[],i,vs,L,w,H,hk,hl,h1,h=>by
  refine h w ?_
  rw[Vi,zA hk]
  exact H
 |v::r,i,vs,L,w,H,hk,hl,h1,h=>by
  rw[List.length_cons]at hl
  refine H.st k hk (bz b o i) (by omega) (h1 v (List.mem_cons_self ..)) λw1 H1=>?_
  have br:k<L.length:=(List.getElem?_eq_some_iff.1 hk).1
  refine ah.Xr r H1 (by rw[List.getElem?_set,if_pos rfl,if_pos br]) (by rw[List.length_set];omega) (λu hu=>h1 u (List.mem_cons_of_mem _ hu)) λw' H'=>h w' ?_
  rw[List.set_set,show o+(i+1)=o+i+1 by omega,UA _ _ _ _ (by omega)]at H'
  exact H'
end Go.Ev
namespace Go.Proofs.YtgjoehgomjgckaaGreatDoor
open Go Go.Ev
set_option maxRecDepth 20000
set_option linter.unusedVariables false
def k6(q:aY)(lb:List B8)(t:aH):bE:=⟨(t.ax.length:Int)+1,q.n3,lb,0,0⟩
def jG(q:aY)(lb:List B8)(t:aH):aH:={ t with ax:=t.ax++[k6 q lb t] }
def td(lb:List B8)(t:aH):Int:=if lb.length=jf 1 then (if t.ax.length=6 then 12 else 0) else 3
def uQ(t:aH):mg:=⟨(t.ax.length:Int)+1,[],[]⟩
theorem Xs(a b:Int)(c:List B8)(x:ag):(bE.mk a b c 0 0).cs x=jP a b x 0 0:=by simp[bE.cs]
theorem TE(a b:Int)(x:ag):∀v∈jP a b x 0 0,dQ v=true:=by
 intro u hu
 simp only[jP,List.mem_cons,List.not_mem_nil,or_false]at hu
 rcases hu with rfl|rfl|rfl|rfl|rfl<;>rfl
theorem aH.aiO(t:aH)(s:bW):∀v∈t.cs s,dQ v=true:=by
 intro u hu
 simp only[aH.cs,lz,List.mem_cons,List.not_mem_nil,or_false]at hu
 rcases hu with rfl|rfl|rfl|rfl|rfl|rfl<;>rfl
theorem UC{w0 w:World}{S:List Nat}{b:Nat}{q:aY}{t:aH}{s:bW}{ow:Int}{sd:ag}{L:List aA}(H:ah w0 S w L)(k:Nat)(hk:L[k]? = some (.aj b (Az q t s ow sd) zB)){K:Int->ag->ag->ag->ag->ag->Prop}(h:K t.clock s.sec s.ten s.ax s.key s.gr):bC (Addr.add ⟨b,0,none⟩ 14) w K:=
 Pt (λi v hv=>H.cell k hk (bz b 14 i) (by
  match i,hv with
  |0,hv=>exact hv
  |1,hv=>exact hv
  |2,hv=>exact hv
  |3,hv=>exact hv
  |4,hv=>exact hv
  |5,hv=>exact hv
  |i+6,hv=>simp at hv)) h
theorem aiP{w0 w:World}{S:List Nat}{b:Nat}{q:aY}{t t':aH}{s s':bW}{ow:Int}{sd:ag}{L:List aA}(H:ah w0 S w L)(k:Nat)(hk:L[k]? = some (.aj b (Az q t s ow sd) zB)){K:World->Prop}(h:∀w',ah w0 S w' (L.set k (.aj b (Az q t' s' ow sd) zB))->K w'):cF (Addr.add ⟨b,0,none⟩ 14) t'.clock s'.sec s'.ten s'.ax s'.key s'.gr w K:=by
 show lX (t'.cs s') _ 0 _ _
 exact ah.Xr (t'.cs s') H hk (by show 14+0+6<=22;omega) (aH.aiO t' s') h
theorem Yo{w0 w:World}{S:List Nat}{b:Nat}{q:aY}{t:aH}{s:bW}{ow:Int}{sd:ag}{ys zs:List ag}{fp fq:List Nat}(H:ah w0 S w (cB b q t s ow sd ys zs fp fq))(hs:t.small)(h6:t.ax.length<=6)(lb:List B8)(hb:∀ {w'},Mod S w0 w'->Bytes w' q.cM lb):
  Ok Pr Yx [.pointer (some ⟨b,0,none⟩)] w λv w'=>jw w0 S w' v b (jG q lb t) (uQ t) (td lb t):=by
 refine aC Tryz.func56 (N:=[7]) ?_
 rw[pZ]
 have sA:=hs.ax
 have hC:td lb t=if lb.length=jf 1 then (if t.ax.length=6 then 12 else 0) else 3:=rfl
 generalize td lb t=C at*
 have hR:=wg H
 have mB:=hR.ax.len
 have fc:=(hb H.mod).len
 refine H.nw λp w1 H _=>an (Ql 1 w1) ?_
 rintro _ w2 ⟨rfl,m2⟩
 have H:=H.frame m2
 have no:∀(c:Int),c≠0->C=c->ek Pr Gc [.int .i64 c] w2 λv w3=>dm ⟨p,0,none⟩ 0 0 ⟨none,0,0⟩ ⟨none,0,0⟩ w3 λw4=>dO ⟨p,0,none⟩ w4 λa b1 c1 d=>jw w0 S w4 (.tuple ⟨[.agg ⟨[.int .i64 a,.int .i64 b1,.slice c1.a c1.n c1.c,.slice d.a d.n d.c]⟩,v]⟩) b (jG q lb t) (uQ t) C:=by
  intro c hc e
  refine an (Bq c hc w2) ?_
  rintro er w3 ⟨h,m3⟩
  have H:=H.gW m3 h
  refine H.dm 8 rfl rfl λw4 H=>H.dO 8 rfl ?_
  rw[e]
  exact jw.no 9 hc H rfl rfl
 refine⟨_,rfl,_,rfl,_,rfl,_,rfl,rfl,nc (H.az 0 rfl (bz b 0 12) rfl ?_)⟩
 by_cases e1:lb.length=jf 1
 case neg=>
  rw[if_neg e1]at hC
  exact ite_true (by rw[decide_eq_false (by omega)];rfl) (no 3 (by decide) hC)
 rw[if_pos e1]at hC
 refine ite_false (by rw[decide_eq_true (by omega)];rfl) (nc (H.az 0 rfl (bz b 14 3) rfl ?_))
 by_cases e2:t.ax.length=6
 ·rw[if_pos e2]at hC
  exact ite_true (decide_eq_true (by show(s.ax.n:Int)=6;omega)) (no 12 (by decide) hC)
 rw[if_neg e2]at hC
 subst hC
 refine ite_false (decide_eq_false (by show ¬(s.ax.n:Int)=6;omega)) (nc (H.az 0 rfl (bz b 14 3) rfl ⟨by show cv ((s.ax.n:Int)+1);unfold cv;omega,?_⟩))
 show lt ((s.ax.n:Int)+1) _
 rw[<- mB]
 obtain⟨n,hn⟩:∃n:Int,n=(t.ax.length:Int)+1:=⟨_,rfl⟩
 rw[<- hn]
 have D:=H.drew
 refine nD ?_
 refine nc (D.az 0 rfl (bz b 14 3) rfl (nc (D.au 0 rfl (bz b 0 3) rfl (nc (D.az 0 rfl (bz b 0 12) rfl (D.gL λp1 w7 E m7=>⟨D.kept m7 0 rfl (bz b 14 3) 1,?_⟩))))))
 have tN:ys.length=t.ax.length:=(E.box 5 rfl:aM eY _ ys t.ax).1
 have hx:Sl w7 ⟨some ⟨p1,0,none⟩,1,1⟩ 5 (jP n q.n3 q.cM 0 0):=by
  have:=(E.aj 9 rfl).sl 5 1 1 (by simp) (by omega)
  simpa[jP]using this
 have wY:(s.ax.n+(ag.mk (some ⟨p1,0,none⟩) 1 1).n)*56<=140737488355328:=by simp only[];omega
 have gZ:s.ax.n+(ag.mk (some ⟨p1,0,none⟩) 1 1).n<=9223372036854775807:=by simp only[];omega
 refine E.app (x:=⟨some ⟨p1,0,none⟩,1,1⟩) (s:=s.ax) (vs:=aO bE.cs t.ax ys) 4 HG rfl hx (TE _ _ _) wY gZ λy w8 E hy=>?_
 refine nc (E.st 0 rfl (bz b 14 3) (by show 17<22;omega) rfl λw9 E=>?_)
 have hP:k6 q lb t=⟨n,q.n3,lb,0,0⟩:=by unfold k6;rw[hn]
 have ed:aO bE.cs t.ax ys++jP n q.n3 q.cM 0 0=aO bE.cs (jG q lb t).ax (ys++[q.cM]):=by
  show _=aO bE.cs (t.ax++[k6 q lb t]) (ys++[q.cM])
  rw[vG _ _ tN,sJ,hP,Xs]
 rw[ed]at E
 have E:ah w0 S w9 [.aj b (Az q (jG q lb t) ⟨s.sec,s.ten,y,s.key,s.gr⟩ ow sd) zB,.row aE 1 s.sec (aG t.bN),.row cD 3 s.ten (dJ t.bn),.row cc 6 s.gr (cw t.aL),.row dM 5 y (aO bE.cs (jG q lb t).ax (ys++[q.cM])),.box fp λw=>aM eY w ys t.ax,.row aW 4 s.key (aO aI.cs t.keys zs),.box fq λw=>aM cZ w zs t.keys,.aj p (bR 0 0 ⟨none,0,0⟩ ⟨none,0,0⟩) ct,.aj p1 (jP n q.n3 q.cM 0 0) dM]:=E
 have Bm:dF w9 ⟨s.sec,s.ten,y,s.key,s.gr⟩ (jG q lb t):=⟨Own.bytes (E.l8 1 rfl),fk.of (E.cG 2 rfl),⟨ys++[q.cM],E.cG 4 rfl,by
  show aM xo w9 (ys++[q.cM]) (t.ax++[k6 q lb t])
  rw[hP]
  exact aM.snoc (TC (E.box 5 rfl)) (hb E.mod)⟩,⟨zs,E.cG 6 rfl,TD (E.box 7 rfl)⟩,E.cG 3 rfl⟩
 have hv:jf 1=1312:=rfl
 have sy:(jG q lb t).small:={ hs with
  ax:=by show(t.ax++[_]).length<=1000;rw[List.length_append,List.length_singleton];omega
  pk:=λp hp=>by
   rcases List.mem_append.1 (show p∈t.ax++[k6 q lb t] from hp)with h|h
   ·exact hs.pk p h
   ·rw[List.mem_singleton.1 h,hP];show lb.length<=1000000;omega }
 refine nc (UC E 0 rfl (an (J7 ⟨s.sec,s.ten,y,s.key,s.gr⟩ (jG q lb t) sy _ Bm) ?_))
 rintro _ bP ⟨s',tQ,tR,vm,vo,rfl,K⟩
 have E:=E.join K
 refine ia (nc (aiP E 0 rfl λbQ E=>E.dm 8 rfl rfl λcH E=>E.dO 8 rfl ?_))
 refine⟨0,n,⟨none,0,0⟩,⟨none,0,0⟩,.nilIface,rfl,λh=>absurd rfl h,λ_=>⟨rfl,rfl,hn,q,s',ow,sd,tQ,tR,vm,vo,?_⟩⟩
 have E:=E.bX (L':=cB b q (jG q lb t) s' ow sd tQ tR vm vo) [0,10,11,12,13,14,15,16] (by decide) rfl
 exact wG E
end Go.Proofs.YtgjoehgomjgckaaGreatDoor
end
section
set_option linter.unusedVariables false
set_option linter.unusedSimpArgs false
namespace Go.Proofs.YtgjoehgomjgckaaGreatDoor
open Go Go.Ev
set_option maxRecDepth 20000
set_option linter.unusedVariables false
def cK(q:aY)(ak:List B8)(t:aH):aI:=kY ((t.keys.length:Int)+1) q.n3 q.n6 ak
def yJ(q:aY)(ak:List B8)(t:aH):Int:=
 if 1<=q.n6/\q.n6<=3 then (if ak.length=64 then (if t.keys.length=6 then 12 else (if jd ((t.keys.length:Int)+1) q.n3 q.n6 ak=0 then fF (cK q ak t) 1 gj else jd ((t.keys.length:Int)+1) q.n3 q.n6 ak)) else 3) else 2
def mT(q:aY)(ak:List B8)(t:aH):aH:={ t with keys:=t.keys++[cK q ak t] }
def AA(q:aY)(ak:List B8)(t:aH):mg:=⟨(t.keys.length:Int)+1,kJ (cK q ak t) 1 gj,[]⟩
theorem TF(id ten set:Int)(ak:List B8):(kY id ten set ak).ay.length<=1:=by
 unfold kY
 split
 ·exact Nat.le_refl 1
 ·exact Nat.zero_le 1
theorem TG(k:aI)(x:ag):∀v∈bY k.id k.ten k.set x,dQ v=true:=aI.jE k x
theorem Yp{w0 w:World}{S:List Nat}{b:Nat}{q:aY}{t:aH}{s:bW}{ow:Int}{sd:ag}{ys zs:List ag}{fp fq:List Nat}(H:ah w0 S w (cB b q t s ow sd ys zs fp fq))(hs:t.small)(h6:t.keys.length<=6)(ak:List B8)(bZ:ak.length<=1000000)(fZ:∀ {w'},Mod S w0 w'->Bytes w' sd ak):
  Ok Pr Yy [.pointer (some ⟨b,0,none⟩)] w λv w'=>jw w0 S w' v b (mT q ak t) (AA q ak t) (yJ q ak t):=by
 refine aC Tryz.func57 (J:=[(7,[]),(2,[(8,.bool)]),(9,[(5,.eX),(6,.val)])]) (N:=[4]) ?_
 rw[pZ,kN]
 have hC:yJ q ak t=if 1<=q.n6/\q.n6<=3 then (if ak.length=64 then (if t.keys.length=6 then 12 else (if jd ((t.keys.length:Int)+1) q.n3 q.n6 ak=0 then fF (cK q ak t) 1 gj else jd ((t.keys.length:Int)+1) q.n3 q.n6 ak)) else 3) else 2:=rfl
 generalize yJ q ak t=C at*
 have hR:=wg H
 have od:=hR.key.len
 have zh:=(fZ H.mod).len
 refine H.nw λp w1 H _=>?_
 have H:ah w0 S w1 (cB b q t s ow sd ys zs fp fq++[.aj p (bR 0 0 ⟨none,0,0⟩ ⟨none,0,0⟩) ct]):=H
 have fin:∀ {w3:World} {L:List aA} (k:Nat) (er:Value),ah w0 S w3 ((cB b q t s ow sd ys zs fp fq++[.aj p (bR 0 0 ⟨none,0,0⟩ ⟨none,0,0⟩) ct])++L)->C≠0->((cB b q t s ow sd ys zs fp fq++[.aj p (bR 0 0 ⟨none,0,0⟩ ⟨none,0,0⟩) ct])++L)[9+k]? = some (aA.err er C)->
   dm ⟨p,0,none⟩ 0 0 ⟨none,0,0⟩ ⟨none,0,0⟩ w3 λw4=>dO ⟨p,0,none⟩ w4 λa b1 c1 d=>jw w0 S w4 (.tuple ⟨[.agg ⟨[.int .i64 a,.int .i64 b1,.slice c1.a c1.n c1.c,.slice d.a d.n d.c]⟩,er]⟩) b (mT q ak t) (AA q ak t) C:=by
  intro w3 L k er H hc hk
  refine H.dm 8 rfl rfl λw4 H=>H.dO 8 rfl ?_
  exact jw.no (9+k) hc H (by rw[List.getElem?_set,if_neg (by omega)];exact hk) rfl
 have no:∀ {w2:World} (c:Int),ah w0 S w2 (cB b q t s ow sd ys zs fp fq++[.aj p (bR 0 0 ⟨none,0,0⟩ ⟨none,0,0⟩) ct])->c≠0->C=c->ek Pr Gc [.int .i64 c] w2 λv w3=>dm ⟨p,0,none⟩ 0 0 ⟨none,0,0⟩ ⟨none,0,0⟩ w3 λw4=>dO ⟨p,0,none⟩ w4 λa b1 c1 d=>jw w0 S w4 (.tuple ⟨[.agg ⟨[.int .i64 a,.int .i64 b1,.slice c1.a c1.n c1.c,.slice d.a d.n d.c]⟩,v]⟩) b (mT q ak t) (AA q ak t) C:=by
  intro w2 c H hc e
  refine an (Bq c hc w2) ?_
  rintro er w3 ⟨h,m3⟩
  exact fin 0 er (H.gW m3 h) (by rw[e];exact hc) (by rw[e];rfl)
 refine gi λgo aV=>?_
 have go':(1<=q.n6/\q.n6<=3)->ak.length=64->t.keys.length≠6->go w1:=by
  intro c1 c2 c3
  rw[if_pos c1,if_pos c2,if_neg c3]at hC
  refine aV w1 (nc (H.az 0 rfl (bz b 14 4) rfl ⟨by show cv ((s.key.n:Int)+1);unfold cv;omega,?_⟩))
  show lt ((s.key.n:Int)+1) _
  rw[<- od]
  obtain⟨n,hn⟩:∃n:Int,n=(t.keys.length:Int)+1:=⟨_,rfl⟩
  have zu:cK q ak t=kY n q.n3 q.n6 ak:=by unfold cK;rw[hn]
  rw[<- hn]at hC⊢
  refine nD (vN λgo2 oN=>?_)
  have D:=H.drew
  have bad:∀(kp:Nat) (er:Value) (y:ag) (w3:World),jd n q.n3 q.n6 ak≠0->ah w0 S w3 ((cB b q t s ow sd ys zs fp fq++[.aj p (bR 0 0 ⟨none,0,0⟩ ⟨none,0,0⟩) ct])++[.aj kp (bY (cK q ak t).id (cK q ak t).ten (cK q ak t).set y) aW,aA.err er (jd n q.n3 q.n6 ak)])->go2 ⟨kp,0,none⟩ er w3:=by
   intro kp er y w3 c4 K
   have he:ig w3 er (jd n q.n3 q.n6 ak):=K.ok 10 _ rfl
   rw[if_neg c4]at hC
   refine oN _ _ _ (he.isNil ?_)
   exact ite_true (by rw[decide_eq_false c4];rfl) (fin 1 er K (by rw[hC];exact c4) (by rw[hC];rfl))
  have behind:∀(kp:Nat) (er:Value) (y:ag) (f:List Nat) (w3:World),jd n q.n3 q.n6 ak=0->er=.nilIface->ah w0 S w3 ((cB b q t s ow sd ys zs fp fq++[.aj p (bR 0 0 ⟨none,0,0⟩ ⟨none,0,0⟩) ct])++[.aj kp (bY (cK q ak t).id (cK q ak t).ten (cK q ak t).set y) aW,.box f λw=>fI w y (cK q ak t).ay])->go2 ⟨kp,0,none⟩ er w3:=by
   intro kp er y f w3 c4 rL K
   have he:ig w3 er 0:=.inl ⟨rL,rfl⟩
   refine oN _ _ _ (he.isNil ?_)
   rw[if_pos c4]at hC
   refine ite_false rfl ?_
   have K2:=K.drew
   refine nc (K2.az 0 rfl (bz b 14 4) rfl (K2.bD 9 rfl (K2.gL λp1 w5 E m5=>⟨K2.kept m5 0 rfl (bz b 14 4) 1,?_⟩)))
   have gG:zs.length=t.keys.length:=(E.box 7 rfl:aM cZ _ zs t.keys).1
   have hx:Sl w5 ⟨some ⟨p1,0,none⟩,1,1⟩ 4 (bY (cK q ak t).id (cK q ak t).ten (cK q ak t).set y):=by
    have:=(E.aj 11 rfl).sl 4 1 1 (by simp) (by omega)
    simpa[bY]using this
   have wY:(s.key.n+(ag.mk (some ⟨p1,0,none⟩) 1 1).n)*48<=140737488355328:=by simp only[];omega
   have gZ:s.key.n+(ag.mk (some ⟨p1,0,none⟩) 1 1).n<=9223372036854775807:=by simp only[];omega
   refine E.app (x:=⟨some ⟨p1,0,none⟩,1,1⟩) (s:=s.key) (vs:=aO aI.cs t.keys zs) 6 HH rfl hx (TG _ _) wY gZ λu w6 E hu=>?_
   refine nc (E.st 0 rfl (bz b 14 4) (by show 18<22;omega) rfl λw7 E=>?_)
   have ed:aO aI.cs t.keys zs++bY (cK q ak t).id (cK q ak t).ten (cK q ak t).set y=aO aI.cs (mT q ak t).keys (zs++[y]):=by
    show _=aO aI.cs (t.keys++[cK q ak t]) (zs++[y])
    rw[vG _ _ gG,sJ];rfl
   rw[ed]at E
   have E:ah w0 S w7 [.aj b (Az q (mT q ak t) ⟨s.sec,s.ten,s.ax,u,s.gr⟩ ow sd) zB,.row aE 1 s.sec (aG t.bN),.row cD 3 s.ten (dJ t.bn),.row cc 6 s.gr (cw t.aL),.row dM 5 s.ax (aO bE.cs t.ax ys),.box fp λw=>aM eY w ys t.ax,.row aW 4 u (aO aI.cs (mT q ak t).keys (zs++[y])),.box fq λw=>aM cZ w zs t.keys,.aj p (bR 0 0 ⟨none,0,0⟩ ⟨none,0,0⟩) ct,.aj kp (bY (cK q ak t).id (cK q ak t).ten (cK q ak t).set y) aW,.box f λw=>fI w y (cK q ak t).ay,.aj p1 (bY (cK q ak t).id (cK q ak t).ten (cK q ak t).set y) aW]:=E
   have hv:fI w7 y (cK q ak t).ay:=E.box 10 rfl
   have ze:(cK q ak t).ay.length<=1:=TF _ _ _ _
   refine E.bD 9 rfl (an (PU (cK q ak t) y 1 (by omega) w7 hv.ay) ?_)
   rintro _ w8 ⟨z,e2,rfl,G⟩
   have E:=E.join G
   refine⟨_,rfl,_,rfl,rfl,E.dm 8 rfl rfl λw9 E=>E.dO 8 rfl ?_⟩
   refine⟨0,n,z,⟨none,0,0⟩,e2,rfl,λ_=>?_,λh0=>?_⟩
   ·rw[hC];exact E.only 13 rfl
   ·rw[hC]at h0
    have xk:ig w9 e2 (fF (cK q ak t) 1 gj):=E.ok 13 _ rfl
    rw[h0]at xk
    refine⟨ur xk,rfl,hn,q,⟨s.sec,s.ten,s.ax,u,s.gr⟩,ow,sd,ys,zs++[y],fp,fq++f,?_⟩
    have E:=E.merge 7 10 (t:=.box (fq++f) λw=>aM cZ w (zs++[y]) (mT q ak t).keys) rfl rfl (by omega) (λh1 h2=>?_) (λb hb=>List.mem_append.1 hb)
    ·have E:=E.qF 12 rfl
     have E:=ah.rI E
     exact E.bX (L':=cB b q (mT q ak t) ⟨s.sec,s.ten,s.ax,u,s.gr⟩ ow sd ys (zs++[y]) fp (fq++f)++[.cut z (kJ (cK q ak t) 1 gj),.cut ⟨none,0,0⟩ []]) [0,1,2,3,4,5,6,7,12,14] (by decide) rfl
    ·refine⟨λb hb=>?_,λw2 h3=>?_⟩
     ·rcases List.mem_append.1 hb with h|h
      ·exact h1.1 b h
      ·exact h2.1 b h
     ·exact aM.snoc (h1.2 w2 λb hb=>h3 b (List.mem_append_left _ hb)) (h2.2 w2 λb hb=>h3 b (List.mem_append_right _ hb))
  refine nc (D.au 0 rfl (bz b 0 3) rfl (nc (D.au 0 rfl (bz b 0 6) rfl (nc (D.az 0 rfl (ai b 21) rfl ⟨?_,?_⟩)))))
  ·refine an (Ri n q.n3 q.n6 sd ak bZ _ (fZ D.mod)) ?_
   rintro _ bP ⟨y,er,rfl,hy,lf⟩
   rw[<- zu]at hy
   have eK:(kY n q.n3 q.n6 ak)=cK q ak t:=zu.symm
   rw[eK]
   by_cases c4:jd n q.n3 q.n6 ak=0
   ·obtain⟨f,D2⟩:=D.dz hy
    have OF:er=.nilIface:=ur (c4▸lf.1)
    refine⟨_,rfl,jz ⟨rfl,D2.gL λp2 bQ E oa=>⟨D2.kept oa 0 rfl (ai b 21) 1,D2.kept oa 0 rfl (bz b 0 6) 1,D2.kept oa 0 rfl (bz b 0 3) 1,E.cO 10 rfl rfl λcH E=>behind p2 er y f cH c4 OF ?_⟩⟩⟩
    exact E.bX [0,1,2,3,4,5,6,7,8,10,9] (by decide) rfl
   ·have D2:=D.gW hy.mod lf
    refine⟨_,rfl,jz ⟨rfl,D2.gL λp2 bQ E oa=>⟨D2.kept oa 0 rfl (ai b 21) 1,D2.kept oa 0 rfl (bz b 0 6) 1,D2.kept oa 0 rfl (bz b 0 3) 1,E.cO 10 rfl rfl λcH E=>bad p2 er y cH c4 ?_⟩⟩⟩
    exact E.bX [0,1,2,3,4,5,6,7,8,10,9] (by decide) rfl
  ·refine D.gL λp2 eg E gA=>⟨D.kept gA 0 rfl (ai b 21) 1,D.kept gA 0 rfl (bz b 0 6) 1,D.kept gA 0 rfl (bz b 0 3) 1,an (Ri n q.n3 q.n6 sd ak bZ _ (fZ E.mod)) ?_⟩
   rintro _ bP ⟨y,er,rfl,hy,lf⟩
   rw[<- zu]at hy
   have eK:(kY n q.n3 q.n6 ak)=cK q ak t:=zu.symm
   rw[eK]
   by_cases c4:jd n q.n3 q.n6 ak=0
   ·obtain⟨f,D2⟩:=E.dz hy
    have OF:er=.nilIface:=ur (c4▸lf.1)
    exact⟨_,rfl,jz ⟨rfl,D2.cO 9 rfl rfl λcH E=>behind p2 er y f cH c4 OF E⟩⟩
   ·have D2:=E.gW hy.mod lf
    exact⟨_,rfl,jz ⟨rfl,D2.cO 9 rfl rfl λcH E=>bad p2 er y cH c4 E⟩⟩
 refine fo λFY IS=>?_
 have rest:∀(r:Bool),(r=true->¬(1<=q.n6/\q.n6<=3))->(r=false->1<=q.n6/\q.n6<=3)->FY r w1:=by
  intro r h1 h2
  refine IS _ _ ?_
  cases r with
  |true=>exact ite_true rfl (no 2 H (by decide) (by rw[hC,if_neg (h1 rfl)]))
  |false=>
   have c1:=h2 rfl
   rw[if_pos c1]at hC
   refine ite_false rfl (nc (H.az 0 rfl (ai b 21) rfl ?_))
   by_cases c2:ak.length=64
   case neg=>
    rw[if_neg c2]at hC
    exact ite_true (by rw[decide_eq_false (by omega)];rfl) (no 3 H (by decide) hC)
   rw[if_pos c2]at hC
   refine ite_false (by rw[decide_eq_true (by omega)];rfl) (nc (H.az 0 rfl (bz b 14 4) rfl ?_))
   by_cases c3:t.keys.length=6
   ·rw[if_pos c3]at hC
    exact ite_true (decide_eq_true (by show(s.key.n:Int)=6;omega)) (no 12 H (by decide) hC)
   ·exact ite_false (decide_eq_false (by show ¬(s.key.n:Int)=6;omega)) (go' c1 c2 c3)
 refine nc (H.au 0 rfl (bz b 0 6) rfl ?_)
 show dc (decide (q.n6<1)) _ _
 by_cases c1:q.n6<1
 ·exact ite_true (decide_eq_true c1) (rest true (λ_=>by omega) (λh=>by cases h))
 ·refine ite_false (decide_eq_false c1) (nc (H.au 0 rfl (bz b 0 6) rfl ?_))
  show FY (decide (3<q.n6)) w1
  by_cases c2:3<q.n6
  ·rw[decide_eq_true c2];exact rest true (λ_=>by omega) (λh=>by cases h)
  ·rw[decide_eq_false c2];exact rest false (λh=>by cases h) (λ_=>by omega)
def bh(q:aY)(t:aH):aI:=t.keys.getD (q.n4 - 1).toNat kz
def rO(q:aY)(ak:List B8)(t:aH):Int:=
 if q.n2=4 then (if kZ (bh q t) ak.length=0 then fF (fK (bh q t) ak) ((fK (bh q t) ak).ay.length:Int) gj else kZ (bh q t) ak.length) else qg (bh q t) q.n2 q.n5 q.gS t.clock
def yL(q:aY)(ak:List B8)(t:aH):aI:=if q.n2=4 then fK (bh q t) ak else mc (bh q t) q.n2 q.n5 q.gS t.clock
def qU(q:aY)(ak:List B8)(t:aH):aH:={ t with keys:=t.keys.set (q.n4 - 1).toNat (yL q ak t) }
def rP(q:aY)(ak:List B8)(t:aH):mg:=if q.n2=4 then ⟨((fK (bh q t) ak).ay.length:Int),kJ (fK (bh q t) ak) ((fK (bh q t) ak).ay.length:Int) gj,[]⟩ else ⟨0,[],[]⟩
theorem No{A B:Prop}(h:B):ud .nilIface λz=>dc (!z) A B:=h
theorem TH(k:aI)(ak:List B8):(fK k ak).ay.length<=k.ay.length+1:=by
 unfold fK
 split
 ·simp
 ·exact Nat.zero_le _
theorem Yq{w0 w:World}{S:List Nat}{b:Nat}{q:aY}{t:aH}{s:bW}{ow:Int}{sd:ag}{ys zs:List ag}{fp fq:List Nat}(H:ah w0 S w (cB b q t s ow sd ys zs fp fq))(hs:t.small)(hk:aF 1 (t.keys.length:Int) q.n4=true)(ak:List B8)(bZ:ak.length<=1000000)(fZ:∀ {w'},Mod S w0 w'->Bytes w' sd ak):
  Ok Pr Yz [.pointer (some ⟨b,0,none⟩)] w λv w'=>jw w0 S w' v b (qU q ak t) (rP q ak t) (rO q ak t):=by
 refine aC Tryz.func60 (J:=[(13,[(6,.val)])]) ?_
 rw[pZ,kN]
 have hC:rO q ak t=if q.n2=4 then (if kZ (bh q t) ak.length=0 then fF (fK (bh q t) ak) ((fK (bh q t) ak).ay.length:Int) gj else kZ (bh q t) ak.length) else qg (bh q t) q.n2 q.n5 q.gS t.clock:=rfl
 have hK:yL q ak t=if q.n2=4 then fK (bh q t) ak else mc (bh q t) q.n2 q.n5 q.gS t.clock:=rfl
 have kK:rP q ak t=if q.n2=4 then ⟨((fK (bh q t) ak).ay.length:Int),kJ (fK (bh q t) ak) ((fK (bh q t) ak).ay.length:Int) gj,[]⟩ else ⟨0,[],[]⟩:=rfl
 obtain⟨i,ei,en,hi⟩:=mD hk
 have hT:qU q ak t={ t with keys:=t.keys.set i (yL q ak t) }:=by unfold qU;rw[en]
 have tS:bh q t=t.keys.getD i kz:=by unfold bh;rw[en]
 have br:=sM hs hi
 rw[<- tS]at br
 have nS:=hs.key
 generalize rO q ak t=C at*
 generalize yL q ak t=k' at*
 generalize rP q ak t=R at*
 generalize qU q ak t=T at*
 refine H.nw λp w1 H _=>?_
 have D:=H.drew
 obtain⟨ja,bF,x,cu,og⟩:=LU (M:=[_]) D hi
 refine nc (D.az 0 rfl (bz b 14 4) rfl (nc (D.au 0 rfl (bz b 0 4) rfl ⟨by unfold cv;omega,?_⟩)))
 show ij s.key.a (q.n4 - 1) s.key.n _
 rw[ei]
 rw[<- tS]at ja og
 refine⟨bF,D.gL λp1 w2 E m2=>mC (λj v h=>m2.qa (og j v h)) (E.nw λp2 w3 E _=>E.cO 10 rfl rfl λw4 E=>?_)⟩
 have E:ah w0 S w4 (cB b q t s ow sd ys zs fp fq++[.aj p (bR 0 0 ⟨none,0,0⟩ ⟨none,0,0⟩) ct,.aj p1 (bR 0 0 ⟨none,0,0⟩ ⟨none,0,0⟩) ct,.aj p2 (bY (bh q t).id (bh q t).ten (bh q t).set x) aW]):=E
 have cell:∀ {w':World} {M:List aA},ah w0 S w' (cB b q t s ow sd ys zs fp fq++M)->∀(j:Nat) (v:Value),((bh q t).cs x)[j]? = some v->w'.cell? (Addr.add (Addr.add (base s.key.a) (Int.toNat (i:Int)*4)) j)=some v:=λG j v hv=>by
  rw[Int.toNat_natCast]
  exact(G.cG 6 rfl).oH aI.bA ja cu hv
 have aJ:∀ {w':World} {M:List aA},ah w0 S w' (cB b q t s ow sd ys zs fp fq++M)->dD w' x (bh q t).ay:=λG=>(Mh G cu ja).ay
 refine fo λgo aV=>?_
 have bad:∀(er:Value) (w5:World) (L:List aA),C≠0->ah w0 S w5 (cB b q t s ow sd ys zs fp fq++([.aj p (bR 0 0 ⟨none,0,0⟩ ⟨none,0,0⟩) ct,aA.err er C]++L))->go er w5:=by
  intro er w5 L hc K
  have he:ig w5 er C:=K.ok 9 _ rfl
  refine aV _ _ (he.isNil (ite_true (by rw[decide_eq_false hc];rfl) (K.dm 8 rfl rfl λw6 K=>K.dO 8 rfl ?_)))
  exact jw.no 9 hc K rfl rfl
 have mN:∀(ri:Int) (y u:ag) (f:List Nat) (l:List B8) (w5:World),C=0->ah w0 S w5 (cB b q t s ow sd ys zs fp fq++[.aj p (bR 0 0 ⟨none,0,0⟩ ⟨none,0,0⟩) ct,.aj p1 (bR 0 ri y ⟨none,0,0⟩) ct,.aj p2 (bY k'.id k'.ten k'.set u) aW,.box f λw=>fI w u k'.ay,.cut y l])->R=⟨ri,l,[]⟩->go .nilIface w5:=by
  intro ri y u f l w5 hc K hr
  refine aV _ _ ?_
  refine No (K.bD 10 rfl ?_)
  have gG:zs.length=t.keys.length:=(K.box 7 rfl:aM cZ _ zs t.keys).1
  show lX (k'.cs u) _ 0 _ _
  refine K.putAt 6 rfl aI.bA gG hi k' u (aI.jE k' u) λw7 K=>K.dO 9 rfl (K.dm 8 rfl rfl λw8 K=>K.dO 8 rfl ?_)
  refine⟨0,ri,y,⟨none,0,0⟩,.nilIface,rfl,λh=>absurd hc h,λ_=>⟨rfl,rfl,by rw[hr],q,s,ow,sd,ys,zs.set i u,fp,fq++f,?_⟩⟩
  rw[hT,hr]
  have K:=K.merge 7 11 (t:=.box (fq++f) λw=>aM cZ w (zs.set i u) (t.keys.set i k')) rfl rfl (by omega) (λh1 h2=>?_) (λb hb=>List.mem_append.1 hb)
  ·have K:=ah.rI K
   exact K.bX (L':=cB b q { t with keys:=t.keys.set i k' } s ow sd ys (zs.set i u) fp (fq++f)++[.cut y l,.cut ⟨none,0,0⟩ []]) [0,1,2,3,4,5,6,7,12,13] (by decide) rfl
  ·refine⟨λb hb=>?_,λw2 h3=>?_⟩
   ·rcases List.mem_append.1 hb with h|h
    ·exact h1.1 b h
    ·exact h2.1 b h
   ·exact aM.put (h1.2 w2 λb hb=>h3 b (List.mem_append_left _ hb)) (h2.2 w2 λb hb=>h3 b (List.mem_append_right _ hb))
 refine nc (E.au 0 rfl (bz b 0 2) rfl ?_)
 show dc (decide (q.n2=4)) _ _
 have E2:=E.drew
 by_cases c4:q.n2=4
 ·rw[if_pos c4]at hC hK kK
  refine ite_true (decide_eq_true c4) (mC (cell E2) (nc (E2.az 0 rfl (ai b 21) rfl (an (aav (bh q t) x sd ak (by omega) _ (aJ E2) (fZ E2.mod)) ?_))))
  rintro _ w9 ⟨u,er,rfl,hu,lf⟩
  by_cases e1:kZ (bh q t) ak.length=0
  case neg=>
   rw[if_neg e1]at hC
   have G:=E2.gW hu.mod lf
   refine⟨_,rfl,jz ⟨rfl,G.cO 10 rfl rfl λbP G=>?_⟩⟩
   have he:ig bP er (kZ (bh q t) ak.length):=G.ok 11 _ rfl
   refine he.isNil (ite_true (by rw[decide_eq_false e1];rfl) (G.dO 9 rfl (G.dm 8 rfl rfl λbQ G=>G.dO 8 rfl ?_)))
   rw[hC]
   exact jw.no 11 e1 G rfl rfl
  rw[if_pos e1]at hC
  have rL:er=.nilIface:=ur (e1▸lf.1)
  subst rL
  obtain⟨f,G⟩:=E2.dz hu
  rw[<- hK]at hC kK G⊢
  refine⟨_,rfl,jz ⟨rfl,G.cO 10 rfl rfl λbP G=>No ?_⟩⟩
  have hvu:fI bP u k'.ay:=G.box 11 rfl
  have iR:=hvu.ay.len
  have aob:k'.ay.length<=1001:=by rw[hK];have:=TH (bh q t) ak;omega
  refine G.az 10 rfl (ai p2 3) rfl (G.st 9 rfl (ai p1 1) (by show 1<4;omega) rfl λcH G=>G.bD 10 rfl (G.au 9 rfl (ai p1 1) rfl ?_))
  refine an (PU k' u (u.n:Int) (by omega) cH (fI.ay (G.box 11 rfl))) ?_
  rw[<- iR]at*
  rintro _ eg ⟨y,e2,rfl,Y⟩
  have G:=G.join Y
  refine⟨_,rfl,_,rfl,rfl,G.st 9 rfl (ai p1 2) (by show 2<4;omega) rfl λfQ G=>?_⟩
  by_cases e3:C=0
  ·have xk:ig fQ e2 (fF k' (k'.ay.length:Int) gj):=G.ok 13 _ rfl
   rw[<- hC,e3]at xk
   have oW:=ur xk
   subst oW
   have G:=G.qF 12 rfl
   exact mN (k'.ay.length:Int) y u f (kJ k' (k'.ay.length:Int) gj) fQ e3 (G.bX [0,1,2,3,4,5,6,7,8,9,10,11,12] (by decide) rfl) kK
  ·refine bad e2 fQ [] e3 (G.bX [0,1,2,3,4,5,6,7,8,13] (by decide) ?_)
   rw[hC];rfl
 ·rw[if_neg c4]at hC hK kK
  refine ite_false (decide_eq_false c4) (mC (cell E2) (nc (E2.au 0 rfl (bz b 0 2) rfl (nc (E2.au 0 rfl (bz b 0 5) rfl (nc (E2.au 0 rfl (bz b 0 10) rfl (nc (E2.au 0 rfl (bz b 14 0) rfl (an (aeu (bh q t) x q.n2 q.n5 q.gS t.clock (by omega) _ (aJ E2)) ?_))))))))))
  rintro _ w9 ⟨u,er,rfl,hu,lf⟩
  rw[<- hC]at lf
  rw[<- hK]at hu⊢
  by_cases e1:C=0
  ·have rL:er=.nilIface:=ur (e1▸lf.1)
   subst rL
   obtain⟨f,G⟩:=E2.dz hu
   refine⟨_,rfl,jz ⟨rfl,G.cO 10 rfl rfl λbP G=>?_⟩⟩
   exact mN 0 ⟨none,0,0⟩ u f [] bP e1 (ah.rI G) kK
  ·have G:=E2.gW hu.mod lf
   refine⟨_,rfl,jz ⟨rfl,G.cO 10 rfl rfl λbP G=>?_⟩⟩
   exact bad er bP [] e1 (G.bX [0,1,2,3,4,5,6,7,8,11] (by decide) rfl)
end Go.Proofs.YtgjoehgomjgckaaGreatDoor
end
