/- Texts of this claim, packed and shortened. -/
import Derived.Deep.Slices
import Derived.Deep.Fields
import Derived.Test.YtgjoehgomjgckaaGreatDoorQ6
import Derived.Test.YtgjoehgomjgckaaGreatDoorQ2
import Derived.Test.YtgjoehgomjgckaaGreatDoorQ3
import Derived.Test.YtgjoehgomjgckaaGreatDoorQ4
section
set_option linter.unusedVariables false
set_option linter.unusedSimpArgs false
namespace Go.Proofs.YtgjoehgomjgckaaGreatDoor
open Go Go.Ev
set_option maxRecDepth 20000
set_option linter.unusedVariables false
theorem TM{t:aH}:∀n,mQ t n=true↔∀i,i<n->nN t i (t.ax.getD i dK)=true
 |0=>⟨λ_ i h=>by omega,λ_=>rfl⟩
 |n+1=>by
  show(mQ t n&&nN t n (t.ax.getD n dK))=true↔_
  rw[Bool.and_eq_true,TM n]
  refine⟨λh i hi=>?_,λh=>⟨λi hi=>h i (by omega),h n (by omega)⟩⟩
  rcases Nat.lt_or_ge i n with e|e
  ·exact h.1 i e
  ·rw[show i=n by omega];exact h.2
theorem TN{t:aH}:∀n,mS t n=true↔∀i,i<n->kW t i (t.keys.getD i kz)=true
 |0=>⟨λ_ i h=>by omega,λ_=>rfl⟩
 |n+1=>by
  show(mS t n&&kW t n (t.keys.getD n kz))=true↔_
  rw[Bool.and_eq_true,TN n]
  refine⟨λh i hi=>?_,λh=>⟨λi hi=>h i (by omega),h n (by omega)⟩⟩
  rcases Nat.lt_or_ge i n with e|e
  ·exact h.1 i e
  ·rw[show i=n by omega];exact h.2
theorem UD{ts:List bL}:∀n,oc ts n=true↔∀i,i<n->oS ts i=true
 |0=>⟨λ_ i h=>by omega,λ_=>rfl⟩
 |n+1=>by
  show(oc ts n&&oS ts n)=true↔_
  rw[Bool.and_eq_true,UD n]
  refine⟨λh i hi=>?_,λh=>⟨λi hi=>h i (by omega),h n (by omega)⟩⟩
  rcases Nat.lt_or_ge i n with e|e
  ·exact h.1 i e
  ·rw[show i=n by omega];exact h.2
structure ql(t:aH):Prop where
 clock:0<=t.clock/\t.clock<=1099511627776
 sec:t.bN.length=32
 Wm:1<=t.bn.length
 ten:gE t.bn=true
 CO:1<=t.ax.length/\t.ax.length<=6
 AD:t.keys.length<=6
 gr:fy t.aL=true
 ax:∀(i:Nat) (p:bE),t.ax[i]? = some p->p.id=(i:Int)+1/\aF 1 (t.bn.length:Int) p.ten=true/\p.key.length=jf 1/\fz p.high p.used=true
 key:∀(i:Nat) (k:aI),t.keys[i]? = some k->k.id=(i:Int)+1/\aF 1 (t.bn.length:Int) k.ten=true/\bK k=true
 bad:∀g∈t.aL,g.n1<=(t.keys.length:Int)/\g.n2<=(t.ax.length:Int)
theorem GV{t:aH}:cP t=true↔ql t:=by
 have w1:∀ {a b c:Int},aF a b c=true↔a<=c/\c<=b:=λ{a b c}=>by unfold aF;simp only[Bool.and_eq_true,decide_eq_true_eq]
 unfold cP Ay
 simp only[Bool.and_eq_true,decide_eq_true_eq,Bool.not_eq_true',w1]
 rw[TM,TN]
 have e1:(t.aL.any (oT t)=false)↔∀g∈t.aL,g.n1<=(t.keys.length:Int)/\g.n2<=(t.ax.length:Int):=by
  rw[List.any_eq_false]
  refine forall_congr' λg=>forall_congr' λ_=>?_
  unfold oT
  simp only[Bool.or_eq_true,decide_eq_true_eq]
  omega
 rw[e1]
 have e2:(∀i,i<t.ax.length->nN t i (t.ax.getD i dK)=true)↔∀(i:Nat) (p:bE),t.ax[i]? = some p->p.id=(i:Int)+1/\aF 1 (t.bn.length:Int) p.ten=true/\p.key.length=jf 1/\fz p.high p.used=true:=by
  refine⟨λh i p hp=>?_,λh i hi=>?_⟩
  ·have:=h i (List.getElem?_eq_some_iff.1 hp).1
   rw[List.getD_eq_getElem?_getD,hp]at this
   unfold nN at this
   simpa only[Bool.and_eq_true,decide_eq_true_eq,Option.getD_some]using this
  ·have:=h i _ (List.getElem?_eq_getElem hi)
   rw[List.getD_eq_getElem?_getD,List.getElem?_eq_getElem hi]
   unfold nN
   simpa only[Bool.and_eq_true,decide_eq_true_eq,Option.getD_some]using this
 have e3:(∀i,i<t.keys.length->kW t i (t.keys.getD i kz)=true)↔∀(i:Nat) (k:aI),t.keys[i]? = some k->k.id=(i:Int)+1/\aF 1 (t.bn.length:Int) k.ten=true/\bK k=true:=by
  refine⟨λh i p hp=>?_,λh i hi=>?_⟩
  ·have:=h i (List.getElem?_eq_some_iff.1 hp).1
   rw[List.getD_eq_getElem?_getD,hp]at this
   unfold kW at this
   simpa only[Bool.and_eq_true,decide_eq_true_eq,Option.getD_some]using this
  ·have:=h i _ (List.getElem?_eq_getElem hi)
   rw[List.getD_eq_getElem?_getD,List.getElem?_eq_getElem hi]
   unfold kW
   simpa only[Bool.and_eq_true,decide_eq_true_eq,Option.getD_some]using this
 rw[e2,e3]
 refine⟨λ⟨⟨⟨a1,a2⟩,a3,a4,a5,⟨a6,a7⟩,a8,a9⟩,b1,b2,b3⟩=>⟨⟨a1,a2⟩,a3,a4,a5,⟨by omega,by omega⟩,a8,a9,b1,b2,b3⟩,λh=>⟨⟨h.clock,h.sec,h.Wm,h.ten,⟨by have:=h.CO;omega,by have:=h.CO;omega⟩,h.AD,h.gr⟩,h.ax,h.key,h.bad⟩⟩
theorem Lu{A:Type}{l:List A}{a b:A}{i:Nat}(h:(l++[a])[i]? = some b):(l[i]? = some b/\i<l.length)\/(i=l.length/\b=a):=by
 rcases Nat.lt_or_ge i l.length with e|e
 ·rw[List.getElem?_append_left e]at h;exact .inl ⟨h,e⟩
 ·rw[List.getElem?_append_right e]at h
  rcases Nat.eq_zero_or_pos (i - l.length)with e2|e2
  ·rw[e2]at h;exact .inr ⟨by omega,(Option.some.inj h).symm⟩
  ·rw[List.getElem?_eq_none (by simp;omega)]at h;cases h
theorem LX{A:Type}{l:List A}{a b:A}{i j:Nat}(h:(l.set j a)[i]? = some b):(l[i]? = some b/\i≠j)\/(i=j/\b=a/\j<l.length):=by
 rw[List.getElem?_set]at h
 split at h
 ·rename_i e
  split at h
  ·rename_i e2;exact .inr ⟨e.symm,(Option.some.inj h).symm,by omega⟩
  ·cases h
 ·rename_i e;exact .inl ⟨h,λe2=>e e2.symm⟩
theorem w2{a b c:Int}:aF a b c=true↔a<=c/\c<=b:=by unfold aF;simp only[Bool.and_eq_true,decide_eq_true_eq]
theorem ahX{ts:List bL}{par:Int}{name:ByteArray}(h:k5 ts par name=0):gE (qh ts par name)=true/\qh ts par name=ts++[⟨(ts.length:Int)+1,par,name⟩]:=by
 have e:qh ts par name=ts++[⟨(ts.length:Int)+1,par,name⟩]:=by unfold qh;rw[if_pos h]
 refine⟨?_,e⟩
 rw[e]
 unfold k5 at h
 split at h
 ·rename_i h1
  split at h
  ·rename_i h2
   split at h
   ·rename_i h3
    split at h
    ·omega
    ·rename_i h4
     split at h
     ·omega
     ·rename_i h5
      unfold gE at h1⊢
      rw[Bool.and_eq_true,decide_eq_true_eq,UD]at h1⊢
      rw[w2]at h2
      refine⟨by simp;omega,λi hi=>?_⟩
      rw[List.length_append,List.length_singleton]at hi
      rcases Nat.lt_or_ge i ts.length with k|k
      ·have:=h1.2 i k
       unfold oS at this⊢
       rw[List.getD_eq_getElem?_getD,List.getElem?_append_left k,<- List.getD_eq_getElem?_getD,List.take_append_of_le_length (by omega)]
       exact this
      ·have:i=ts.length:=by omega
       subst this
       unfold oS
       rw[List.getD_eq_getElem?_getD,List.getElem?_append_right (Nat.le_refl _),Nat.sub_self,List.take_append_of_le_length (Nat.le_refl _),List.take_length]
       simp only[List.getElem?_cons_zero,Option.getD_some,decide_true,Bool.true_and,Bool.and_eq_true,decide_eq_true_eq,Bool.not_eq_true']
       exact⟨by omega,by omega,h3,by simpa using h4⟩
   ·omega
  ·omega
 ·omega
theorem ahY{high:Int}{u:aD}{n:Int}(h:iP high u n=0):fz (oR high u n) (s9 high u n)=true/\iP (oR high u n) (s9 high u n) n=8:=by
 have hH:oR high u n=if high<n then n else high:=by unfold oR;rw[if_pos h]
 have hU:s9 high u n=if high<n then (u<<<(min (n - high) 64).toNat)|||1 else u|||((1:aD)<<<(high - n).toNat):=by unfold s9;rw[if_pos h]
 rw[hH,hU]
 unfold iP at h
 split at h
 case isFalse=>omega
 rename_i hm
 split at h
 case isFalse=>omega
 rename_i hf
 unfold iL at hf
 split at hf
 case isFalse=>cases hf
 rename_i hc
 obtain⟨_,c1,c2,c3⟩:=hc
 have hr:=DW hm
 have key:fz (if high<n then n else high) (if high<n then (u<<<(min (n - high) 64).toNat)|||1 else u|||((1:aD)<<<(high - n).toNat))=true/\iL (if high<n then n else high) (if high<n then (u<<<(min (n - high) 64).toNat)|||1 else u|||((1:aD)<<<(high - n).toNat)) n=false:=by
  by_cases bB:high<n
  ·rw[if_pos bB,if_pos bB]
   have m1:fz n ((u<<<(min (n - high) 64).toNat)|||1)=true:=by
    unfold fz
    rw[if_neg (by omega),if_neg (by omega),Bool.and_eq_true,decide_eq_true_eq,decide_eq_true_eq]
    refine⟨λdX=>?_,?_⟩
    ·unfold fz at hm
     rw[if_neg (by omega)]at hm
     have hu:u>>>high.toNat=0:=by
      split at hm
      ·have:=of_decide_eq_true hm;rw[this];simp
      ·rw[Bool.and_eq_true,decide_eq_true_eq]at hm;exact hm.1 (by omega)
     have e:(min (n - high) 64).toNat=n.toNat - high.toNat:=by omega
     rw[e]
     refine BitVec.eq_of_getLsbD_eq λi hi=>?_
     have hg:=congrArg (λv:aD=>v.getLsbD i) hu
     simp only[BitVec.getLsbD_ushiftRight,BitVec.getLsbD_zero]at hg
     simp only[BitVec.getLsbD_ushiftRight,BitVec.getLsbD_or,BitVec.getLsbD_shiftLeft,BitVec.getLsbD_zero,BitVec.getLsbD_one]
     have e2:n.toNat+i - (n.toNat - high.toNat)=high.toNat+i:=by omega
     rw[e2,hg]
     have:¬(n.toNat+i=0):=by omega
     simp[this]
     omega
    ·refine BitVec.eq_of_getLsbD_eq λi hi=>?_
     simp only[BitVec.getLsbD_and,BitVec.getLsbD_or,BitVec.getLsbD_one]
     by_cases e:i=0<;>simp[e]
   refine⟨m1,?_⟩
   unfold iL
   rw[if_pos ⟨m1,c1,c2,by omega⟩,decide_eq_false (by omega),Bool.false_or,decide_eq_false]
   intro hb
   have hg:=congrArg (λv:aD=>v.getLsbD 0) hb
   unfold bt at hg
   simp at hg
  ·rw[if_neg bB,if_neg bB]
   rw[decide_eq_false bB,Bool.false_or,decide_eq_true_eq]at hf
   have m1:fz high (u|||((1:aD)<<<(high - n).toNat))=true:=by
    unfold fz at hm⊢
    rw[if_neg (by omega)]at hm⊢
    rw[if_neg (by omega)]at hm⊢
    rw[Bool.and_eq_true,decide_eq_true_eq,decide_eq_true_eq]at hm⊢
    refine⟨λdX=>?_,?_⟩
    ·refine BitVec.eq_of_getLsbD_eq λi hi=>?_
     have hg:=congrArg (λv:aD=>v.getLsbD i) (hm.1 dX)
     simp only[BitVec.getLsbD_ushiftRight,BitVec.getLsbD_zero]at hg
     simp only[BitVec.getLsbD_ushiftRight,BitVec.getLsbD_or,BitVec.getLsbD_shiftLeft,BitVec.getLsbD_zero,BitVec.getLsbD_one,hg]
     have:¬(high.toNat+i - (high - n).toNat=0):=by omega
     simp[this]
    ·refine BitVec.eq_of_getLsbD_eq λi hi=>?_
     have hg:=congrArg (λv:aD=>v.getLsbD i) hm.2
     simp only[BitVec.getLsbD_and,BitVec.getLsbD_one]at hg
     simp only[BitVec.getLsbD_and,BitVec.getLsbD_or,BitVec.getLsbD_one]
     by_cases e:i=0
     ·subst e
      simp at hg
      simp[hg]
     ·simp[e]
   refine⟨m1,?_⟩
   unfold iL
   rw[if_pos ⟨m1,c1,c2,c3⟩,decide_eq_false bB,Bool.false_or,decide_eq_false]
   intro hb
   have hg:=congrArg (λv:aD=>v.getLsbD 0) hb
   unfold bt at hg
   have dX:(high - n).toNat<64:=by omega
   simp[dX]at hg
 refine⟨key.1,?_⟩
 unfold iP
 rw[if_pos key.1,if_neg (by rw[key.2];decide)]
theorem ahZ{q:aY}{t:aH}(h:ql t)(hw:aF 1 (t.ax.length:Int) q.n0=true)(hu:iP (bI q t).high (bI q t).used q.n1=0):ql (dG q t):=by
 have hl:(dG q t).ax.length=t.ax.length:=by show(t.ax.set _ _).length=_;rw[List.length_set]
 rw[w2]at hw
 refine { h with CO:=by rw[hl];exact h.CO,ax:=λi p hp=>?_,bad:=λg hg=>by rw[hl];exact h.bad g hg }
 rcases LX (show(t.ax.set _ _)[i]? = some p from hp)with ⟨h1,_⟩|⟨e,h1,h2⟩
 ·exact h.ax i p h1
 ·have hi:t.ax[i]? = some (bI q t):=by
   unfold bI
   rw[e,List.getD_eq_getElem?_getD,List.getElem?_eq_getElem h2];rfl
  obtain⟨a1,a2,a3,a4⟩:=h.ax i _ hi
  rw[h1]
  exact⟨a1,a2,a3,(ahY hu).1⟩
theorem UE{k:aI}(h:(1<=k.id/\k.id<=6)/\(1<=k.ten/\k.ten<=8)/\(1<=k.set/\k.set<=3)/\(1<=k.ay.length/\k.ay.length<=5)/\∀i,i<k.ay.length->gy (k.ay.getD i vz) ((i:Int)+1)=true):bK k=true:=by
 obtain⟨a1,a2,a3,a4,a5⟩:=h
 unfold bK
 rw[Bool.and_eq_true,Bool.and_eq_true,Bool.and_eq_true,Bool.and_eq_true,w2,w2,w2,w2]
 exact⟨a1,a2,a3,by omega,Mk _ a5⟩
theorem ah0{k:aI}{op aJ bU clock:Int}(h:qg k op aJ bU clock=0):bK (mc k op aJ bU clock)=true/\(mc k op aJ bU clock).id=k.id/\(mc k op aJ bU clock).ten=k.ten/\(mc k op aJ bU clock).set=k.set:=by
 have e:mc k op aJ bU clock=⟨k.id,k.ten,k.set,k.ay.set (aJ - 1).toNat (yg k op aJ bU)⟩:=by unfold mc;rw[if_pos h]
 rw[e]
 refine⟨?_,rfl,rfl,rfl⟩
 unfold qg at h
 split at h
 case isFalse=>omega
 rename_i hm
 obtain⟨hm,Bb⟩:=hm
 split at h
 case h_1=>omega
 rename_i v hf
 obtain⟨_,f1,f2,f3,f4⟩:=BK hf
 split at h
 case h_1=>omega
 rename_i s hn
 split at h
 case isTrue=>omega
 rename_i hd
 obtain⟨a1,a2,a3,a4,a5⟩:=rE hm
 refine UE ⟨a1,a2,a3,by show 1<=(k.ay.set _ _).length/\(k.ay.set _ _).length<=5;rw[List.length_set];exact a4,λi hi=>?_⟩
 have hi:i<k.ay.length:=by have:i<(k.ay.set _ _).length:=hi;rwa [List.length_set]at this
 show gy ((k.ay.set (aJ - 1).toNat (yg k op aJ bU)).getD i vz) _=true
 rw[List.getD_eq_getElem?_getD,List.getElem?_set]
 by_cases e2:(aJ - 1).toNat=i
 ·rw[if_pos e2,if_pos (by omega),Option.getD_some]
  have hv:=Cd f4
  obtain⟨g1,g2,g3,g4,g5,g6,g7⟩:=hv
  unfold yg gy
  rw[<- f3,hn,Option.getD_some]
  have oZ:s=1\/s=2\/s=3:=by
   unfold iT at hn
   split at hn
   ·split at hn
    ·injection hn with hn;omega
    ·cases hn
   split at hn
   ·split at hn
    ·injection hn with hn;omega
    ·cases hn
   split at hn
   ·split at hn
    ·injection hn with hn;omega
    ·cases hn
   split at hn
   ·split at hn
    ·injection hn with hn;omega
    ·cases hn
   ·cases hn
  have h3:s=3↔op=7:=by
   unfold iT at hn
   split at hn
   ·split at hn
    ·injection hn with hn;omega
    ·cases hn
   split at hn
   ·split at hn
    ·injection hn with hn;omega
    ·cases hn
   split at hn
   ·split at hn
    ·injection hn with hn;omega
    ·cases hn
   split at hn
   ·split at hn
    ·injection hn with hn;omega
    ·cases hn
   ·cases hn
  have h4:v.st≠4:=by
   intro e4
   unfold iT at hn
   rw[e4]at hn
   split at hn
   ·cases hn
   split at hn
   ·cases hn
   split at hn
   ·cases hn
   split at hn<;>cases hn
  have dX:=g5 h4
  have aoc:aJ=(i:Int)+1:=by omega
  rw[Bool.and_eq_true]
  refine⟨by simp only[decide_eq_true_eq];omega,?_⟩
  by_cases h7:op=7
  ·rw[if_pos (h3.2 h7)]
   simp only[Bool.and_eq_true,decide_eq_true_eq]
   rw[if_pos h7]
   refine⟨?_,dX⟩
   have:¬(bU<=clock\/aF 1 1099511627776 bU=false):=λhx=>hd ⟨h7,hx⟩
   cases hb:aF 1 1099511627776 bU with
   |true=>rfl
   |false=>exact absurd (.inr hb) this
  ·have n3:¬s=3:=λhx=>h7 (h3.1 hx)
   rw[if_neg n3,if_neg (show ¬s=4 by omega),if_pos (show s=1\/s=2 by omega)]
   simp only[Bool.and_eq_true,decide_eq_true_eq]
   rw[if_neg h7]
   exact⟨rfl,dX⟩
 ·rw[if_neg e2,<- List.getD_eq_getElem?_getD]
  exact a5 i hi
theorem ai1{k:aI}(c:Int)(h:bK k=true):bK (j7 k c)=true/\j7 k c=⟨k.id,k.ten,k.set,k.ay.map (gT c)⟩:=by
 have e:j7 k c=⟨k.id,k.ten,k.set,k.ay.map (gT c)⟩:=by unfold j7;rw[if_pos h]
 rw[e]
 refine⟨?_,rfl⟩
 obtain⟨a1,a2,a3,a4,a5⟩:=rE h
 refine UE ⟨a1,a2,a3,by show 1<=(k.ay.map _).length/\(k.ay.map _).length<=5;rw[List.length_map];exact a4,λi hi=>?_⟩
 have hi:i<k.ay.length:=by have:i<(k.ay.map (gT c)).length:=hi;rwa [List.length_map]at this
 have h5:=a5 i hi
 show gy ((k.ay.map (gT c)).getD i vz) _=true
 rw[List.getD_eq_getElem?_getD,List.getElem?_map,List.getElem?_eq_getElem hi,Option.map_some,Option.getD_some]
 rw[List.getD_eq_getElem?_getD,List.getElem?_eq_getElem hi,Option.getD_some]at h5
 unfold gT
 split
 ·have:=(Cd h5).1
  unfold gy
  simp[this]
 ·exact h5
theorem SN(l:List bu):∀k,qT l k=true↔∀i,i<k->(l.getD i gz).n0=(i:Int)+1/\jl (l.getD i gz)=true
 |0=>⟨λ_ i h=>by omega,λ_=>rfl⟩
 |n+1=>by
  show(qT l n&&_)=true↔_
  rw[Bool.and_eq_true,SN l n,Bool.and_eq_true,decide_eq_true_eq]
  refine⟨λh i hi=>?_,λh=>⟨λi hi=>h i (by omega),h n (by omega)⟩⟩
  rcases Nat.lt_or_ge i n with e|e
  ·exact h.1 i e
  ·rw[show i=n by omega];exact h.2
theorem Ho{l:List bu}:fy l=true↔l.length<=8/\∀(i:Nat) (g:bu),l[i]? = some g->g.n0=(i:Int)+1/\jl g=true:=by
 unfold fy
 rw[Bool.and_eq_true,decide_eq_true_eq,SN,and_comm]
 refine and_congr_right λ_=>⟨λh i g hg=>?_,λh i hi=>?_⟩
 ·have:=h i (List.getElem?_eq_some_iff.1 hg).1
  rw[List.getD_eq_getElem?_getD,hg]at this
  exact this
 ·rw[List.getD_eq_getElem?_getD,List.getElem?_eq_getElem hi]
  exact h i _ (List.getElem?_eq_getElem hi)
theorem ah1{l:List bu}{g:bu}(h:kD l g=0):fy (iB l g)=true/\iB l g=l++[iY l g]:=by
 have e:iB l g=l++[iY l g]:=by unfold iB;rw[if_pos h]
 rw[e]
 refine⟨?_,rfl⟩
 unfold kD at h
 split at h
 case isFalse=>omega
 rename_i hm
 split at h
 case isTrue=>omega
 rename_i h8
 obtain⟨h1,h2⟩:=Ho.1 hm.1
 refine Ho.2 ⟨by simp;omega,λi x hx=>?_⟩
 rcases Lu hx with ⟨k,_⟩|⟨k,rfl⟩
 ·exact h2 i x k
 ·exact⟨by rw[k];rfl,hm.2⟩
theorem ah2{l:List bu}{id:Int}(h:jF l id=0):fy (jq l id)=true/\jq l id=l.set (id - 1).toNat (wF (l.getD (id - 1).toNat gz))/\(id - 1).toNat<l.length:=by
 have e:jq l id=l.set (id - 1).toNat (wF (l.getD (id - 1).toNat gz)):=by unfold jq;rw[if_pos h]
 rw[e]
 unfold jF at h
 split at h
 case isFalse=>omega
 rename_i hm
 split at h
 case isFalse=>omega
 rename_i sx
 obtain⟨h1,h2⟩:=Ho.1 hm
 have bB:(id - 1).toNat<l.length:=by omega
 refine⟨Ho.2 ⟨by rw[List.length_set];exact h1,λi x hx=>?_⟩,rfl,bB⟩
 rcases LX hx with ⟨k,_⟩|⟨k,rfl,_⟩
 ·exact h2 i x k
 ·have:=h2 _ _ (List.getElem?_eq_getElem bB)
  rw[List.getD_eq_getElem?_getD,List.getElem?_eq_getElem bB,k]
  exact this
theorem ql.Vn{t:aH}(h:ql t){i:Nat}{k:aI}(hi:i<t.keys.length)(hm:bK k=true)(h1:k.id=(t.keys.getD i kz).id)(h2:k.ten=(t.keys.getD i kz).ten):ql { t with keys:=t.keys.set i k }:=by
 refine { h with AD:=by show(t.keys.set i k).length<=6;rw[List.length_set];exact h.AD,key:=λj x hx=>?_,bad:=λg hg=>by show _<=((t.keys.set i k).length:Int)/\_;rw[List.length_set];exact h.bad g hg }
 rcases LX hx with ⟨e,_⟩|⟨e,rfl,_⟩
 ·exact h.key j x e
 ·obtain⟨b1,b2,_⟩:=h.key i _ (List.getElem?_eq_getElem hi)
  rw[List.getD_eq_getElem?_getD,List.getElem?_eq_getElem hi,Option.getD_some]at h1 h2
  subst e
  exact⟨h1.trans b1,by rw[h2];exact b2,hm⟩
theorem afQ{q:aY}{t:aH}(h:eH q t=true)(hm:fO q.n2=true):aF 1 (t.bn.length:Int) q.n3=true:=by
 unfold eH at h;rwa [if_pos hm]at h
theorem agP{q:aY}{t:aH}(h:eH q t=true)(hm:fO q.n2=false):aF 1 (t.keys.length:Int) (e8 q t)=true/\(q.n2=12->aF 1 (t.ax.length:Int) q.n8=true):=by
 unfold eH at h
 rw[if_neg (by rw[hm];decide),Bool.and_eq_true,Bool.and_eq_true]at h
 refine⟨h.2.1,λiC=>?_⟩
 have:=h.2.2
 rw[if_neg (by rw[iC];decide),Bool.or_eq_true,decide_eq_true_eq]at this
 rcases this with h|h
 ·exact absurd iC h
 ·exact h
theorem ai2{q:aY}{lb ak:List B8}{t:aH}(h:ql t)(jv:fO q.n2=true->aF 1 (t.bn.length:Int) q.n3=true)
  (F3:fO q.n2=false->aF 1 (t.keys.length:Int) q.n4=true/\(q.n2=12->aF 1 (t.ax.length:Int) q.n8=true)) (h0:iS q lb ak t=0):ql (hO q lb ak t):=by
 unfold iS at h0
 unfold hO
 split at h0
 ·rename_i e
  rw[if_pos e]
  obtain⟨a1,a2⟩:=ahX h0
  have hl:(wH q t).bn.length=t.bn.length+1:=by show(qh _ _ _).length=_;rw[a2];simp
  have hw:∀ {x:Int},aF 1 (t.bn.length:Int) x=true->aF 1 ((wH q t).bn.length:Int) x=true:=λ{x} hx=>by rw[w2]at*;omega
  exact { h with Wm:=by rw[hl];omega,ten:=a1,ax:=λi p hp=>(h.ax i p hp).imp_right λk=>k.imp_left hw,key:=λi p hp=>(h.key i p hp).imp_right λk=>k.imp_left hw }
 rename_i e1
 rw[if_neg e1]
 split at h0
 ·rename_i e
  rw[if_pos e]
  unfold td at h0
  split at h0
  case isFalse=>omega
  rename_i hk
  split at h0
  case isTrue=>omega
  rename_i h6
  have Xv:=h.CO
  have hl:(jG q lb t).ax.length=t.ax.length+1:=by show(t.ax++[_]).length=_;simp
  refine { h with CO:=by rw[hl];omega,ax:=λi p hp=>?_,bad:=λg hg=>by rw[hl];have:=h.bad g hg;exact⟨this.1,by omega⟩ }
  rcases Lu (show(t.ax++[k6 q lb t])[i]? = some p from hp)with ⟨k,_⟩|⟨k,rfl⟩
  ·exact h.ax i p k
  ·exact⟨by rw[k];rfl,jv (by rw[e];rfl),hk,by rfl⟩
 rename_i e2
 rw[if_neg e2]
 split at h0
 ·rename_i e
  rw[if_pos e]
  unfold yJ at h0
  split at h0
  case isFalse=>omega
  split at h0
  case isFalse=>omega
  split at h0
  case isTrue=>omega
  rename_i h6
  split at h0
  case isFalse=>rename_i hn;exact absurd h0 hn
  rename_i hn
  have hm:cK q ak t=mO ((t.keys.length:Int)+1) q.n3 q.n6 ak:=by unfold cK kY;rw[if_pos hn]
  have alh:bK (cK q ak t)=true:=by
   rw[hm]
   unfold jd at hn
   split at hn
   ·assumption
   ·omega
  have Xw:=h.AD
  have hl:(mT q ak t).keys.length=t.keys.length+1:=by show(t.keys++[_]).length=_;simp
  refine { h with AD:=by rw[hl];omega,key:=λi p hp=>?_,bad:=λg hg=>by rw[hl];have:=h.bad g hg;exact⟨by omega,this.2⟩ }
  rcases Lu (show(t.keys++[cK q ak t])[i]? = some p from hp)with ⟨k,_⟩|⟨k,rfl⟩
  ·exact h.key i p k
  ·exact⟨by rw[k,hm];rfl,by rw[hm];exact jv (by rw[e];rfl),alh⟩
 rename_i e3
 rw[if_neg e3]
 have hnm:fO q.n2=false:=by unfold fO;rw[decide_eq_false e1,decide_eq_false e2,decide_eq_false e3];rfl
 obtain⟨hk,W9⟩:=F3 hnm
 split at h0
 ·rename_i e;rw[if_pos e];exact h
 rename_i e4
 rw[if_neg e4]
 split at h0
 ·rename_i e
  rw[if_pos e]
  unfold tf at h0
  unfold qV
  split at h0
  ·rename_i pN
   rw[if_pos pN]
   obtain⟨r1,r2,r3⟩:=ah2 h0
   refine { h with gr:=r1,bad:=λg hg=>?_ }
   have hg:g∈jq t.aL q.n7:=hg
   rw[r2]at hg
   rcases List.mem_or_eq_of_mem_set hg with k|k
   ·exact h.bad g k
   ·rw[k,List.getD_eq_getElem?_getD,List.getElem?_eq_getElem r3]
    have:=h.bad _ (List.getElem_mem r3)
    exact this
  ·rename_i pN
   rw[if_neg pN]
   split at h0
   case isTrue=>omega
   obtain⟨r1,r2⟩:=ah1 h0
   refine { h with gr:=r1,bad:=λg hg=>?_ }
   have hg:g∈iB t.aL (eD q):=hg
   rw[r2]at hg
   rcases List.mem_append.1 hg with k|k
   ·exact h.bad g k
   ·rw[List.mem_singleton.1 k]
    rw[w2]at hk
    have h8:=W9 (by rcases e with e|e;exact e;exact absurd e pN)
    rw[w2]at h8
    exact⟨hk.2,h8.2⟩
 ·rename_i e
  rw[if_neg e]
  rw[w2]at hk
  have hi:(q.n4 - 1).toNat<t.keys.length:=by omega
  unfold rO at h0
  unfold qU yL
  split at h0
  ·rename_i e4
   rw[if_pos e4]
   split at h0
   case isFalse=>rename_i hn;exact absurd h0 hn
   rename_i hr
   obtain⟨m1,_⟩:=Lq hr
   have er:fK (bh q t) ak=⟨(bh q t).id,(bh q t).ten,(bh q t).set,(bh q t).ay++[⟨((bh q t).ay.length:Int)+1,1,0,ak⟩]⟩:=by unfold fK;rw[if_pos hr]
   exact h.Vn hi m1 (by rw[er];rfl) (by rw[er];rfl)
  ·rename_i e4
   rw[if_neg e4]
   obtain⟨m1,m2,m3,_⟩:=ah0 h0
   exact h.Vn hi m1 m2 m3
theorem ajP{q:aY}{lb lt ak:List B8}{t:aH}(h0:dC q lb lt ak t=0):ql (dT q lb lt ak t)/\ql t:=by
 have hC:=h0
 unfold dC at h0
 split at h0
 case isFalse=>rename_i hn;exact absurd h0 hn
 rename_i hb
 obtain⟨b1,b2,b3,b4,b5,b6⟩:=G7 hb
 have hm:=GV.1 b1
 refine⟨?_,hm⟩
 unfold dT
 rw[if_pos hC]
 refine ai2 (ahZ hm b3 b4) (λjv=>(afQ b5 jv:aF 1 (t.bn.length:Int) q.n3=true)) (λjv=>?_) h0
 obtain⟨c1,c2⟩:=agP b5 jv
 refine⟨c1,λiC=>?_⟩
 show aF 1 (((dG q t).ax.length:Nat):Int) q.n8=true
 rw[show(dG q t).ax.length=t.ax.length from List.length_set]
 exact c2 iC
theorem ajQ(l:List aI)(c:Int){i:Nat}{k:aI}(h:(jy l c l.length)[i]? = some k):i<l.length/\k=j7 (l.getD i kz) c:=by
 have hi:i<l.length:=by have:=(List.getElem?_eq_some_iff.1 h).1;rwa [p7]at this
 rw[Cf l c _ i hi,if_pos hi]at h
 exact⟨hi,(Option.some.inj h).symm⟩
theorem agQ{t:aH}{c:Int}(h0:ku t c=0):ql (oM t c)/\ql t/\t.clock<=c/\c<=1099511627776:=by
 have hC:=h0
 unfold ku at h0
 split at h0
 case isFalse=>omega
 rename_i hm
 split at h0
 case isFalse=>omega
 rename_i hc
 have h:=GV.1 hm
 refine⟨?_,h,hc⟩
 unfold oM
 rw[if_pos hC]
 unfold Bn
 have h1:=h.clock
 refine { h with clock:=⟨by show 0<=c;omega,hc.2⟩,AD:=by show(jy _ _ _).length<=6;rw[p7];exact h.AD,key:=λi k hk=>?_,bad:=λg hg=>by show _<=((jy _ _ _).length:Int)/\_;rw[p7];exact h.bad g hg }
 obtain⟨hi,rfl⟩:=ajQ _ _ hk
 have hg:t.keys[i]? = some (t.keys.getD i kz):=by rw[List.getD_eq_getElem?_getD,List.getElem?_eq_getElem hi];rfl
 obtain⟨k1,k2,k3⟩:=h.key i _ hg
 obtain⟨m1,m2⟩:=ai1 c k3
 exact⟨by rw[m2];exact k1,by rw[m2];exact k2,m1⟩
theorem agR{w0 w w':World}(m:Mod [] w0 w)(m':Mod [] w0 w'){a:Addr}{n:Nat}(ha:a.block<w0.heap.size):kept a n w w':=λj hj=>((D0 m' ha (by simp):kept a n w0 w') j hj).trans ((D0 m ha (by simp):kept a n w0 w) j hj).symm
theorem qj.kept{w0 w w':World}{s:ag}{l:List fA}(h:qj w0 s l)(m:Mod [] w0 w)(m':Mod [] w0 w'){i:Nat}(hi:i<l.length)(k n:Nat):kept (Addr.add (Addr.add (base s.a) (Int.toNat (i:Int)*16)) k) n w w':=
 agR m m' (World.block_lt_of_cell? _ _ ((h.at hi).2 14 _ rfl) |> λh=>by
  have e:∀(a:Addr) (j:Nat),(a.add j).block=a.block:=λa j=>by unfold Addr.add;split<;>rfl
  rw[e]at h⊢
  exact h)
theorem Mm{ad:Addr}{w:World}{a:fA}(h:∀(j:Nat) (v:Value),(a.cs ⟨none,0,0⟩)[j]? = some v->w.cell? (Addr.add ad j)=some v){K:Int->Int->Int->Int->Int->Int->Int->Int->Int->Int->Int->ByteArray->ag->ag->ag->Bool->Prop}
  (hK:K a.q.n0 a.q.n1 a.q.n2 a.q.n3 a.q.n4 a.q.n5 a.q.n6 a.q.n7 a.q.n8 a.q.n9 a.q.gS a.q.name a.q.cM a.q.tok a.sd a.tick):Kb ad w K:=ZE h hK
theorem ah3{w:World}{b:Nat}{a:fA}(h:bp w b (a.cs ⟨none,0,0⟩) pQ):qj w ⟨some ⟨b,0,none⟩,1,1⟩ [a]:=by
 refine⟨[⟨none,0,0⟩],?_,rfl,λ_ _ _ _ _=>trivial⟩
 have:=h.sl 16 1 1 (by rw[fA.bA];omega) (Nat.le_refl _)
 rw[List.take_of_length_le (by rw[fA.bA];omega)]at this
 rw[sJ]
 exact this
theorem It.bounds{a:fA}{w:World}{lb lt ak:List B8}(h:It a)(r:rQ w a lb lt ak):lb.length<=1000000/\ak.length<=1000000:=by
 have h1:=r.1.len
 have h2:=r.2.2.len
 obtain⟨⟨_,h3,_⟩,h4⟩:=h
 omega
theorem abP(s:bW)(t:aH)(a:fA)(lb lt ak:List B8)(hf:∀g∈t.aL,g.fit)(w:World)(hg:Laid w)(hx:dF w s t)(hr:rQ w a lb lt ak):
  Ok Pr Yt [.agg ⟨t.cs s⟩,.agg ⟨a.cs ⟨none,0,0⟩⟩] w λv w'=>v=.bool true/\Mod [] w w':=by
 refine aC Tryz.func6 (J:=[(3,[]),(2,[(14,.bool)])]) ?_
 rw[oB]
 refine(ah.start w).nw λp w1 H _=>H.nw λp1 w2 H _=>?_
 have H:ah w [] w2 [.aj p (t.cs s) aQ,.aj p1 (a.cs ⟨none,0,0⟩) pQ]:=H
 have EF:∀ {w3:World} {L:List aA},ah w [] w3 L->Ok Pr JT [] w3 λv w4=>v=.bool true/\Mod [] w w4:=λ{w3 L} K=>
  (P2 w3 (hg.nH K (by simp))).mono λv w4 h=>⟨h.1,K.mod.trans h.2⟩
 refine gi λgo aV=>fo λgB fu=>?_
 have stop:∀ {w3:World} {L:List aA},ah w [] w3 L->gB true w3:=λ{w3 L} K=>fu _ _ (ite_true rfl (an (EF K) λv w4 h=>by obtain⟨rfl,m⟩:=h;exact aN ⟨rfl,m⟩))
 refine H.bC 0 rfl (an (YC s t w2 (hx.av H.mod)) ?_)
 rintro _ w3 ⟨b,rfl,m3,hb⟩
 have H:=H.frame m3
 refine aN (Mm (λj v hj=>by rw[ai,(H.aj 1 rfl).cell];exact hj) ?_)
 cases b with
 |true=>exact ite_true rfl (stop H)
 |false=>
 refine ite_false rfl (H.nw λp4 w4 H _=>?_)
 have hA:qj w4 ⟨some ⟨p4,0,none⟩,1,1⟩ [a]:=ah3 (H.aj 2 rfl)
 refine an (P3 ⟨some ⟨p4,0,none⟩,1,1⟩ [a] 1 (by omega) w4 hA) ?_
 rintro _ w5 ⟨b,rfl,m5,gZ⟩
 have H:=H.frame m5
 refine aN ?_
 cases b with
 |true=>exact stop H
 |false=>
 refine fu _ _ (ite_false rfl (aV _ ?_))
 have hs:=(hb rfl).small hf
 obtain⟨hl,bZ⟩:=((gZ rfl).2 a (by simp)).bounds hr
 refine H.bC 0 rfl (an (Gg s t hs w5 (hx.av H.mod)) ?_)
 rintro _ w6 ⟨s1,jN,jO,lg,lq,rfl,G⟩
 have K:=H.join G
 refine ia (K.nw λp2 w7 K _=>K.cF 10 rfl rfl λw8 K=>K.bC 0 rfl (Mm (λj v hj=>by rw[ai,(K.aj 1 rfl).cell];exact hj) (an (J8 s t a lb lt ak hs hl bZ w8 (hg.nH K (by simp)) (hx.av K.mod) (hr.av K.mod)) ?_)))
 rintro _ w9 ⟨s2,gu,zs2,de,iJ,rfl,G2⟩
 have K:=K.join G2
 generalize bT a lb lt ak t=T at*
 refine⟨_,rfl,ia ⟨true,rfl,rfl,K.nw λp3 bP K _=>K.cF 18 rfl rfl λbQ K=>K.bC 0 rfl (K.bC 10 rfl (ite_true rfl (an (JD s s1 t hs bQ (hx.av K.mod) (nu (L:=[_,_,_]) (K.take 10))) ?_)))⟩⟩
 rintro _ cH ⟨rfl,gC⟩
 have K:=K.frame gC
 refine aN (ite_true rfl (an (EF K) λv w4 h=>?_))
 obtain⟨rfl,m⟩:=h
 exact aN ⟨rfl,m⟩
theorem ajR:cP fT=true:=by kernel_rfl
def VP(w:World)(l:List fA):Prop:=∀a∈l,∃lb lt ak,rQ w a lb lt ak
def Ns(w w':World)(p:Nat):Prop:=∃(t:aH) (s:bW) (ys zs:List ag) (fp fq:List Nat),ql t/\t.small/\ah w [] w' ([.aj p (t.cs s) aQ]++cJ s t ys zs fp fq)
theorem UF{A:Type}{l:List A}{i:Nat}{d:A}(h:i<l.length):l.getD i d∈l:=by
 rw[List.getD_eq_getElem?_getD,List.getElem?_eq_getElem h]
 exact List.getElem_mem h
theorem ajS{a:fA}{lb lt ak:List B8}{t:aH}(h:0<(bT a lb lt ak t).ax.length):ql (bT a lb lt ak t):=by
 unfold bT at h⊢
 split
 ·rename_i ht
  rw[if_pos ht]at h
  by_cases h0:ku t a.q.gS=0
  ·exact(agQ h0).1
  ·unfold oM at h;rw[if_neg h0]at h;exact absurd h (Nat.lt_irrefl 0)
 ·rename_i ht
  rw[if_neg ht]at h
  by_cases h0:dC a.q lb lt ak t=0
  ·exact(ajP h0).1
  ·unfold dT at h;rw[if_neg h0]at h;exact absurd h (Nat.lt_irrefl 0)
theorem aaH(x:ag)(l:List fA)(w:World)(hg:Laid w)(hx:qj w x l)(hr:VP w l):
  Ok Pr Yg [.slice x.a x.n x.c] w λv w'=>v=.bool true/\Mod [] w w':=by
 refine aC Tryz.func7 (J:=[(8,[(5,.eX),(6,.bool)]),(12,[])]) (L:=[(5,[(4,.int .i64)])]) ?_
 rw[oB]
 have EF:∀ {w3:World},Mod [] w w3->Ok Pr JT [] w3 λv w4=>v=.bool true/\Mod [] w w4:=λ{w3} m=>
  (P2 w3 (hg.nH ((ah.start w).frame m) (by simp))).mono λv w4 h=>⟨h.1,m.trans h.2⟩
 have aT:=hx.len
 refine an (P3 x l 14 (by omega) w hx) ?_
 rintro _ w1 ⟨b,rfl,m1,hb⟩
 refine aN ?_
 cases b with
 |true=>exact ite_true rfl (an (EF m1) λv w4 h=>by obtain⟨rfl,m⟩:=h;exact aN ⟨rfl,m⟩)
 |false=>
 obtain⟨hlen,uN⟩:=hb rfl
 refine ite_false rfl (an (P1 w1) ?_)
 rintro _ w3 ⟨s,ys,zs,fp,fq,rfl,G⟩
 have H:=((ah.start w).frame m1).join G
 refine ia (H.nw λp w4 H _=>H.cF 7 rfl rfl λw5 H=>?_)
 have h0:Ns w w5 p:=⟨fT,s,ys,zs,fp,fq,GV.1 ajR,TK,H.bX [7,0,1,2,3,4,5,6] (by decide) rfl⟩
 refine bG 0 l.length (λi w'=>Ns w w' p) rfl (by omega) h0 ?_ ?_
 ·rintro again i w6 _ hi ⟨t,s,ys,zs,fp,fq,hm,hs,K⟩ aB
  refine ite_true (decide_eq_true (by omega)) (vN λgo aV=>?_)
  have D:=K.drew
  obtain⟨k1,c1⟩:=(hx.av D.mod).at hi
  obtain⟨lb,lt,ak,r⟩:=hr _ (UF (d:=vt) hi)
  obtain⟨hl,bZ⟩:=(uN _ (UF (d:=vt) hi)).bounds r
  generalize l.getD i vt=a at*
  have fin:∀ {w7:World} {p1:Nat} {s2:bW} {gu zs2:List ag} {de iJ:List Nat},ah w [] w7 ([.aj p (t.cs s) aQ,.row aE 1 s.sec (aG t.bN),.row cD 3 s.ten (dJ t.bn),.row cc 6 s.gr (cw t.aL),.row dM 5 s.ax (aO bE.cs t.ax ys),.box fp λw=>aM eY w ys t.ax,.row aW 4 s.key (aO aI.cs t.keys zs),.box fq λw=>aM cZ w zs t.keys,.aj p1 ((bT a lb lt ak t).cs s2) aQ]++cJ s2 (bT a lb lt ak t) gu zs2 de iJ)->go ⟨p1,0,none⟩ true w7:=by
   intro w7 p1 s2 gu zs2 de iJ K
   have Di:=ahW (a:=a) (lb:=lb) (lt:=lt) (ak:=ak) hs hl bZ
   have hTm:=ajS (a:=a) (lb:=lb) (lt:=lt) (ak:=ak) (t:=t)
   have qn:(bT a lb lt ak t).ax.length=s2.ax.n:=(nu (L:=[_,_,_,_,_,_,_,_,_]) K).ax.len
   generalize bT a lb lt ak t=T at*
   refine aV _ _ _ (ite_false rfl (gi λgo2 oN=>?_))
   have post:∀ {w8:World},Ns w w8 p->go2 w8:=by
    rintro w8 ⟨t',s',tQ,tR,vm,vo,yZ,NP,K⟩
    refine oN _ (K.bC 0 rfl (an (Gq s' t' NP w8 (nu (L:=[_]) K)) ?_))
    rintro _ w9 ⟨rfl,m9⟩
    refine aN (ite_false (by rw[GV.2 yZ];rfl) ⟨⟨by omega,by omega⟩,aB w9 ⟨t',s',tQ,tR,vm,vo,yZ,NP,K.frame m9⟩⟩)
   refine K.az 8 rfl (ai p1 3) rfl (aZ (λh=>?_) (λh=>?_))
   ·have h:=of_decide_eq_true h
    refine K.bC 8 rfl (K.cF 0 rfl rfl λw8 K=>post ⟨T,s2,gu,zs2,de,iJ,hTm (by omega),Di,K.bX [0,9,10,11,12,13,14,15] (by decide) rfl⟩)
   ·exact post ⟨t,s,ys,zs,fp,fq,hm,hs,K.take 8⟩
  have kp:∀ {u u':World},Mod [] w u->Mod [] w u'->Ev.kept (Addr.add (base x.a) (Int.toNat (i:Int)*16)) 16 u u':=λm m'=>by
   have:=hx.kept m m' hi 0 16
   rwa [add_add]at this
  refine D.bC 0 rfl ⟨k1,Mm c1 ⟨?_,?_⟩⟩
  ·refine an (J8 s t a lb lt ak hs hl bZ _ (hg.nH D (by simp)) (nu (L:=[_]) D) (r.av D.mod)) ?_
   rintro _ bQ ⟨s2,gu,zs2,de,iJ,rfl,G⟩
   have E:=D.join G
   refine⟨_,rfl,ia ⟨true,rfl,rfl,E.nw λp1 cH F _=>⟨kp E.mod F.mod,gM (E.aj 0 rfl) (F.aj 0 rfl) 6,F.cF 15 rfl rfl λeg F=>fin (gu:=gu) (zs2:=zs2) (de:=de) (iJ:=iJ) (F.bX [0,1,2,3,4,5,6,7,15,8,9,10,11,12,13,14] (by decide) rfl)⟩⟩⟩
  ·refine D.nw λp1 cH F _=>⟨kp D.mod F.mod,gM (D.aj 0 rfl) (F.aj 0 rfl) 6,an (J8 s t a lb lt ak hs hl bZ _ (hg.nH F (by simp)) (nu (L:=[_]) (F.take 8)) (r.av F.mod)) ?_⟩
   rintro _ ir ⟨s2,gu,zs2,de,iJ,rfl,G⟩
   have E:=F.join G
   exact⟨_,rfl,ia ⟨true,rfl,rfl,E.cF 8 rfl rfl λgH E=>fin (gu:=gu) (zs2:=zs2) (de:=de) (iJ:=iJ) E⟩⟩
 ·rintro again w6 ⟨t,s,ys,zs,fp,fq,hm,hs,K⟩
  refine ite_false (decide_eq_false (by omega)) (an (EF K.mod) λv w4 h=>?_)
  obtain⟨rfl,m⟩:=h
  exact aN ⟨rfl,m⟩
end Go.Proofs.YtgjoehgomjgckaaGreatDoor
end
section
set_option linter.unusedVariables false
set_option linter.unusedSimpArgs false
namespace Go.Ev
open Go Go.RowKit Go.ChangeShapes Go.WideShapes Go.ChangeAt Go.Deep
variable{H:Type}{enc:TypeId × Value->H}{P:Program}{w:World}{held:Bool}
inductive Lk where
 |int (k:IntKind)|str|bool|bytes
def EY(w:World):Lk->Value->Prop
 |.int k,v=>∃z,v=.int k z/\k.min<=z/\z<=k.max
 |.str,v=>∃s:ByteArray,v=.string s/\s.size<=9223372036854775807
 |.bool,v=>∃b,v=.bool b
 |.bytes,v=>∃(s:ag) (l:List B8),v=.slice s.a s.n s.c/\Bytes w s l/\s.n<=9223372036854775807
def wv(P:Program)(t:TypeId):Lk->Bool
 |.int k=>match P.underlying t with|some (.int k')=>decide (k'=k)|_=>false
 |.str=>match P.underlying t with|some .string=>true|_=>false
 |.bool=>match P.underlying t with|some .bool=>true|_=>false
 |.bytes=>match P.underlying t with|some (.slice e)=>(match P.underlying e with|some (.int .u8)=>decide (P.cellsOf e=1)|_=>false)|_=>false
theorem SO{t:TypeId}{k:Lk}{c:Value}{n:Nat}{x:DataW H × List MemPlace}(hk:wv P t k=true)(h:DataW.trod enc P w 0 (λ_=>true) held n t [c]=some x):EY w k c:=by
 cases k with
 |int k=>
  simp only[wv]at hk
  split at hk
  ·rename_i k' hu
   have:k'=k:=of_decide_eq_true hk
   subst this
   obtain⟨z,hz,_,hw⟩:=DataW.trod_int hu h
   have hz:c=.int k' z:=by simpa using hz
   have:=UX hw
   exact⟨z,hz,this.1,this.2⟩
  ·cases hk
 |str=>
  simp only[wv]at hk
  split at hk
  ·rename_i hu
   obtain⟨s,hs,_,hm⟩:=DataW.trod_string hu h
   have hs:c=.string s:=by simpa using hs
   exact⟨s,hs,by simp only[maxLen]at hm;omega⟩
  ·cases hk
 |bool=>
  simp only[wv]at hk
  split at hk
  ·rename_i hu
   obtain⟨b,hb,_⟩:=DataW.trod_bool hu h
   exact⟨b,by simpa using hb⟩
  ·cases hk
 |bytes=>
  simp only[wv]at hk
  split at hk
  ·rename_i e hu
   split at hk
   ·rename_i he
    have hc:P.cellsOf e=1:=of_decide_eq_true hk
    rcases open_ints hu he hc h with ⟨fY,-⟩|⟨a,len,cap,zs,fY,-,hl,hm,hz,-,iz,hw⟩
    ·exact⟨⟨none,0,0⟩,[],by simpa using fY,Bytes.nil w,by show 0<=_;omega⟩
    ·simp only[if_true]at hz
     have hI:VV w ⟨some a,len,cap⟩ .u8 (zs.take len):=by
      refine⟨⟨?_,hl,λ_=>rfl,λi x hx=>?_⟩,λx hx=>UX (hw x (List.mem_of_mem_take hx))⟩
      ·simp only[List.length_map,List.length_take,Nat.mul_one];omega
      ·rw[List.getElem?_map,List.getElem?_take]at hx
       split at hx
       ·rename_i hi
        have:=iz i (by omega)
        rw[List.getD_eq_getElem?_getD]at this
        cases XK:zs[i]? with
        |none=>rw[XK]at hx;cases hx
        |some z=>
         rw[XK]at hx this
         simp only[Option.map_some,Option.some.injEq]at hx
         subst hx
         exact this
       ·cases hx
     exact⟨⟨some a,len,cap⟩,_,by simpa using fY,abu hI,by simp only[maxLen]at hm;show len<=_;omega⟩
   ·cases hk
  ·cases hk
def l7(w:World):List Lk->List Value->Prop
 |[],[]=>True
 |k::ks,c::cs=>EY w k c/\l7 w ks cs
 |_,_=>False
theorem l7.cons{w:World}{k:Lk}{ks:List Lk}{cs:List Value}(h:l7 w (k::ks) cs):∃c r,cs=c::r/\EY w k c/\l7 w ks r:=by
 cases cs with
 |nil=>exact h.elim
 |cons c r=>exact⟨c,r,rfl,h.1,h.2⟩
theorem l7.nil{w:World}{cs:List Value}(h:l7 w [] cs):cs=[]:=by
 cases cs with
 |nil=>rfl
 |cons c r=>exact h.elim
def tj(P:Program)(t:TypeId):Array Field:=match P.underlying t with|some (.struct fs)=>fs|_=>#[]
def DY(P:Program)(t:TypeId):Bool:=match P.underlying t with|some (.struct _)=>true|_=>false
def Mn(P:Program)(fs:List Field):List Lk->Bool:=go fs
where
 go:List Field->List Lk->Bool
  |[],[]=>true
  |f::fs,k::ks=>wv P f.type k&&go fs ks
  |_,_=>false
def Eb(P:Program)(t:TypeId)(ks:List Lk):Bool:=DY P t&&(oneCellFields P (tj P t)&&(decide (P.cellsOf t=ks.length)&&(decide ((tj P t).size=ks.length)&&Mn P (tj P t).toList ks)))
theorem Mo{t:TypeId}(h:DY P t=true):P.underlying t=some (.struct (tj P t)):=by
 unfold DY at h
 unfold tj
 split at h
 ·rename_i fs hu;rw[hu]
 ·cases h
theorem TO:∀(fs:List Field) (ks:List Lk) (cs:List Value),Mn P fs ks=true->cs.length=ks.length->(∀(i:Nat) (f:Field) (c:Value),fs[i]? = some f->cs[i]? = some c->∃n x,DataW.trod enc P w 0 (λ_=>true) held n f.type [c]=some x)->l7 w ks cs
 |[],[],[],_,_,_=>trivial
 |[],[],_::_,_,h,_=>by simp at h
 |[],_::_,_,h,_,_=>by cases h
 |_::_,[],_,h,_,_=>by cases h
 |_::_,_::_,[],_,h,_=>by simp at h
 |f::fs,k::ks,c::cs,h,hl,hc=>by
  have h:(wv P f.type k&&Mn P fs ks)=true:=h
  simp only[Bool.and_eq_true]at h
  obtain⟨n,x,hx⟩:=hc 0 f c rfl rfl
  exact⟨SO h.1 hx,TO fs ks cs h.2 (by simpa using hl) λi f' c' hf wP=>hc (i+1) f' c' (by simpa using hf) (by simpa using wP)⟩
theorem afR{t:TypeId}{ks:List Lk}{cs:List Value}{n:Nat}{x:DataW H × List MemPlace}(hs:Eb P t ks=true)(h:DataW.trod enc P w 0 (λ_=>true) held n t cs=some x):l7 w ks cs/\cs.length=ks.length:=by
 unfold Eb at hs
 simp only[Bool.and_eq_true,decide_eq_true_eq]at hs
 obtain⟨h1,h2,h3,h4,h5⟩:=hs
 obtain⟨xs,m,_,_,hl,aT,hf⟩:=DataW.trod_struct (Mo h1) h
 refine⟨TO (enc:=enc) (held:=held) _ ks cs h5 (by omega) λi f c hfi o8=>?_,by omega⟩
 have Nt:(tj P t)[i]? = some f:=by simpa using hfi
 have hi:i<(tj P t).size:=(Array.getElem?_eq_some_iff.1 Nt).1
 obtain⟨ho,Bc⟩:=hone_of h2 i f Nt
 have:=hf i f Nt
 rw[ho,Bc,take1_drop cs i undef (by omega),List.getElem?_eq_getElem (by omega)]at this
 have wT:cs.getD i undef=c:=by simp[List.getD_eq_getElem?_getD,o8]
 rw[wT]at this
 exact⟨m,_,this⟩
variable{P:Program}
def Reads(P:Program)(t:TypeId)(n:Nat)(Q:World->List Value->Prop):Prop:=
 ∀ {H:Type} {enc:TypeId × Value->H} {w:World} {held:Bool} {fuel:Nat} {cs:List Value} {x:DataW H × List MemPlace},DataW.trod enc P w 0 (λ_=>true) held fuel t cs=some x->Q w cs/\cs.length=n
theorem DC{t:TypeId}{ks:List Lk}(hs:Eb P t ks=true):Reads P t ks.length (λw cs=>l7 w ks cs):=λh=>afR hs h
theorem ah4{H:Type}{enc:TypeId × Value->H}{w:World}{held:Bool}{t:TypeId}{k:Lk}{n:Nat}{cs:List Value}{x:DataW H × List MemPlace}(hk:wv P t k=true)(h1:cs.length=1)(h:DataW.trod enc P w 0 (λ_=>true) held n t cs=some x):∃c,cs=[c]/\EY w k c:=by
 match cs,h1 with
 |[c],_=>exact⟨c,rfl,SO hk h⟩
def yw(k:Lk):World->List Value->Prop:=λw cs=>∃c,cs=[c]/\EY w k c
def wh:List (TypeId × Nat × (World->List Value->Prop))->World->List Value->Prop
 |[],_,cs=>cs=[]
 |(_,n,Q)::r,w,cs=>∃a b,cs=a++b/\Q w a/\a.length=n/\wh r w b
def HO(P:Program):List Field->Nat->List (TypeId × Nat)->Bool
 |[],_,[]=>true
 |f::fs,o,(t,n)::l=>decide (f.type=t)&&(decide (f.offset=o)&&(decide (P.cellsOf t=n)&&HO P fs (o+n) l))
 |_,_,_=>false
def Vo(P:Program)(t:TypeId)(l:List (TypeId × Nat)):Bool:=DY P t&&(decide (P.cellsOf t=(l.map (·.2)).sum)&&HO P (tj P t).toList 0 l)
def Part(P:Program)(x:TypeId × Nat × (World->List Value->Prop)):Prop:=
 ∀ {H:Type} {enc:TypeId × Value->H} {w:World} {held:Bool} {fuel:Nat} {cs:List Value} {y:DataW H × List MemPlace},cs.length=x.2.1->DataW.trod enc P w 0 (λ_=>true) held fuel x.1 cs=some y->x.2.2 w cs
theorem Part.leaf{t:TypeId}{k:Lk}(hk:wv P t k=true):Part P (t,1,yw k):=λhl h=>ah4 hk hl h
theorem Part.of{t:TypeId}{n:Nat}{Q:World->List Value->Prop}(h:Reads P t n Q):Part P (t,n,Q):=λ_ k=>(h k).1
theorem TP{H:Type}{enc:TypeId × Value->H}{w:World}{held:Bool}{m:Nat}{cs:List Value}:∀(l:List (TypeId × Nat × (World->List Value->Prop))) (fs:List Field) (o:Nat),HO P fs o (l.map λx=>(x.1,x.2.1))=true->(∀x∈l,Part P x)->
  cs.length=o+(l.map (·.2.1)).sum->(∀f∈fs,∃y,DataW.trod enc P w 0 (λ_=>true) held m f.type ((cs.drop f.offset).take (P.cellsOf f.type))=some y)->wh l w (cs.drop o)
 |[],[],o,_,_,hl,_=>by
  show cs.drop o=[]
  exact List.drop_eq_nil_of_le (by rw[hl];simp)
 |[],_::_,_,h,_,_,_=>by cases h
 |_::_,[],_,h,_,_,_=>by cases h
 |(t,n,Q)::l,f::fs,o,h,hp,hl,hf=>by
  have h:(decide (f.type=t)&&(decide (f.offset=o)&&(decide (P.cellsOf t=n)&&HO P fs (o+n) (l.map λx=>(x.1,x.2.1)))))=true:=h
  simp only[Bool.and_eq_true,decide_eq_true_eq]at h
  obtain⟨h1,h2,h3,h4⟩:=h
  have hl:cs.length=o+(n+(l.map (·.2.1)).sum):=hl
  obtain⟨y,hy⟩:=hf f (List.mem_cons_self ..)
  rw[h1,h2,h3]at hy
  have nX:((cs.drop o).take n).length=n:=by rw[List.length_take,List.length_drop];omega
  refine⟨(cs.drop o).take n,cs.drop (o+n),?_,hp (t,n,Q) (List.mem_cons_self ..) nX hy,nX,TP l fs (o+n) h4 (λx hx=>hp x (List.mem_cons_of_mem _ hx)) (by omega) λg hg=>hf g (List.mem_cons_of_mem _ hg)⟩
  rw[<- List.drop_drop,List.take_append_drop]
theorem KE{t:TypeId}(l:List (TypeId × Nat × (World->List Value->Prop)))(hb:Vo P t (l.map λx=>(x.1,x.2.1))=true)(hp:∀x∈l,Part P x):Reads P t (l.map (·.2.1)).sum (wh l):=by
 intro H enc w held fuel cs x h
 unfold Vo at hb
 simp only[Bool.and_eq_true,decide_eq_true_eq,List.map_map]at hb
 obtain⟨h1,h2,h3⟩:=hb
 obtain⟨xs,m,_,_,hl,aT,hf⟩:=DataW.trod_struct (Mo h1) h
 have hl:cs.length=(l.map (·.2.1)).sum:=hl.trans h2
 refine⟨?_,hl⟩
 have:=TP (enc:=enc) (held:=held) (m:=m) (cs:=cs) (w:=w) l (tj P t).toList 0 h3 hp (by omega) λf E1=>?_
 ·simpa using this
 ·obtain⟨i,hi,rfl⟩:=List.getElem_of_mem E1
  have AI:i<(tj P t).size:=by simpa using hi
  have:=hf i ((tj P t).toList[i]) (by rw[Array.getElem_toList];exact Array.getElem?_eq_getElem AI)
  rw[List.getElem?_eq_getElem (by omega)]at this
  exact⟨_,this⟩
def yx(n:Nat)(Q:World->List Value->Prop):World->List Value->Prop:=λw cs=>
 ∃(s:ag) (rows:List (List Value)),cs=[s.v]/\Sl w s n rows.flatten/\rows.length=s.n/\(∀row∈rows,Q w row/\row.length=n)/\s.n<=9223372036854775807
theorem TQ{n:Nat}:∀(rows:List (List Value)),(∀row∈rows,row.length=n)->rows.flatten.length=rows.length*n
 |[],_=>by simp
 |r::rs,h=>by
  rw[List.flatten_cons,List.length_append,TQ rs λrow hr=>h row (List.mem_cons_of_mem _ hr),h r (List.mem_cons_self ..),List.length_cons,Nat.succ_mul]
  omega
theorem UG{n:Nat}:∀(rows:List (List Value)),(∀row∈rows,row.length=n)->∀(j:Nat) (v:Value),rows.flatten[j]? = some v->∃i row,rows[i]? = some row/\i*n<=j/\row[j - i*n]? = some v
 |[],_,j,v,h=>by simp at h
 |r::rs,hr,j,v,h=>by
  have hl:=hr r (List.mem_cons_self ..)
  rw[List.flatten_cons]at h
  rcases Nat.lt_or_ge j r.length with k|k
  ·rw[List.getElem?_append_left k]at h
   exact⟨0,r,rfl,by omega,by simpa using h⟩
  ·rw[List.getElem?_append_right k]at h
   obtain⟨i,row,h1,h2,h3⟩:=UG rs (λrow hx=>hr row (List.mem_cons_of_mem _ hx)) _ v h
   refine⟨i+1,row,by simpa using h1,by rw[Nat.succ_mul];omega,?_⟩
   rw[show j - (i+1)*n=j - r.length - i*n by rw[Nat.succ_mul];omega]
   exact h3
theorem BL{t e:TypeId}{n:Nat}{Q:World->List Value->Prop}(ht:P.underlying t=some (.slice e))(hn:P.cellsOf e=n)(hr:Reads P e n Q):Reads P t 1 (yx n Q):=by
 intro H enc w held fuel cs x h
 rcases open_slice ht h with ⟨fY,-⟩|⟨a,len,cap,m,k,D,Pl,fY,-,hl,hm,Dd,-,hx⟩
 ·subst fY
  exact⟨⟨⟨none,0,0⟩,[],rfl,Sl.nil w _,rfl,(λ_ h=>by cases h),by show 0<=_;omega⟩,rfl⟩
 ·simp only[if_true]at Dd
  subst Dd
  have hex:∀i:Nat,∃fL,i<m->(w.cells? 0 (a.add (i*P.cellsOf e)) (P.cellsOf e)=some fL/\DataW.trod enc P w 0 (λ_=>true) held k e fL=some (D i,Pl i)):=λi=>by
   by_cases hi:i<m
   ·obtain⟨fL,h1⟩:=hx i hi;exact⟨fL,λ_=>h1⟩
   ·exact⟨[],λh=>absurd h hi⟩
  obtain⟨C,hC⟩:=Classical.axiomOfChoice hex
  have fV:∀i,i<m->Q w (C i)/\(C i).length=n:=λi hi=>hr (hC i hi).2
  have jU:∀row∈(List.range len).map C,Q w row/\row.length=n:=λrow hx=>by
   obtain⟨i,hi,rfl⟩:=List.mem_map.1 hx
   exact fV i (by have:=List.mem_range.1 hi;omega)
  subst fY
  refine⟨⟨⟨some a,len,m⟩,(List.range len).map C,rfl,⟨?_,hl,λ_=>rfl,λj v hj=>?_⟩,by simp,jU,by simp only[maxLen]at hm;show len<=_;omega⟩,rfl⟩
  ·rw[TQ _ λrow hx=>(jU row hx).2,List.length_map,List.length_range]
  ·obtain⟨i,row,h1,h2,h3⟩:=UG _ (λrow hx=>(jU row hx).2) j v hj
   rw[List.getElem?_map]at h1
   have hi:i<len:=by
    rcases Nat.lt_or_ge i len with e|e
    ·exact e
    ·rw[List.getElem?_eq_none (by simp;exact e)]at h1;cases h1
   rw[List.getElem?_range hi]at h1
   obtain rfl:C i=row:=Option.some.inj h1
   obtain⟨_,_,iz⟩:=World.cells?_some (hC i (by omega)).1
   have hjl:=(List.getElem?_eq_some_iff.1 h3).1
   have h4:=iz (j - i*n) (by have:=(fV i (by omega)).2;omega)
   rw[h3,add_add,hn,show i*n+(j - i*n)=j by omega]at h4
   exact h4
theorem Ed{A:Type}{C:A->ag->List Value}{E:World->ag->A->Prop}{w:World}:∀(rows:List (List Value)),(∀row∈rows,∃a x,row=C a x/\E w x a)->∃ls xs,rows.flatten=aO C ls xs/\aM E w xs ls
 |[],_=>⟨[],[],rfl,rfl,λi x l h=>by simp at h⟩
 |r::rs,h=>by
  obtain⟨ls,xs,h1,h2⟩:=Ed rs λrow hr=>h row (List.mem_cons_of_mem _ hr)
  obtain⟨a,x,h3,h4⟩:=h r (List.mem_cons_self ..)
  refine⟨a::ls,x::xs,?_,?_⟩
  ·rw[List.flatten_cons,h1,h3,rA]
  ·refine⟨by simp[h2.1],λi y l hy hl=>?_⟩
   cases i with
   |zero=>simp at hy hl;subst hy hl;exact h4
   |succ i=>exact h2.2 i y l (by simpa using hy) (by simpa using hl)
theorem TR{A:Type}{C:A->ag->List Value}{E:World->ag->A->Prop}{p:A->Prop}{w:World}:∀(rows:List (List Value)),(∀row∈rows,∃a x,row=C a x/\E w x a/\p a)->∃ls xs,rows.flatten=aO C ls xs/\aM E w xs ls/\∀a∈ls,p a
 |[],_=>⟨[],[],rfl,⟨rfl,λi x l h=>by simp at h⟩,λa h=>by cases h⟩
 |r::rs,h=>by
  obtain⟨ls,xs,h1,h2,h5⟩:=TR rs λrow hr=>h row (List.mem_cons_of_mem _ hr)
  obtain⟨a,x,h3,h4,h6⟩:=h r (List.mem_cons_self ..)
  refine⟨a::ls,x::xs,?_,?_,λb hb=>?_⟩
  ·rw[List.flatten_cons,h1,h3,rA]
  ·refine⟨by simp[h2.1],λi y l hy hl=>?_⟩
   cases i with
   |zero=>simp at hy hl;subst hy hl;exact h4
   |succ i=>exact h2.2 i y l (by simpa using hy) (by simpa using hl)
  ·rcases List.mem_cons.1 hb with rfl|hb
   ·exact h6
   ·exact h5 b hb
theorem SP{t:TypeId}{n:Nat}{Q:World->List Value->Prop}(hr:Reads P t n Q)(oZ:DY P t=true){H:Type}{enc:TypeId × Value->H}{w:World}{held:Bool}{v:Value}{d:DataW H}{ps:List MemPlace}{r:Reach}{base:Nat}(hv:Value.okWide P w r base t v)(h:DataW.Trod enc P w 0 (λ_=>true) held t v d ps):∃cs,v=.agg ⟨cs⟩/\Q w cs:=by
 obtain⟨cs,rfl,gQ⟩:=okWide_struct (Mo oZ) hv
 obtain⟨fuel,h⟩:=h
 exact⟨cs.toList,rfl,(hr (by simpa[Value.cells]using h)).1⟩
theorem ah5{t e:TypeId}{n:Nat}{Q:World->List Value->Prop}(ht:P.underlying t=some (.slice e))(hr:Reads P t 1 (yx n Q)){H:Type}{enc:TypeId × Value->H}{w:World}{held:Bool}{v:Value}{d:DataW H}{ps:List MemPlace}{r:Reach}{base:Nat}(hv:Value.okWide P w r base t v)(h:DataW.Trod enc P w 0 (λ_=>true) held t v d ps):
  ∃(s:ag) (rows:List (List Value)),v=.slice s.a s.n s.c/\Sl w s n rows.flatten/\rows.length=s.n/\(∀row∈rows,Q w row/\row.length=n)/\s.n<=9223372036854775807:=by
 obtain⟨va,vn,vc,rfl⟩:=Go.WideShapes.okWide_slice ht hv
 obtain⟨fuel,h⟩:=h
 obtain⟨⟨s,rows,h1,h2⟩,_⟩:=hr (by simpa[Value.cells]using h)
 exact⟨s,rows,by simpa[ag.v]using h1,h2⟩
end Go.Ev
end
section
set_option linter.unusedVariables false
set_option linter.unusedSimpArgs false
namespace Go.Proofs.YtgjoehgomjgckaaGreatDoor
open Go Go.Ev Go.RowKit
set_option maxRecDepth 20000
def Lv:List Lk:=[.int .i64,.int .i64,.int .i64,.int .i64,.int .i64,.int .i64,.int .i64,.int .i64,.int .i64,.int .i64,.int .i64,.str,.bytes,.bytes]
theorem agS:Eb Pr iu Lv=true:=by kernel_rfl
def Ee:List Lk:=[.int .i64,.int .i64,.int .i64,.int .i64,.int .i64,.bool]
theorem aey:Eb Pr cc Ee=true:=by kernel_rfl
theorem agT{w:World}{cs:List Value}(h:l7 w Ee cs):∃g:bu,cs=g.cells/\g.fit:=by
 have e1:IntKind.min .i64 = -9223372036854775808:=by decide
 obtain⟨c0,r0,rfl,⟨z0,rfl,b0⟩,h0⟩:=h.cons
 obtain⟨c1,r1,rfl,⟨z1,rfl,b1⟩,h1⟩:=h0.cons
 obtain⟨c2,r2,rfl,⟨z2,rfl,b2⟩,h2⟩:=h1.cons
 obtain⟨c3,r3,rfl,⟨z3,rfl,b3⟩,h3⟩:=h2.cons
 obtain⟨c4,r4,rfl,⟨z4,rfl,b4⟩,h4⟩:=h3.cons
 obtain⟨c5,r5,rfl,⟨z5,rfl⟩,h5⟩:=h4.cons
 obtain rfl:=h5.nil
 rw[e1]at b3
 exact⟨⟨z0,z1,z2,z3,z4,z5⟩,rfl,b3.1⟩
theorem Rl{w:World}:∀(rows:List (List Value)),(∀row∈rows,l7 w Ee row/\row.length=Ee.length)->∃l:List bu,rows.flatten=cw l/\l.length=rows.length/\∀g∈l,g.fit
 |[],_=>⟨[],rfl,rfl,λg h=>by cases h⟩
 |r::rs,h=>by
  obtain⟨l,h1,h2,h3⟩:=Rl rs λrow hr=>h row (List.mem_cons_of_mem _ hr)
  obtain⟨g,hg,hf⟩:=agT (h r (List.mem_cons_self ..)).1
  refine⟨g::l,?_,by simp[h2],λx hx=>?_⟩
  ·show r++rs.flatten=g.cells++cw l
   rw[h1,hg]
  ·rcases List.mem_cons.1 hx with rfl|hx
   ·exact hf
   ·exact h3 x hx
end Go.Proofs.YtgjoehgomjgckaaGreatDoor
end
section
set_option linter.unusedVariables false
set_option linter.unusedSimpArgs false
namespace Go.Proofs.YtgjoehgomjgckaaGreatDoor
open Go Go.Ev Go.RowKit
set_option maxRecDepth 20000
set_option linter.unusedVariables false
theorem ajT{w:World}{cs:List Value}(jU:l7 w Lv cs):∃(q:aY) (lb lt:List B8),cs=q.cells/\Bytes w q.cM lb/\Bytes w q.tok lt:=by
 obtain⟨c0,r0,rfl,⟨z0,rfl,b0⟩,h0⟩:=jU.cons
 obtain⟨c1,r1,rfl,⟨z1,rfl,b1⟩,h1⟩:=h0.cons
 obtain⟨c2,r2,rfl,⟨z2,rfl,b2⟩,h2⟩:=h1.cons
 obtain⟨c3,r3,rfl,⟨z3,rfl,b3⟩,h3⟩:=h2.cons
 obtain⟨c4,r4,rfl,⟨z4,rfl,b4⟩,h4⟩:=h3.cons
 obtain⟨c5,r5,rfl,⟨z5,rfl,b5⟩,h5⟩:=h4.cons
 obtain⟨c6,r6,rfl,⟨z6,rfl,b6⟩,h6⟩:=h5.cons
 obtain⟨c7,r7,rfl,⟨z7,rfl,b7⟩,h7⟩:=h6.cons
 obtain⟨c8,r8,rfl,⟨z8,rfl,b8⟩,h8⟩:=h7.cons
 obtain⟨c9,r9,rfl,⟨z9,rfl,b9⟩,h9⟩:=h8.cons
 obtain⟨jY,r10,rfl,⟨z10,rfl,b10⟩,jr⟩:=h9.cons
 obtain⟨jZ,r11,rfl,⟨s,rfl,_⟩,yP⟩:=jr.cons
 obtain⟨gX,r12,rfl,⟨u,l,rfl,hl,_⟩,iC⟩:=yP.cons
 obtain⟨gY,r13,rfl,⟨v,m,rfl,hm,_⟩,fR⟩:=iC.cons
 obtain rfl:=fR.nil
 exact⟨⟨z0,z1,z2,z3,z4,z5,z6,z7,z8,z9,z10,s,u,v⟩,l,m,rfl,hl,hm⟩
def Hp:List (TypeId × Nat × (World->List Value->Prop)):=[(iu,14,λw cs=>l7 w Lv cs),(jh,1,yw .bytes),(p8,1,yw .bool)]
theorem SQ:Reads Pr pQ 16 (wh Hp):=KE Hp (by kernel_rfl) λx hx=>by
 simp only[Hp,List.mem_cons,List.not_mem_nil,or_false]at hx
 rcases hx with rfl|rfl|rfl
 ·exact Part.of (DC agS)
 ·exact Part.leaf (by kernel_rfl)
 ·exact Part.leaf (by kernel_rfl)
theorem Vp{w:World}{cs:List Value}(h:wh Hp w cs):∃(a:fA) (lb lt ak:List B8),cs=a.cs ⟨none,0,0⟩/\rQ w a lb lt ak:=by
 obtain⟨u,r,rfl,hu,_,v,r2,rfl,⟨c1,rfl,s,sl,rfl,hs,_⟩,_,x,r3,rfl,⟨c2,rfl,b,rfl⟩,_,rfl⟩:=h
 obtain⟨q,lb,lt,rfl,h1,h2⟩:=ajT hu
 exact⟨⟨q,s,b⟩,lb,lt,sl,rfl,h1,h2,hs⟩
theorem ah6{H:Type}{enc:TypeId × Value->H}{w:World}{held:Bool}{v:Value}{d:DataW H}{ps:List MemPlace}{r:Reach}{base:Nat}(hv:Value.okWide Pr w r base pQ v)(h:DataW.Trod enc Pr w 0 (λ_=>true) held pQ v d ps):
  ∃(a:fA) (lb lt ak:List B8),v=.agg ⟨a.cs ⟨none,0,0⟩⟩/\rQ w a lb lt ak:=by
 obtain⟨cs,rfl,hq⟩:=SP SQ (by kernel_rfl) hv h
 obtain⟨a,lb,lt,ak,rfl,ha⟩:=Vp hq
 exact⟨a,lb,lt,ak,rfl,ha⟩
theorem TS:Pr.underlying JC=some (.slice pQ):=by kernel_rfl
theorem agU{H:Type}{enc:TypeId × Value->H}{w:World}{held:Bool}{v:Value}{d:DataW H}{ps:List MemPlace}{r:Reach}{base:Nat}(hv:Value.okWide Pr w r base JC v)(h:DataW.Trod enc Pr w 0 (λ_=>true) held JC v d ps):
  ∃(s:ag) (l:List fA),v=.slice s.a s.n s.c/\qj w s l/\VP w l:=by
 obtain⟨s,rows,rfl,hs,hn,hr,_⟩:=ah5 TS (BL TS (by kernel_rfl) SQ) hv h
 obtain⟨ls,xs,h1,h2,h3⟩:=TR (C:=fA.cs) (E:=OM) (p:=λa=>∃lb lt ak,rQ w a lb lt ak) rows λrow fV=>by
  obtain⟨a,lb,lt,ak,e,ha⟩:=Vp (hr row fV).1
  exact⟨a,⟨none,0,0⟩,e,trivial,lb,lt,ak,ha⟩
 rw[h1]at hs
 exact⟨s,ls,rfl,⟨xs,hs,h2⟩,h3⟩
def UH:List Lk:=[.int .i64,.int .i64,.str]
def UI:List Lk:=[.int .i64,.int .i64,.bytes,.int .i64,.int .u64]
def LY:List Lk:=[.int .i64,.int .i64,.int .i64,.bytes]
def Hq:List (TypeId × Nat × (World->List Value->Prop)):=[(aU,1,yw (.int .i64)),(aU,1,yw (.int .i64)),(aU,1,yw (.int .i64)),(JK,1,yx 4 λw cs=>l7 w LY cs)]
def Hr:List (TypeId × Nat × (World->List Value->Prop)):=[(aU,1,yw (.int .i64)),(jh,1,yw .bytes),(PC,1,yx 3 λw cs=>l7 w UH cs),(PD,1,yx 5 λw cs=>l7 w UI cs),(Q8,1,yx 4 (wh Hq)),(Dr,1,yx 6 λw cs=>l7 w Ee cs)]
theorem afS:Reads Pr JK 1 (yx 4 λw cs=>l7 w LY cs):=BL (e:=cR) (by kernel_rfl) (by kernel_rfl) (DC (ks:=LY) (by kernel_rfl))
theorem agV:Reads Pr aW 4 (wh Hq):=KE Hq (by kernel_rfl) λx hx=>by
 simp only[Hq,List.mem_cons,List.not_mem_nil,or_false]at hx
 rcases hx with rfl|rfl|rfl|rfl
 ·exact Part.leaf (by kernel_rfl)
 ·exact Part.leaf (by kernel_rfl)
 ·exact Part.leaf (by kernel_rfl)
 ·exact Part.of afS
theorem agW:Reads Pr aQ 6 (wh Hr):=KE Hr (by kernel_rfl) λx hx=>by
 simp only[Hr,List.mem_cons,List.not_mem_nil,or_false]at hx
 rcases hx with rfl|rfl|rfl|rfl|rfl|rfl
 ·exact Part.leaf (by kernel_rfl)
 ·exact Part.leaf (by kernel_rfl)
 ·exact Part.of (BL (e:=cD) (by kernel_rfl) (by kernel_rfl) (DC (ks:=UH) (by kernel_rfl)))
 ·exact Part.of (BL (e:=dM) (by kernel_rfl) (by kernel_rfl) (DC (ks:=UI) (by kernel_rfl)))
 ·exact Part.of (BL (e:=aW) (by kernel_rfl) (by kernel_rfl) agV)
 ·exact Part.of (BL (e:=cc) (by kernel_rfl) (by kernel_rfl) (DC aey))
theorem ajU{w:World}{cs:List Value}(h:wh Hr w cs):∃(s:bW) (t:aH),cs=t.cs s/\dF w s t/\∀g∈t.aL,g.fit:=by
 obtain⟨u0,r0,rfl,⟨c0,rfl,clock,rfl,_⟩,_,u1,r1,rfl,⟨c1,rfl,sec,ali,rfl,tc,_⟩,_,u2,r2,rfl,⟨ten,tr,rfl,Wn,_,htr,_⟩,_,u3,r3,rfl,⟨ax,pr,rfl,Wo,_,hpr,_⟩,_,u4,r4,rfl,⟨key,kr,rfl,Wp,_,hkr,_⟩,_,u5,r5,rfl,⟨gr,gr',rfl,Jr,_,alj,_⟩,_,rfl⟩:=h
 obtain⟨ts,x1,e1,d1⟩:=Ed (C:=bL.cs) (E:=Ow) (w:=w) tr λrow fV=>by
  obtain⟨c0,r0,rfl,⟨z0,rfl,b0⟩,h0⟩:=(htr row fV).1.cons
  obtain⟨c1,r1,rfl,⟨z1,rfl,b1⟩,h1⟩:=h0.cons
  obtain⟨c2,r2,rfl,⟨z2,rfl,b2⟩,h2⟩:=h1.cons
  obtain rfl:=h2.nil
  exact⟨⟨z0,z1,z2⟩,⟨none,0,0⟩,rfl,trivial⟩
 obtain⟨ps,x2,e2,d2⟩:=Ed (C:=bE.cs) (E:=xo) (w:=w) pr λrow fV=>by
  obtain⟨c0,r0,rfl,⟨z0,rfl,b0⟩,h0⟩:=(hpr row fV).1.cons
  obtain⟨c1,r1,rfl,⟨z1,rfl,b1⟩,h1⟩:=h0.cons
  obtain⟨c2,r2,rfl,⟨k,kl,rfl,hk,_⟩,h2⟩:=h1.cons
  obtain⟨c3,r3,rfl,⟨z3,rfl,b3⟩,h3⟩:=h2.cons
  obtain⟨c4,r4,rfl,⟨z4,rfl,b4⟩,h4⟩:=h3.cons
  obtain rfl:=h4.nil
  have e4:((BitVec.ofInt 64 z4:aD).toNat:Int)=z4:=by
   have e1:IntKind.min .u64=0:=by decide
   have e2:IntKind.max .u64=18446744073709551615:=by decide
   rw[e1,e2]at b4
   rw[BitVec.toNat_ofInt]
   have:(z4%((2 ^ 64:Nat):Int))=z4:=Int.emod_eq_of_lt b4.1 (by omega)
   rw[this]
   omega
  refine⟨⟨z0,z1,kl,z3,BitVec.ofInt 64 z4⟩,k,?_,hk⟩
  show _=jP z0 z1 k z3 ((BitVec.ofInt 64 z4:aD).toNat:Int)
  rw[e4]
 obtain⟨ks,x3,e3,d3⟩:=Ed (C:=aI.cs) (E:=zj) (w:=w) kr λrow fV=>by
  obtain⟨u0,r0,e0,⟨c0,rfl,z0,rfl,_⟩,_,u1,r1,rfl,⟨c1,rfl,z1,rfl,_⟩,_,u2,r2,rfl,⟨c2,rfl,z2,rfl,_⟩,_,u3,r3,rfl,⟨vs,vr,rfl,rW,_,FV,_⟩,_,rfl⟩:=(hkr row fV).1
  obtain⟨vl,x3,e3,d3⟩:=Ed (C:=aR.cs) (E:=jb) (w:=w) vr λrow fV=>by
   obtain⟨c0,r0,rfl,⟨z0,rfl,b0⟩,h0⟩:=(FV row fV).1.cons
   obtain⟨c1,r1,rfl,⟨z1,rfl,b1⟩,h1⟩:=h0.cons
   obtain⟨c2,r2,rfl,⟨z2,rfl,b2⟩,h2⟩:=h1.cons
   obtain⟨c3,r3,rfl,⟨k,kl,rfl,hk,_⟩,h3⟩:=h2.cons
   obtain rfl:=h3.nil
   exact⟨⟨z0,z1,z2,kl⟩,k,rfl,hk⟩
  rw[e3]at rW
  exact⟨⟨z0,z1,z2,vl⟩,vs,e0,⟨x3,rW,d3⟩⟩
 obtain⟨gs,e4,_,hf⟩:=Rl gr' alj
 rw[e1]at Wn
 rw[e2]at Wo
 rw[e3]at Wp
 rw[e4]at Jr
 exact⟨⟨sec,ten,ax,key,gr⟩,⟨clock,ali,ts,ps,ks,gs⟩,rfl,⟨tc,⟨x1,Wn,d1⟩,⟨x2,Wo,d2⟩,⟨x3,Wp,d3⟩,Jr⟩,hf⟩
theorem ah7{H:Type}{enc:TypeId × Value->H}{w:World}{held:Bool}{v:Value}{d:DataW H}{ps:List MemPlace}{r:Reach}{base:Nat}(hv:Value.okWide Pr w r base aQ v)(h:DataW.Trod enc Pr w 0 (λ_=>true) held aQ v d ps):
  ∃(s:bW) (t:aH),v=.agg ⟨t.cs s⟩/\dF w s t/\∀g∈t.aL,g.fit:=by
 obtain⟨cs,rfl,hq⟩:=SP agW (by kernel_rfl) hv h
 obtain⟨s,t,rfl,ht,hf⟩:=ajU hq
 exact⟨s,t,rfl,ht,hf⟩
end Go.Proofs.YtgjoehgomjgckaaGreatDoor
end
