/- THE STATEMENTS' OWN CODE answers true: chapter 15, what is read. -/
import Derived.Test.YtoeedbljiocpdaaDoorAskRead
namespace Go.Proofs.YtoeedbljiocpdaaDoor
open Go Go.Ev
set_option maxRecDepth 20000
set_option linter.unusedVariables false
/-- a slice's block, whatever it holds -/
def Room (w : World) (B : SlV) : Prop := B = ⟨none, 0, 0⟩ ∨ ∃ g cs, B.a = some ⟨g, 0, none⟩ ∧ Blk w g cs t_uint8 ∧ cs.length = B.c ∧ B.n ≤ B.c
def Res.room (B : SlV) : Res where
  fp := B.row
  ok w := Room w B
  stab w w' h k := by
    rcases k with rfl | ⟨g, cs, h1, h2, h3⟩
    · exact .inl rfl
    · exact .inr ⟨g, cs, h1, (h g (by unfold SlV.row; rw [h1]; simp)).trans h2, h3⟩
  lt w h c hc := by
    rcases h with rfl | ⟨g, cs, h1, h2, h3⟩
    · simp [SlV.row] at hc
    · unfold SlV.row at hc
      rw [h1] at hc
      rw [List.mem_singleton.1 hc]
      exact h2.lt
theorem Room.of {w : World} {lo : Nat} {B : SlV} {vs : List Value} (h : Own w lo t_uint8 1 B vs) : Room w B := by
  obtain ⟨a, n, c⟩ := B
  rcases h.2 with ⟨hv, hn⟩ | ⟨g, cap, cur, hv, hlg, hg, hnc, hcm, hcs, htake⟩
  · simp only [SlV.v, Value.slice.injEq] at hv
    obtain ⟨rfl, rfl, rfl⟩ := hv
    exact .inl rfl
  · simp only [SlV.v, Value.slice.injEq] at hv
    obtain ⟨rfl, -, rfl⟩ := hv
    exact .inr ⟨g, cur.toList, rfl, hg, by show cur.toList.length = c; rw [Array.length_toList, hcs, Nat.mul_one], hnc⟩
theorem law0_OverBytes_tail (B z : SlV) (full o : List B8) (w : World) (hR : Room w B) (ht : Tail B full z o) (hl : B.n ≤ 1000000) :
    Ok Pr f_law0_OverBytes [.slice z.a z.n z.c] w fun v w' => v = .tuple ⟨[]⟩ ∧ Mod B.row w w' ∧ Room w' B := by
  rcases hR with rfl | ⟨g, cs, h1, h2, h3, h4⟩
  · obtain ⟨a, n, c⟩ := z
    obtain ⟨hn, ha⟩ := ht.within
    have hc := (ht.cap (Nat.le_refl _)).2
    dsimp only at hn hc
    obtain rfl : n = 0 := by omega
    obtain rfl : c = 0 := by omega
    have : a = none := by
      cases a with
      | none => rfl
      | some a => obtain ⟨a0, h, _⟩ := ha a rfl; cases h
    subst this
    refine Ok.mono (law0_OverBytes_ok ⟨none, 0, 0⟩ [] w (Own.nil _ _ _ _) (by simp)) ?_
    rintro _ w' ⟨rfl, m⟩
    exact ⟨rfl, m, .inl rfl⟩
  · have hw := ht.within.1
    refine Ok.mono (law0_OverBytes_in g cs z w h2 (ht.cap h4).1 (by rw [h3]; exact (ht.shape g h1 h4).2) (by omega)) ?_
    rintro _ w' ⟨rfl, m, cs', hc, hb⟩
    exact ⟨rfl, by unfold SlV.row; rw [h1]; exact m, .inr ⟨g, cs', h1, hb, by omega, h4⟩⟩
theorem zeros_u8 (l : List B8) (m : Nat) : u8s l ++ List.replicate m (Value.int .u8 0) = u8s (l ++ List.replicate m 0) := by
  rw [u8s_append]
  congr 1
  simp [u8s, u8]
theorem AskReads_ok (x y : SlV) (l m : List B8) (pad : Int) (w : World) (hg : Laid w) (hx : Bytes w x l) (hy : Bytes w y m) :
    Ok Pr f_law15_AskReads [.slice x.a x.n x.c, .slice y.a y.n y.c, .int .i64 pad] w fun v w' => v = .bool true ∧ Mod [] w w' := by
  refine V_law15_AskReads_of ?_
  unfold V_law15_AskReads
  rw [zc_Ask]
  have hxl := hx.len
  have hyl := hy.len
  refine ite_intro (fun hc => awake15_of hg (Mine.start w)) (fun hc => ?_)
  simp only [Bool.or_eq_false_iff, decide_eq_false_iff_not] at hc
  obtain ⟨hc1, hc2⟩ := hc
  refine call_of (sign_Sizes_ok 1 _) ?_
  rintro _ w2 ⟨rfl, m2⟩
  have H := (Mine.start w).frame m2
  have e : (sgS 1 : Int) = 2420 := rfl
  rw [e]
  refine ⟨_, rfl, _, rfl, _, rfl, _, rfl, rfl, ite_false rfl ?_⟩
  refine H.clone8 elt_u8 (hx.mod0 H.mod) (by omega) fun A w3 H hA => ⟨⟨by omega, by omega⟩, call_of (law0_Low_ok pad 3 (by omega) (by omega) _) ?_⟩
  rintro _ w4 ⟨rfl, hw⟩
  subst hw
  have hlt := low_lt (x := pad) (n := 3) (by omega)
  generalize low pad 3 = d at *
  obtain ⟨k, hk⟩ : ∃ k : Nat, max (2420 - ((y.n : Nat) : Int) - (d : Int)) 0 = (k : Int) := ⟨(max (2420 - ((y.n : Nat) : Int) - (d : Int)) 0).toNat, by omega⟩
  have hk2 : k ≤ 2420 := by omega
  refine asI_i ⟨⟨by omega, by omega⟩, H.appZr 0 (q := .i64) (v := .int .u8 0) elt_u8 (by kernel_rfl) (by kernel_rfl) rfl rfl hk (by omega) (by omega) fun A1 w5 H hA1 => ?_⟩
  have H : Mine w [] w5 [.row t_uint8 1 A1 (u8s l ++ List.replicate k (Value.int .u8 0))] := H
  rw [zeros_u8] at H
  refine H.app8 0 elt_u8 rfl (hy.mod0 H.mod) (by omega) fun A2 w6 H hA2 => ?_
  obtain ⟨L, hL⟩ : ∃ L, L = l ++ List.replicate k 0 ++ m := ⟨_, rfl⟩
  have H : Mine w [] w6 [.row t_uint8 1 A2 (u8s L)] := by rw [hL]; exact H
  have hLl : L.length ≤ 7500 := by rw [hL, List.length_append, List.length_append, List.length_replicate]; omega
  clear hL
  refine call_of (law0_LendBytes_ok A2 L _ (H.bytes 0 rfl) (by omega)) ?_
  rintro _ w7 ⟨b, rfl, hb, hbge, m7⟩
  have H := H.push m7 (r := .blk b (u8s (L ++ mark3)) t_uint8) hb (fun c hc => by rw [List.mem_singleton.1 hc]; exact hbge)
  refine ⟨⟨some ⟨b, 0, none⟩, L.length, L.length + 3⟩, rfl, ?_⟩
  refine call_of (ask_Read_ok ⟨some ⟨b, 0, none⟩, L.length, L.length + 3⟩ L _ (lent_bytes (H.blk 1 rfl))) ?_
  rintro _ w8 ⟨q, er, y1, y2, B, B2, fB, fB2, lb, lt, o1, o2, c, rfl, H2, tb, tt, t1, t2, hfB, hfB2, hout⟩
  have H := H.join H2
  refine ⟨_, rfl, as_Ask (q := q) ⟨y1, rfl, y2, rfl, rfl, H.nw fun p w9 H _ => H.sT_api_Ask 5 rfl rfl fun w10 H => ?_⟩⟩
  refine call_of (ref15_Read_ok A2 L _ (H.bytes 0 rfl)) ?_
  rintro _ w11 ⟨q', z1, z2, lb', lt', o1', o2', c', rfl, H3, hout'⟩
  obtain ⟨e1, e2, e3, e4, e5, e6, e7⟩ := hout.same hout'
  subst e3 e4 e5 e6 e7
  have H := H.join H3
  refine ⟨_, rfl, as_Ask (q := q') ⟨z1, rfl, z2, rfl, _, rfl, rfl, H.nw fun p1 w12 H _ => H.sT_api_Ask 10 rfl rfl fun w13 H => ?_⟩⟩
  have H : Mine w [] w13 [.row t_uint8 1 A2 (u8s L), .blk b (u8s (L ++ mark3)) t_uint8, .row t_uint8 1 B (u8s fB), .row t_uint8 1 B2 (u8s fB2), Res.err er c', .blk p q.cells t_api_Ask, .row t_uint8 1 q'.by_ (u8s lb'), .row t_uint8 1 q'.tok (u8s lt'), .row t_uint8 1 z1 (u8s o1'), .row t_uint8 1 z2 (u8s o2'), .blk p1 q'.cells t_api_Ask] := H
  have hBn := (H.bytes (s := B) (bs := fB) 2 rfl).len
  have hB2n := (H.bytes (s := B2) (bs := fB2) 3 rfl).len
  refine join1_of fun go hgo => ?_
  have rest : ∀ w', Mod [] w13 w' → go true w' := by
    intro w14 m14
    have H := H.frame m14
    refine hgo true w14 (call_of (law0_OverBytes_tail B2 y1 fB2 o1' _ (Room.of (H.own' 3 rfl)) t1 (by omega)) ?_)
    rintro _ w15 ⟨_, m15, r15⟩
    have H := H.upd (r' := Res.room B2) 3 rfl m15 (fun c hc => .inl hc) r15 (fun c hc => .inl hc)
    refine call_of (law0_OverBytes_tail B2 y2 fB2 o2' _ r15 t2 (by omega)) ?_
    rintro _ w16 ⟨_, m16, r16⟩
    have H := H.upd (r' := Res.room B2) 3 rfl m16 (fun c hc => .inl hc) r16 (fun c hc => .inl hc)
    refine H.ldL 5 rfl (ad1 p 12) (n := q.by_) rfl (call_of (law0_OverBytes_tail B q.by_ fB lb' _ (Room.of (H.own' 2 rfl)) tb (by omega)) ?_)
    rintro _ w17 ⟨_, m17, r17⟩
    have H := H.upd (r' := Res.room B) 2 rfl m17 (fun c hc => .inl hc) r17 (fun c hc => .inl hc)
    refine ite_true rfl (call_of (law0_KeptBytes_ok b A2 L _ (H.blk 1 rfl) (H.bytes 0 rfl) (by omega)) ?_)
    rintro _ w18 ⟨rfl, m18⟩
    exact asB_b (ite_true rfl (awake15_of hg (H.frame m18)))
  have hlb := (tb.byt _ (H.bytes 2 rfl)).len
  have hlt2 := (tt.byt _ (H.bytes 2 rfl)).len
  have hwb := tb.within.1
  have hwt := tt.within.1
  have ho1 := (t1.byt _ (H.bytes 3 rfl)).len
  have ho2 := (t2.byt _ (H.bytes 3 rfl)).len
  have hw1 := t1.within.1
  have hw2 := t2.within.1
  refine H.ld_api_Ask 5 rfl (H.ld_api_Ask 10 rfl (call_of (law0_SameAsk_ok q lb' lt' q' lb' lt' (by omega) (by omega) _ (tb.byt _ (H.bytes 2 rfl)) (tt.byt _ (H.bytes 2 rfl)) (H.bytes 6 rfl) (H.bytes 7 rfl)) ?_))
  rintro _ w20 ⟨rfl, m20⟩
  have hsame : sameAsk q lb' lt' q' lb' lt' = true := by
    unfold sameAsk
    rw [e1, e2]
    simp
  rw [hsame]
  have H20 := H.frame m20
  refine asB_b (ite_true rfl (call_of (law0_SameBytes_same y1 z1 o1' _ (t1.byt _ (H20.bytes 3 rfl)) (H20.bytes 8 rfl) (by omega)) ?_))
  rintro _ w21 ⟨rfl, m21⟩
  have H21 := H20.frame m21
  refine asB_b (ite_true rfl (call_of (law0_SameBytes_same y2 z2 o2' _ (t2.byt _ (H21.bytes 3 rfl)) (H21.bytes 9 rfl) (by omega)) ?_))
  rintro _ w22 ⟨rfl, m22⟩
  have H22 := H21.frame m22
  refine asB_b (ite_true rfl (call_of (law0_Num_err er c' _ (hg.mine H22 (by simp)) (H22.err 4 rfl)) ?_))
  rintro _ w23 ⟨rfl, m23⟩
  refine asI_i ?_
  rw [decide_eq_true (show c' = c' from rfl)]
  exact rest w23 (((m20.trans m21).trans m22).trans m23)
end Go.Proofs.YtoeedbljiocpdaaDoor
