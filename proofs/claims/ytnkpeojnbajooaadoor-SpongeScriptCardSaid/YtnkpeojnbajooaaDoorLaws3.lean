/- THE STATEMENT's OWN CODE answers true: SpongeSame. -/
import Derived.Test.YtnkpeojnbajooaaDoorLaws2
namespace Go.Ev
open Go Go.RowKit
/-- a part turns, and a new one is handed out, by one call -/
theorem Mine.updGot {w0 w w' : World} {S T : List Nat} {L : List Res} (H : Mine w0 S w L) (k : Nat) {r r' n : Res} (hk : L[k]? = some r) (m : Mod T w w') (hT : ∀ b ∈ T, b ∈ r.fp) (hr : r'.ok w') (hf : ∀ b ∈ r'.fp, b ∈ r.fp) (hn : n.ok w') (hnf : ∀ b ∈ n.fp, w.heap.size ≤ b) :
    Mine w0 S w' (L.set k r' ++ [n]) := by
  have H' := H.upd k hk m (fun b hb => .inl (hT b hb)) hr (fun b hb => .inl (hf b hb))
  have old : ∀ (j : Nat) (s : Res), (L.set k r')[j]? = some s → ∀ b ∈ s.fp, b < w.heap.size := by
    intro j s hs b hb
    rw [List.getElem?_set] at hs
    split at hs
    · split at hs
      · obtain rfl := Option.some.inj hs
        exact r.lt w (H.ok k r hk) b (hf b hb)
      · cases hs
    · exact s.lt w (H.ok j s hs) b hb
  have e : ∀ {j : Nat} {s : Res}, (L.set k r' ++ [n])[j]? = some s → ((L.set k r')[j]? = some s ∧ j < (L.set k r').length) ∨ (s = n ∧ j = (L.set k r').length) := fun {j s} h => by
    rcases Nat.lt_or_ge j (L.set k r').length with hj | hj
    · rw [List.getElem?_append_left hj] at h; exact .inl ⟨h, hj⟩
    · rw [List.getElem?_append_right hj] at h
      rcases Nat.eq_zero_or_pos (j - (L.set k r').length) with e | e
      · rw [e] at h; simp at h; exact .inr ⟨h.symm, by omega⟩
      · rw [List.getElem?_eq_none (by simp at e ⊢; omega)] at h; cases h
  refine ⟨H'.mod, fun j s hs => ?_, fun j s hs b hb => ?_, fun i j s t hij hs ht b hb hb' => ?_⟩
  · rcases e hs with ⟨h, _⟩ | ⟨rfl, _⟩
    · exact H'.ok j s h
    · exact hn
  · rcases e hs with ⟨h, _⟩ | ⟨rfl, _⟩
    · exact H'.own j s h b hb
    · exact .inr (Nat.le_trans H.mod.size (hnf b hb))
  · rcases e hs with ⟨h, hi⟩ | ⟨rfl, hi⟩
    · rcases e ht with ⟨h', _⟩ | ⟨rfl, _⟩
      · exact H'.apart i j s t hij h h' b hb hb'
      · have := old i s h b hb; have := hnf b hb'; omega
    · rcases e ht with ⟨h', _⟩ | ⟨rfl, hj⟩
      · have := old j t h' b hb'; have := hnf b hb; omega
      · omega
end Go.Ev
namespace Go.Proofs.YtnkpeojnbajooaaDoor
open Go Go.Ev
set_option linter.unusedVariables false
/-- what the code asks for behind both writings -/
def SameTail (t28 t31 : Option Addr) (t53 t57 : Int) (v7 v8 v9 : Value) (w : World) (R : Value → World → Prop) : Prop :=
 callK Pr f_sponge_Sponge_Read [.pointer t28, .int .i64 ((1:Int) + t53)] w fun v_10 w14 =>
 asSl v_10 fun t77 =>
 callK Pr f_sponge_Sponge_Read [.pointer t31, .int .i64 ((1:Int) + t57)] w14 fun v_11 w15 =>
 asSl v_11 fun t80 =>
 appK Pr [t_s_uint8, t_s_uint8] t_s_uint8 [.slice none 0 0, .slice t80.a t80.n t80.c] w15 fun t81 w16 =>
 (I64 (((1:Int) + t53) - ((1:Int) + t57)) ∧
 callK Pr f_sponge_Sponge_Read [.pointer t31, .int .i64 (((1:Int) + t53) - ((1:Int) + t57))] w16 fun v_12 w17 =>
 asSl v_12 fun t86 =>
 appK Pr [t_s_uint8, t_s_uint8] t_s_uint8 [.slice t81.a t81.n t81.c, .slice t86.a t86.n t86.c] w17 fun t87 w18 =>
 callK Pr f_sponge_Sponge_Read [.pointer t28, .int .i64 (5:Int)] w18 fun v_13 w19 =>
 asSl v_13 fun t89 =>
 callK Pr f_sponge_Sponge_Read [.pointer t31, .int .i64 (5:Int)] w19 fun v_14 w20 =>
 asSl v_14 fun t91 =>
 ifaceNil v7 fun nil =>
 iteP nil
 (ifaceNil v8 fun nil_1 =>
 iteP nil_1
 (ifaceNil v9 fun nil_2 =>
 iteP (nil_2 && (decide (((t77.n : Nat) : Int) = (1:Int) + t53)))
 (callK Pr f_law0_SameBytes [.slice t77.a t77.n t77.c, .slice t87.a t87.n t87.c] w20 fun v_15 w21 =>
 asB v_15 fun t111 =>
 iteP (t111 && (decide (((t89.n : Nat) : Int) = (5:Int))))
 (callK Pr f_law0_SameBytes [.slice t89.a t89.n t89.c, .slice t91.a t91.n t91.c] w21 fun v_16 w22 =>
 asB v_16 fun t121 =>
 iteP t121
 (callK Pr f_law2_awake [] w22 fun v_17 w23 =>
 asB v_17 fun t124 =>
 R (.bool t124) w23)
 (R (.bool false) w22))
 (R (.bool false) w21))
 (R (.bool false) w20))
 (R (.bool false) w20))
 (R (.bool false) w20))
theorem sameTail_ok {w0 w : World} {L : List Res} (hg : Laid w0) {rate : Nat} {suf : B8} (hr0 : 8 ≤ rate) (hr : rate ≤ 192) {s : List B64 × Nat} (hs : Fits rate s) {b0 b1 : Nat}
    (H : Mine w0 [] w L) (h0 : L[0]? = some (spr b0 s.1 rate s.2 suf false)) (h1 : L[1]? = some (spr b1 s.1 rate s.2 suf false)) (o p : Nat) (ho : 1 ≤ o ∧ o ≤ 300) (hp : 1 ≤ p ∧ p ≤ o) (t53 t57 : Int) (e53 : 1 + t53 = (o : Int)) (e57 : 1 + t57 = (p : Int)) :
    SameTail (some ⟨b0, 0, none⟩) (some ⟨b1, 0, none⟩) t53 t57 .nilIface .nilIface .nilIface w fun v w' => v = .bool true ∧ Mod [] w0 w' := by
  unfold SameTail
  rw [e53, e57]
  let c := close rate suf s
  have hc : Gives rate c := gives_ready (gives := false) hs
  -- two parts alone
  obtain ⟨L2, rfl⟩ : ∃ L2, L = spr b0 s.1 rate s.2 suf false :: spr b1 s.1 rate s.2 suf false :: L2 := by
    match L, h0, h1 with
    | x :: y :: L2, h0, h1 =>
      simp only [List.getElem?_cons_zero, List.getElem?_cons_succ, Option.some.injEq] at h0 h1
      exact ⟨L2, by rw [h0, h1]⟩
  have H := H.take 2
  change Mine w0 [] w [spr b0 s.1 rate s.2 suf false, spr b1 s.1 rate s.2 suf false] at H
  refine call_of (sponge_Read_ok hr0 hr (gives := false) hs b0 o ho.1 (by omega) _ (H.blk 0 rfl)) ?_
  rintro _ w1 ⟨x, rfl, hx, g1, m1⟩
  have H := H.updGot (r' := spr b0 (squeeze rate c o).2.1 rate (squeeze rate c o).2.2 suf true) (n := .row t_uint8 1 x (u8s (squeeze rate c o).1)) 0 rfl m1 (fun c hc => hc) g1 (fun c hc => hc) hx.lo (fun b hb => (Own.row_ge hx b hb).1)
  refine asSl_s (call_of (sponge_Read_ok hr0 hr (gives := false) hs b1 p hp.1 (by omega) _ (H.blk 1 rfl)) ?_)
  rintro _ w2 ⟨y, rfl, hy, g2, m2⟩
  have H := H.updGot (r' := spr b1 (squeeze rate c p).2.1 rate (squeeze rate c p).2.2 suf true) (n := .row t_uint8 1 y (u8s (squeeze rate c p).1)) 1 rfl m2 (fun c hc => hc) g2 (fun c hc => hc) hy.lo (fun b hb => (Own.row_ge hy b hb).1)
  change Mine w0 [] w2 [spr b0 (squeeze rate c o).2.1 rate (squeeze rate c o).2.2 suf true, spr b1 (squeeze rate c p).2.1 rate (squeeze rate c p).2.2 suf true, .row t_uint8 1 x (u8s (squeeze rate c o).1), .row t_uint8 1 y (u8s (squeeze rate c p).1)] at H
  have eyl := (H.bytes 3 rfl).len
  rw [length_squeeze] at eyl
  refine asSl_s ?_
  have H := H.nilrow t_uint8 1
  refine H.app8 (s := ⟨none, 0, 0⟩) (vs := []) 4 elt_u8 rfl (H.bytes 3 rfl) (by show 0 + y.n ≤ _; omega) fun q w3 H hq => ?_
  have hqn : q.n = p := by rw [hq]; show 0 + y.n = p; omega
  refine ⟨⟨by omega, by omega⟩, ?_⟩
  have hgp := hc.squeeze (rate := rate) (by omega) p
  have add := squeeze_add rate c p (o - p)
  rw [show p + (o - p) = o by omega] at add
  -- the rest, whichever way it comes
  have fin : ∀ (z : SlV) (w4 : World) (zs : List B8) (L5 : List Res), zs = (squeeze rate (squeeze rate c p).2 (o - p)).1 → Bytes w4 z zs → z.n ≤ 300 →
      Mine w0 [] w4 ([spr b0 (squeeze rate c o).2.1 rate (squeeze rate c o).2.2 suf true, spr b1 (squeeze rate c o).2.1 rate (squeeze rate c o).2.2 suf true, .row t_uint8 1 x (u8s (squeeze rate c o).1), .row t_uint8 1 y (u8s (squeeze rate c p).1), .row t_uint8 1 q (u8s (squeeze rate c p).1)] ++ L5) →
      appK Pr [t_s_uint8, t_s_uint8] t_s_uint8 [.slice q.a q.n q.c, .slice z.a z.n z.c] w4 fun t87 w18 =>
        callK Pr f_sponge_Sponge_Read [.pointer (some ⟨b0, 0, none⟩), .int .i64 (5:Int)] w18 fun v_13 w19 =>
        asSl v_13 fun t89 =>
        callK Pr f_sponge_Sponge_Read [.pointer (some ⟨b1, 0, none⟩), .int .i64 (5:Int)] w19 fun v_14 w20 =>
        asSl v_14 fun t91 =>
        ifaceNil .nilIface fun nil =>
        iteP nil
        (ifaceNil .nilIface fun nil_1 =>
        iteP nil_1
        (ifaceNil .nilIface fun nil_2 =>
        iteP (nil_2 && (decide (((x.n : Nat) : Int) = (o : Int))))
        (callK Pr f_law0_SameBytes [.slice x.a x.n x.c, .slice t87.a t87.n t87.c] w20 fun v_15 w21 =>
        asB v_15 fun t111 =>
        iteP (t111 && (decide (((t89.n : Nat) : Int) = (5:Int))))
        (callK Pr f_law0_SameBytes [.slice t89.a t89.n t89.c, .slice t91.a t91.n t91.c] w21 fun v_16 w22 =>
        asB v_16 fun t121 =>
        iteP t121
        (callK Pr f_law2_awake [] w22 fun v_17 w23 =>
        asB v_17 fun t124 =>
        (Value.bool t124 = .bool true ∧ Mod [] w0 w23))
        (Value.bool false = .bool true ∧ Mod [] w0 w22))
        (Value.bool false = .bool true ∧ Mod [] w0 w21))
        (Value.bool false = .bool true ∧ Mod [] w0 w20))
        (Value.bool false = .bool true ∧ Mod [] w0 w20))
        (Value.bool false = .bool true ∧ Mod [] w0 w20) := by
    rintro z w4 _ L5 rfl hz hzn H
    have hgo := hc.squeeze (rate := rate) (by omega) o
    have H5 := H.take 5
    refine H5.app8 4 elt_u8 rfl hz (by omega) fun q2 w5 H hq2 => ?_
    have e : (squeeze rate c p).1 ++ (squeeze rate (squeeze rate c p).2 (o - p)).1 = (squeeze rate c o).1 := by rw [add]
    rw [e] at H
    change Mine w0 [] w5 [spr b0 (squeeze rate c o).2.1 rate (squeeze rate c o).2.2 suf true, spr b1 (squeeze rate c o).2.1 rate (squeeze rate c o).2.2 suf true, .row t_uint8 1 x (u8s (squeeze rate c o).1), .row t_uint8 1 y (u8s (squeeze rate c p).1), .row t_uint8 1 q2 (u8s (squeeze rate c o).1)] at H
    have hlo := length_squeeze rate c o
    generalize squeeze rate c o = so at H hgo hlo
    refine call_of (sponge_Read_ok hr0 hr (gives := true) hgo b0 5 (by omega) (by omega) _ (H.blk 0 rfl)) ?_
    rintro _ w6 ⟨r, rfl, hr6, g6, m6⟩
    have H := H.updGot (r' := spr b0 (squeeze rate so.2 5).2.1 rate (squeeze rate so.2 5).2.2 suf true) (n := .row t_uint8 1 r (u8s (squeeze rate so.2 5).1)) 0 rfl m6 (fun c hc => hc) g6 (fun c hc => hc) hr6.lo (fun b hb => (Own.row_ge hr6 b hb).1)
    refine asSl_s (call_of (sponge_Read_ok hr0 hr (gives := true) hgo b1 5 (by omega) (by omega) _ (H.blk 1 rfl)) ?_)
    rintro _ w7 ⟨u, rfl, hu7, g7, m7⟩
    have H := H.updGot (r' := spr b1 (squeeze rate so.2 5).2.1 rate (squeeze rate so.2 5).2.2 suf true) (n := .row t_uint8 1 u (u8s (squeeze rate so.2 5).1)) 1 rfl m7 (fun c hc => hc) g7 (fun c hc => hc) hu7.lo (fun b hb => (Own.row_ge hu7 b hb).1)
    have hxb := H.bytes 2 rfl
    have hqb := H.bytes 4 rfl
    have hrb := H.bytes 5 rfl
    have hub := H.bytes 6 rfl
    have exl := hxb.len
    have erl := hrb.len
    rw [length_squeeze] at erl
    rw [hlo] at exl
    refine asSl_s (ifn_nil (ite_true rfl (ifn_nil (ite_true rfl (ifn_nil (ite_true (by rw [← exl]; simp) ?_))))))
    refine call_of (law0_SameBytes_same x q2 _ _ hxb hqb (by omega)) ?_
    rintro _ w8 ⟨rfl, m8⟩
    have H := H.frame m8
    refine asB_b (ite_true (by rw [← erl]; rfl) ?_)
    refine call_of (law0_SameBytes_same r u _ _ (H.bytes 5 rfl) (H.bytes 6 rfl) (by rw [length_squeeze]; omega)) ?_
    rintro _ w9 ⟨rfl, m9⟩
    have H := H.frame m9
    refine asB_b (ite_true rfl ?_)
    exact awake_of hg H
  rcases Nat.eq_zero_or_pos (o - p) with h00 | h00
  · have hop : o = p := by omega
    refine call_of (sponge_Read_no _ _ (.inr (.inl (by omega))) _) ?_
    rintro _ w4 ⟨rfl, hw4⟩
    subst hw4
    refine asSl_s (s := ⟨none, 0, 0⟩) (fin ⟨none, 0, 0⟩ _ [] [] (by rw [h00]; rfl) (Bytes.nil _) (by show 0 ≤ 300; omega) ?_)
    subst hop
    exact H
  · rw [show ((o : Int) - (p : Int)) = ((o - p : Nat) : Int) by omega]
    refine call_of (sponge_Read_ok hr0 hr (gives := true) hgp b1 (o - p) h00 (by omega) _ (H.blk 1 rfl)) ?_
    rintro _ w4 ⟨z, rfl, hz, g4, m4⟩
    have H := H.updGot (r' := spr b1 (squeeze rate (squeeze rate c p).2 (o - p)).2.1 rate (squeeze rate (squeeze rate c p).2 (o - p)).2.2 suf true) (n := .row t_uint8 1 z (u8s (squeeze rate (squeeze rate c p).2 (o - p)).1)) 1 rfl m4 (fun c hc => hc) g4 (fun c hc => hc) hz.lo (fun b hb => (Own.row_ge hz b hb).1)
    have ezl := hz.bytes.len
    refine asSl_s (fin z _ _ [.row t_uint8 1 z (u8s (squeeze rate (squeeze rate c p).2 (o - p)).1)] rfl hz.bytes ?_ ?_)
    · have : (squeeze rate (squeeze rate c p).2 (o - p)).1.length = o - p := length_squeeze _ _ _
      have hzl : (squeeze rate (ready rate suf true (squeeze rate c p).2) (o - p)).1.length = o - p := length_squeeze _ _ _
      omega
    · have e2 : (squeeze rate c o).2 = (squeeze rate (squeeze rate c p).2 (o - p)).2 := by rw [add]
      rw [← e2] at H
      exact H
end Go.Proofs.YtnkpeojnbajooaaDoor
