/- THE STATEMENTS' OWN CODE answers true: SpongeBegins, SpongeSame. -/
import Derived.Test.YtnkpeojnbajooaaDoorLaws
namespace Go.Proofs.YtnkpeojnbajooaaDoor
open Go Go.Ev
set_option linter.unusedVariables false
/-! ### plain lists -/
theorem spOut_len (rate : Nat) (suf : B8) (l : List B8) (n : Nat) (h : n ≤ 1048576) : (spOut rate suf l (n : Int)).length = n := by
  unfold spOut
  split
  · rw [Int.toNat_natCast, length_refOut]
  · simp only [List.length_nil]; omega
theorem outs_take (rate : Nat) (a : List B64) (ha : a.length = 25) (n k : Nat) : (outs rate a (n + k)).1.take n = (outs rate a n).1 := by
  induction k with
  | zero => rw [Nat.add_zero, List.take_of_length_le (Nat.le_of_eq (length_outs rate a ha n).1)]
  | succ k ih =>
    rw [← Nat.add_assoc, outs_succ]
    simp only [outStep]
    rw [List.take_append_of_le_length (by rw [(length_outs rate a ha (n + k)).1]; omega)]
    exact ih
theorem spOut_take (rate : Nat) (suf : B8) (l : List B8) (lo hi : Nat) (h : lo ≤ hi) (h2 : hi ≤ 1048576) : (spOut rate suf l (hi : Int)).take lo = spOut rate suf l (lo : Int) := by
  rcases Nat.eq_zero_or_pos lo with rfl | h0
  · rw [List.take_zero]
    unfold spOut
    rw [if_neg (by omega)]
  · rw [spOut_nat _ _ _ _ (by omega) (by omega), spOut_nat _ _ _ _ (by omega) (by omega)]
    obtain ⟨k, rfl⟩ : ∃ k, hi = lo + k := ⟨hi - lo, by omega⟩
    exact outs_take rate _ (length_blocks _ _ _) lo k
theorem squeeze_add (rate : Nat) (s : List B64 × Nat) (m n : Nat) : squeeze rate s (m + n) = ((squeeze rate s m).1 ++ (squeeze rate (squeeze rate s m).2 n).1, (squeeze rate (squeeze rate s m).2 n).2) := by
  induction n with
  | zero => simp [squeeze, up_zero]
  | succ n ih =>
    rw [← Nat.add_assoc, squeeze_succ, ih, squeeze_succ]
    simp [outB, List.append_assoc]
theorem mayBe_of {rate : Int} {suf : B8} (h : mayBe rate suf = true) : ∃ k : Nat, rate = (k : Int) ∧ 8 ≤ k ∧ k ≤ 192 ∧ k % 8 = 0 := by
  unfold mayBe at h
  simp only [Bool.and_eq_true, decide_eq_true_eq] at h
  exact ⟨rate.toNat, by omega, by omega, by omega, by omega⟩

theorem SpongeBegins_ok (b : SlV) (l : List B8) (n m : Int) (w : World) (hg : Laid w) (hb : Bytes w b l) : Ok Pr f_law2_SpongeBegins [.slice b.a b.n b.c, .int .i64 n, .int .i64 m] w fun v w' => v = .bool true ∧ Mod [] w w' := by
  refine V_law2_SpongeBegins_of ?_
  unfold V_law2_SpongeBegins
  have hbl := hb.len
  refine ite_intro (fun h => awake_of hg (Mine.start w)) (fun h => ?_)
  have hb300 : l.length ≤ 300 := by have := of_decide_eq_false h; omega
  refine call_of (law0_Low_ok n 300 (by decide) (by decide) w) ?_
  rintro _ _ ⟨rfl, rfl⟩
  refine asI_i (call_of (law0_Low_ok m 300 (by decide) (by decide) _) ?_)
  rintro _ w2 ⟨rfl, hw2⟩
  subst hw2
  have h1 := low_lt (x := n) (n := 300) (by decide)
  have h2 := low_lt (x := m) (n := 300) (by decide)
  generalize low n 300 = a at *
  generalize low m 300 = c at *
  obtain ⟨lo, hlo⟩ : ∃ lo : Nat, min (a : Int) (c : Int) = (lo : Int) := ⟨min a c, by omega⟩
  obtain ⟨hi, hhi⟩ : ∃ hi : Nat, max (a : Int) (c : Int) = (hi : Int) := ⟨max a c, by omega⟩
  have hlh : lo ≤ hi := by omega
  have hhi300 : hi < 300 := by omega
  refine asI_i ?_
  rw [hlo, hhi]
  have H := Mine.start w2
  have one : ∀ {w3 : World} {L : List Res} {p : Nat}, Mine w2 [] w3 (L ++ [.blk p [b.v] t_s_uint8]) → Parts w3 [] ⟨some ⟨p, 0, none⟩, 1, 1⟩ [l] := fun {w3 L p} H =>
    Parts.of1 (t := t_s_uint8) (H.blk L.length (by simp)) (by simp) (hb.mod0 H.mod) (off_nil _)
  have sm : ∀ p : Nat, Small ⟨some ⟨p, 0, none⟩, 1, 1⟩ [l] := fun p => small1 rfl (by omega)
  have fl : [l].flatten = l := by simp
  refine H.nw fun p w3 H _ => call_of (sponge_Shake256_ok lo ⟨some ⟨p, 0, none⟩, 1, 1⟩ _ _ (one H) (sm p)) ?_
  rintro _ w4 ⟨x, rfl, hx, m4⟩
  have H := H.got m4 hx
  refine asSl_s (H.nw fun p1 w5 H _ => call_of (sponge_Shake256_ok hi ⟨some ⟨p1, 0, none⟩, 1, 1⟩ _ _ (one H) (sm p1)) ?_)
  rintro _ w6 ⟨y, rfl, hy, m6⟩
  have H := H.got m6 hy
  refine asSl_s (H.nw fun p2 w7 H _ => call_of (sponge_Shake128_ok lo ⟨some ⟨p2, 0, none⟩, 1, 1⟩ _ _ (one H) (sm p2)) ?_)
  rintro _ w8 ⟨u, rfl, hu, m8⟩
  have H := H.got m8 hu
  refine asSl_s (H.nw fun p3 w9 H _ => call_of (sponge_Shake128_ok hi ⟨some ⟨p3, 0, none⟩, 1, 1⟩ _ _ (one H) (sm p3)) ?_)
  rintro _ w10 ⟨v, rfl, hv, m10⟩
  have H := H.got m10 hv
  rw [fl] at H
  have hx := H.bytes 1 rfl
  have hy := H.bytes 3 rfl
  have hu := H.bytes 5 rfl
  have hv := H.bytes 7 rfl
  have exl := hx.len
  have eyl := hy.len
  have eul := hu.len
  have evl := hv.len
  rw [spOut_len _ _ _ _ (by omega)] at exl eyl eul evl
  refine asSl_s (ite_false ?_ ?_)
  · rw [← exl, ← eyl, ← eul, ← evl]; simp
  refine hy.h lo rfl (by omega) fun y' hy'n hy' _ => ?_
  rw [spOut_take _ _ _ _ _ hlh (by omega)] at hy'
  refine call_of (law0_SameBytes_same x y' _ _ hx hy' (by rw [spOut_len _ _ _ _ (by omega)]; omega)) ?_
  rintro _ w11 ⟨rfl, m11⟩
  have H := H.frame m11
  refine asB_b (ite_true rfl ((H.bytes 7 rfl).h lo rfl (by omega) fun v' hv'n hv' _ => ?_))
  rw [spOut_take _ _ _ _ _ hlh (by omega)] at hv'
  refine call_of (law0_SameBytes_same u v' _ _ (H.bytes 5 rfl) hv' (by rw [spOut_len _ _ _ _ (by omega)]; omega)) ?_
  rintro _ w12 ⟨rfl, m12⟩
  have H := H.frame m12
  refine asB_b (ite_true rfl (H.nw fun p4 w13 H _ => call_of (sponge_Sha512_ok ⟨some ⟨p4, 0, none⟩, 1, 1⟩ _ _ (one H) (sm p4)) ?_))
  rintro _ w14 ⟨z, rfl, hz, m14⟩
  have H := H.got m14 hz
  have ezl := hz.bytes.len
  rw [show (64 : Int) = ((64 : Nat) : Int) from rfl, spOut_len _ _ _ _ (by omega)] at ezl
  refine asSl_s (ite_true (by rw [← ezl]; rfl) (H.nw fun p5 w15 H _ => call_of (sponge_Shake256_ok 1048577 ⟨some ⟨p5, 0, none⟩, 1, 1⟩ _ _ (one H) (sm p5)) ?_))
  rintro _ w16 ⟨q, rfl, hq, m16⟩
  have H := H.got m16 hq
  have eql := hq.bytes.len
  have e0 : spOut 136 31 [l].flatten 1048577 = [] := by unfold spOut; rw [if_neg (by omega)]
  rw [e0] at eql
  refine asSl_s (ite_true (by rw [← eql]; rfl) ?_)
  exact awake_of hg H
end Go.Proofs.YtnkpeojnbajooaaDoor
