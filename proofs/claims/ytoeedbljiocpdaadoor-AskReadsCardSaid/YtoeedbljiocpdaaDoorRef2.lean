/- THE DOCUMENT'S SPONGE: what each function computes. -/
import Derived.Test.YtoeedbljiocpdaaDoorSp2
namespace Go.Proofs.YtoeedbljiocpdaaDoor
open Go Go.Ev
/-- bytes into a state -/
def mixU (l : List B8) (a : List B64) (n : Nat) : List B64 := up (fun a i => flip a i (l.getD i 0)) a n
def mix (a : List B64) (l : List B8) : List B64 := mixU l a l.length
theorem length_mixU (l : List B8) (a : List B64) (n : Nat) : (mixU l a n).length = a.length := length_up _ (fun _ _ => length_flip _ _ _) _ _
theorem ref2_mix_ok (a : List B64) (ha : a.length = 25) (x : SlV) (l : List B8) (w : World) (hx : Bytes w x l) (hl : l.length ≤ 200) : Ok Pr f_ref2_mix [.agg ⟨u64s a⟩, .slice x.a x.n x.c] w fun v w' => v = .agg ⟨u64s (mix a l)⟩ ∧ Mod [] w w' := by
  refine V_ref2_mix_of ?_
  unfold V_ref2_mix
  rw [zc25]
  have hn := hx.len
  refine (Mine.start w).nw fun b0 w1 H _ => H.nw fun b1 w2 H _ => ?_
  refine loop1_up 0 l.length (fun i w' => Mine w [] w' [.blk b0 (u64s (mixU l a i)) t_25_uint64, .blk b1 (u64s z25) t_25_uint64]) rfl (by omega) H ?_ ?_
  · intro again i w3 _ hi H hag
    have hla : (mixU l a i).length = 25 := (length_mixU _ _ _).trans ha
    refine ite_true (by rw [← hn]; simpa using hi) ⟨⟨by omega, by rw [maxi64]; omega⟩, ⟨by omega, by rw [maxi64]; omega⟩, ⟨by omega, by omega⟩, ?_⟩
    refine H.drew.ld64 0 (i := i / 8) rfl (ad b0 (i / 8)) (by omega) ((hx.mod0 H.drew.mod).ld hi ⟨by omega, ⟨by omega, by omega⟩, cnt_of (by omega) ⟨⟨by omega, by omega⟩, ?_⟩⟩)
    rw [up64, show ((8 : Int) * ((i : Int) % 8)) = ((8 * (i % 8) : Nat) : Int) by omega, shl64]
    refine H.drew.st64 0 (i := i / 8) (g (mixU l a i) (i / 8) ^^^ ((l.getD i 0).setWidth 64 <<< (8 * (i % 8)))) rfl (ad b0 (i / 8)) (by omega) (xor64 _ _) fun w4 H => ⟨⟨by omega, by omega⟩, hag w4 ?_⟩
    rw [show mixU l a (i + 1) = flip (mixU l a i) i (l.getD i 0) from up_succ _ _ _]
    exact H
  · intro again w3 H
    have hla : (mix a l).length = 25 := (length_mixU _ _ _).trans ha
    refine ite_false (by rw [← hn]; simp) ?_
    refine H.ldA64 0 rfl hla ?_
    refine H.stA64 1 rfl hla rfl fun w6 H => ?_
    exact H.ldA64 1 rfl hla ⟨rfl, H.mod⟩
/-- zeros behind -/
def zpad (rate : Nat) (l : List B8) : List B8 := l ++ List.replicate ((rate - l.length % rate) % rate) 0
theorem zpad_len {rate : Nat} (hr : 0 < rate) (l : List B8) : (zpad rate l).length % rate = 0 := by
  unfold zpad
  rw [List.length_append, List.length_replicate]
  have h1 := Nat.mod_lt l.length hr
  rcases Nat.eq_zero_or_pos (l.length % rate) with h | h
  · rw [h, Nat.sub_zero, Nat.mod_self, Nat.add_zero, h]
  · rw [Nat.mod_eq_of_lt (by omega : rate - l.length % rate < rate), Nat.add_mod, Nat.mod_eq_of_lt (by omega : rate - l.length % rate < rate), show l.length % rate + (rate - l.length % rate) = rate by omega, Nat.mod_self]
theorem zpad_least {rate : Nat} (hr : 0 < rate) (n k : Nat) (hk : k ≤ (rate - n % rate) % rate) (h : (n + k) % rate = 0) : k = (rate - n % rate) % rate := by
  have h1 := Nat.mod_lt n hr
  rcases Nat.eq_zero_or_pos (n % rate) with h0 | h0
  · rw [h0, Nat.sub_zero, Nat.mod_self] at hk ⊢; omega
  · rw [Nat.mod_eq_of_lt (by omega : rate - n % rate < rate)] at hk ⊢
    rcases Nat.lt_or_ge k (rate - n % rate) with h2 | h2
    · rw [Nat.add_mod, Nat.mod_eq_of_lt (by omega : k < rate), Nat.mod_eq_of_lt (by omega : n % rate + k < rate)] at h
      omega
    · omega
/-- what goes in, as blocks -/
def padded (rate : Nat) (suf : B8) (l : List B8) : List B8 :=
  let p := zpad rate (l ++ [suf])
  p.set (p.length - 1) (p.getD (p.length - 1) 0 ^^^ 128)
def blocks (rate : Nat) (p : List B8) (a : List B64) (m : Nat) : List B64 := up (fun a j => perm (mix a ((p.drop (rate * j)).take rate))) a m
theorem length_blocks (rate : Nat) (p : List B8) (m : Nat) : (blocks rate p z25 m).length = 25 := by
  induction m with
  | zero => rfl
  | succ m ih =>
    rw [show blocks rate p z25 (m + 1) = perm (mix (blocks rate p z25 m) ((p.drop (rate * m)).take rate)) from up_succ _ _ _]
    exact length_perm _ ((length_mixU _ _ _).trans ih)
def outStep (rate : Nat) (x : List B8 × List B64) (i : Nat) : List B8 × List B64 :=
  let a := if 0 < i ∧ i % rate = 0 then perm x.2 else x.2
  (x.1 ++ [(g a (i % rate / 8) >>> (8 * (i % 8))).setWidth 8], a)
def outs (rate : Nat) (a : List B64) (n : Nat) : List B8 × List B64 := up (outStep rate) ([], a) n
theorem outs_succ (rate : Nat) (a : List B64) (n : Nat) : outs rate a (n + 1) = outStep rate (outs rate a n) n := up_succ _ _ _
theorem length_outs (rate : Nat) (a : List B64) (ha : a.length = 25) (n : Nat) : (outs rate a n).1.length = n ∧ (outs rate a n).2.length = 25 := by
  induction n with
  | zero => exact ⟨rfl, ha⟩
  | succ n ih =>
    rw [outs_succ]
    refine ⟨by simp [outStep, ih.1], ?_⟩
    simp only [outStep]
    split
    · exact length_perm _ ih.2
    · exact ih.2
def refOut (rate : Nat) (suf : B8) (l : List B8) (n : Nat) : List B8 := (outs rate (blocks rate (padded rate suf l) z25 ((padded rate suf l).length / rate)) n).1
theorem length_refOut (rate : Nat) (suf : B8) (l : List B8) (n : Nat) : (refOut rate suf l n).length = n := by
  unfold refOut
  exact (length_outs _ _ (length_blocks _ _ _) _).1
theorem length_padded (rate : Nat) (suf : B8) (l : List B8) : (padded rate suf l).length = (zpad rate (l ++ [suf])).length := by simp [padded]
theorem ref2_Out_ok (rate : Nat) (hr0 : 8 ≤ rate) (hr : rate ≤ 192) (hr8 : rate % 8 = 0) (suf : B8) (x : SlV) (l : List B8) (hl : l.length ≤ 1000000) (n : Nat) (hn : n ≤ 1048576) (w : World) (hx : Bytes w x l) :
    Ok Pr f_ref2_Out [.int .i64 (rate : Int), .int .u8 (suf.toNat : Int), .slice x.a x.n x.c, .int .i64 (n : Int)] w fun v w' => ∃ y : SlV, v = .slice y.a y.n y.c ∧ Own w' w.heap.size t_uint8 1 y (u8s (refOut rate suf l n)) ∧ Mod [] w w' := by
  refine V_ref2_Out_of ?_
  unfold V_ref2_Out
  rw [zc25, zc24]
  have hxl := hx.len
  refine call_of (ref1_Words_ok w) ?_
  rintro _ w1 ⟨rfl, m1⟩
  have H := (Mine.start w).frame m1
  refine asArr_u64s (H.nw fun b0 w2 H _ => H.stA64 0 (l := words) rfl rfl rfl fun w3 H => ?_)
  have H := H.nilrow t_uint8 1
  change Mine w [] w3 [.blk b0 (u64s words) t_24_uint64, .row t_uint8 1 ⟨none, 0, 0⟩ (u8s [])] at H
  refine H.app8 (s := ⟨none, 0, 0⟩) 1 elt_u8 rfl (hx.mod0 H.mod) (by show 0 + x.n ≤ _; omega) fun s4 w4 H hs4 => ?_
  change Mine w [] w4 [.blk b0 (u64s words) t_24_uint64, .row t_uint8 1 s4 (u8s l)] at H
  refine H.app8one 1 suf elt_u8 rfl rfl (by rw [hs4]; show 0 + x.n ≤ _; omega) fun s6 w6 H hs6 => ?_
  change Mine w [] w6 [.blk b0 (u64s words) t_24_uint64, .row t_uint8 1 s6 (u8s (l ++ [suf]))] at H
  have hK := Nat.mod_lt (rate - (l ++ [suf]).length % rate) (show 0 < rate by omega)
  refine loop1_of (fun s w' => ∃ k, k ≤ (rate - (l ++ [suf]).length % rate) % rate ∧ Mine w [] w' [.blk b0 (u64s words) t_24_uint64, .row t_uint8 1 s (u8s (l ++ [suf] ++ List.replicate k 0))]) (fun s _ => l.length + 1 + rate - s.n) ⟨0, Nat.zero_le _, by simpa using H⟩ ?_
  rintro again s w7 ⟨k, hk, H⟩ hag
  have hsn := (H.bytes 1 rfl).len
  simp only [List.length_append, List.length_replicate, List.length_cons, List.length_nil] at hsn
  refine pos_of (by omega) ⟨by omega, ite_intro (fun h0 => ?_) (fun h0 => ?_)⟩
  · have hne : ¬ s.n % rate = 0 := by
      simp only [Bool.not_eq_true', decide_eq_false_iff_not] at h0
      intro e; apply h0; rw [← Int.natCast_emod, e]; rfl
    have hlt : k < (rate - (l ++ [suf]).length % rate) % rate := by
      rcases Nat.lt_or_ge k ((rate - (l ++ [suf]).length % rate) % rate) with h | h
      · exact h
      · exfalso
        apply hne
        have e : s.n = (zpad rate (l ++ [suf])).length := by
          unfold zpad
          rw [List.length_append, List.length_replicate, ← Nat.le_antisymm hk h, List.length_append]
          exact hsn.symm
        rw [e]
        exact zpad_len (by omega) _
    refine H.app8one 1 0 elt_u8 rfl rfl (by omega) fun s' w8 H hs' => hag s' w8 ⟨k + 1, hlt, ?_⟩ (by omega)
    rw [List.replicate_succ', ← List.append_assoc]
    exact H
  · have he : s.n % rate = 0 := by
      simp only [Bool.not_eq_false', decide_eq_true_eq] at h0
      exact_mod_cast h0
    have hkk := zpad_least (show 0 < rate by omega) (l ++ [suf]).length k hk (by rw [← he, ← hsn]; simp)
    have hz : l ++ [suf] ++ List.replicate k 0 = zpad rate (l ++ [suf]) := by rw [hkk]; rfl
    rw [hz] at H
    have hzl : (zpad rate (l ++ [suf])).length = s.n := (H.bytes 1 rfl).len
    have hpl : (padded rate suf l).length = s.n := (length_padded _ _ _).trans hzl
    have esn : ((s.n : Int) - 1) = ((s.n - 1 : Nat) : Int) := by omega
    rw [esn]
    refine ⟨⟨by omega, by omega⟩, ⟨by omega, by omega⟩, (H.bytes 1 rfl).ld (by omega) ⟨⟨(H.bytes 1 rfl).some (by omega), by omega, by omega⟩, ?_⟩⟩
    refine H.st8 1 (i := s.n - 1) ((zpad rate (l ++ [suf])).getD (s.n - 1) 0 ^^^ 128) rfl (by rw [Int.toNat_natCast, Nat.mul_one]) (by omega) (xor8 _ 128) fun w10 H => ?_
    have hpd : (zpad rate (l ++ [suf])).set (s.n - 1) ((zpad rate (l ++ [suf])).getD (s.n - 1) 0 ^^^ 128) = padded rate suf l := by
      show _ = (zpad rate (l ++ [suf])).set ((zpad rate (l ++ [suf])).length - 1) ((zpad rate (l ++ [suf])).getD ((zpad rate (l ++ [suf])).length - 1) 0 ^^^ 128)
      rw [hzl]
    rw [hpd] at H
    refine H.nw fun b3 w11 H _ => ?_
    generalize hP : padded rate suf l = p at *
    change Mine w [] w11 [.blk b0 (u64s words) t_24_uint64, .row t_uint8 1 s (u8s p), .blk b3 (u64s z25) t_25_uint64] at H
    have hm : s.n = rate * (s.n / rate) := by have := Nat.div_add_mod s.n rate; omega
    refine loop1_of (fun i w' => ∃ j, j ≤ s.n / rate ∧ i = ((rate * j : Nat) : Int) ∧ Mine w [] w' [.blk b0 (u64s words) t_24_uint64, .row t_uint8 1 s (u8s p), .blk b3 (u64s (blocks rate p z25 j)) t_25_uint64]) (fun i _ => s.n - i.toNat) ⟨0, Nat.zero_le _, rfl, H⟩ ?_
    rintro again _ w12 ⟨j, hj, rfl, H⟩ hag
    have hlb := length_blocks rate p j
    rcases Nat.lt_or_ge j (s.n / rate) with hjj | hjj
    · have hle : rate * (j + 1) ≤ s.n := by rw [hm]; exact Nat.mul_le_mul_left _ hjj
      rw [Nat.mul_add, Nat.mul_one] at hle
      refine ite_true (by simp only [decide_eq_true_eq]; omega) (H.drew.ldA64 2 rfl hlb ⟨⟨by omega, by omega⟩, ?_⟩)
      refine (H.drew.bytes 1 rfl).lh (rate * j) (rate * j + rate) rfl (by omega) (by omega) hle fun z hzn hz hzw => ?_
      rw [Nat.add_sub_cancel_left] at hz
      refine H.drew.ldA64 0 rfl rfl (call_of (ref2_mix_ok _ hlb z _ _ hz (by rw [List.length_take]; omega)) ?_)
      rintro _ w13 ⟨rfl, m13⟩
      have hk13 := H.drew.kept m13 0 rfl (rfl : (⟨b0, 0, none⟩ : Addr) = _) 24
      have H := H.drew.frame m13
      have hmx : (mix (blocks rate p z25 j) ((p.drop (rate * j)).take rate)).length = 25 := (length_mixU _ _ _).trans hlb
      refine asArr_u64s ⟨hk13, call_of (ref1_With_ok _ hmx _) ?_⟩
      rintro _ w14 ⟨rfl, m14⟩
      have H := H.frame m14
      refine asArr_u64s (H.stA64 2 rfl (length_perm _ hmx) hlb fun w15 H => ⟨⟨by omega, by omega⟩, ?_⟩)
      refine hag _ w15 ⟨j + 1, hjj, by rw [Nat.mul_add, Nat.mul_one]; omega, ?_⟩ (by omega)
      rw [show blocks rate p z25 (j + 1) = perm (mix (blocks rate p z25 j) ((p.drop (rate * j)).take rate)) from up_succ _ _ _]
      exact H
    · have hje : j = s.n / rate := by omega
      subst hje
      rw [← hm]
      refine ite_false (by simp) ?_
      have H := H.nilrow t_uint8 1
      have hro : ∀ i, (outs rate (blocks rate p z25 (s.n / rate)) i).1.length = i ∧ (outs rate (blocks rate p z25 (s.n / rate)) i).2.length = 25 := length_outs rate _ hlb
      have hre : refOut rate suf l n = (outs rate (blocks rate p z25 (s.n / rate)) n).1 := by unfold refOut; rw [hP, hpl]
      generalize blocks rate p z25 (s.n / rate) = a0 at *
      refine loop2_up 0 n (fun i y w' => y.n = i ∧ Mine w [] w' [.blk b0 (u64s words) t_24_uint64, .row t_uint8 1 s (u8s p), .blk b3 (u64s (outs rate a0 i).2) t_25_uint64, .row t_uint8 1 y (u8s (outs rate a0 i).1)]) rfl (by omega) ⟨rfl, H⟩ ?_ ?_
      · rintro again i y w16 _ hi ⟨hyn, H⟩ hag
        obtain ⟨h1, h2⟩ := hro i
        refine ite_true (by simp; omega) (join0_of fun go hgo => join1_of fun go1 hgo1 => ?_)
        have emod : ((i : Int) % (rate : Int)) = ((i % rate : Nat) : Int) := by rw [Int.natCast_emod]
        have hir := Nat.mod_lt i (show 0 < rate by omega)
        have fin : ∀ w17, Mine w [] w17 [.blk b0 (u64s words) t_24_uint64, .row t_uint8 1 s (u8s p), .blk b3 (u64s (outs rate a0 (i + 1)).2) t_25_uint64, .row t_uint8 1 y (u8s (outs rate a0 i).1)] → go w17 := by
          intro w17 H
          refine hgo w17 (pos_of (by omega) ⟨by omega, ?_⟩)
          rw [emod]
          refine ⟨⟨by omega, by rw [maxi64]; omega⟩, ⟨by omega, by omega⟩, H.ld64 2 (i := i % rate / 8) rfl (ad b3 (i % rate / 8)) (by rw [(hro (i + 1)).2]; omega) ⟨by omega, ⟨by omega, by omega⟩, cnt_of (by omega) ?_⟩⟩
          rw [show ((8 : Int) * ((i : Int) % 8)) = ((8 * (i % 8) : Nat) : Int) by omega, shr64, low8]
          refine H.app8one 3 _ elt_u8 rfl rfl (by omega) fun y' w19 H hy' => ⟨⟨by omega, by omega⟩, hag y' w19 ⟨by omega, ?_⟩⟩
          have e : (outs rate a0 (i + 1)).1 = (outs rate a0 i).1 ++ [(g (outs rate a0 (i + 1)).2 (i % rate / 8) >>> (8 * (i % 8))).setWidth 8] := by rw [outs_succ]; rfl
          rw [e]
          exact H
        have yes : 0 < i ∧ i % rate = 0 → go1 true w16 := fun hc => by
          refine hgo1 true w16 (ite_true rfl (H.ldA64 2 rfl h2 (H.ldA64 0 rfl rfl (call_of (ref1_With_ok _ h2 _) ?_))))
          rintro _ w21 ⟨rfl, m21⟩
          have H := H.frame m21
          refine asArr_u64s (H.stA64 2 rfl (length_perm _ h2) h2 fun w22 H => fin w22 ?_)
          have e : (outs rate a0 (i + 1)).2 = perm (outs rate a0 i).2 := by rw [outs_succ]; simp only [outStep]; rw [if_pos hc]
          rw [e]
          exact H
        have no : ¬ (0 < i ∧ i % rate = 0) → go1 false w16 := fun hc => by
          refine hgo1 false w16 (ite_false rfl (fin w16 ?_))
          have e : (outs rate a0 (i + 1)).2 = (outs rate a0 i).2 := by rw [outs_succ]; simp only [outStep]; rw [if_neg hc]
          rw [e]
          exact H
        refine ite_intro (fun hc => ?_) (fun hc => ?_)
        · have hi0 : 0 < i := by have := of_decide_eq_true hc; omega
          refine pos_of (by omega) ⟨by omega, ?_⟩
          rw [emod]
          rcases Nat.eq_zero_or_pos (i % rate) with h0 | h0
          · rw [show decide (((i % rate : Nat) : Int) = 0) = true by rw [h0]; rfl]
            exact yes ⟨hi0, h0⟩
          · rw [show decide (((i % rate : Nat) : Int) = 0) = false by simp; omega]
            exact no (by omega)
        · exact no (by have := of_decide_eq_false hc; omega)
      · rintro again y w16 ⟨hyn, H⟩
        refine ite_false (by simp) ⟨y, rfl, ?_, H.mod⟩
        rw [hre]
        exact H.fresh0 3 rfl
end Go.Proofs.YtoeedbljiocpdaaDoor
