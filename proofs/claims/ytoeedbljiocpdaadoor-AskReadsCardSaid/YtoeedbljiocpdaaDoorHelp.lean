/- WHAT THE STATEMENTS SHARE, and the four: what each function computes. -/
import Derived.Test.YtoeedbljiocpdaaDoorSpLaw
namespace Go.Proofs.YtoeedbljiocpdaaDoor
open Go Go.Ev
/-- what comes out -/
def spOut (rate : Nat) (suf : B8) (l : List B8) (n : Int) : List B8 := if 1 ≤ n ∧ n ≤ 1048576 then refOut rate suf l n.toNat else []
theorem spOut_nat (rate : Nat) (suf : B8) (l : List B8) (n : Nat) (h : 1 ≤ n) (h2 : n ≤ 1048576) : spOut rate suf l (n : Int) = refOut rate suf l n := by
  unfold spOut
  rw [if_pos (by omega), Int.toNat_natCast]
theorem sponge_of_ok (rate : Nat) (hr : 8 ≤ rate) (hr2 : rate ≤ 192) (hr8 : rate % 8 = 0) (suf : B8) (hm : mayBe rate suf = true) (n : Int) (parts : SlV) (ls : List (List B8)) (w : World) (hp : Parts w [] parts ls)
    (hsmall : parts.n < 1000000 ∧ ∀ l ∈ ls, l.length < 1000000000) :
    Ok Pr f_sponge_of [.int .i64 (rate : Int), .int .u8 (suf.toNat : Int), .int .i64 n, .slice parts.a parts.n parts.c] w fun v w' => ∃ y : SlV, v = .slice y.a y.n y.c ∧ Own w' w.heap.size t_uint8 1 y (u8s (spOut rate suf ls.flatten n)) ∧ Mod [] w w' := by
  refine V_sponge_of_of ?_
  unfold V_sponge_of
  refine call_of (sponge_New_ok rate suf hm w) ?_
  rintro _ w1 ⟨b, rfl, h1, hb, m1⟩
  have H := (Mine.start w).gotblk m1 h1 hb
  have hp1 : Parts w1 [b] parts ls := (hp.new (T := [b]) fun c hc => .inr (by simp only [List.mem_singleton] at hc; subst hc; exact hb)).mod m1.of_nil
  refine asP_p (call_of (sponge_Write_ok hr2 (s := (z25, 0)) ⟨rfl, by show 0 < rate; omega⟩ b parts ls _ h1 hp1 hsmall) ?_)
  rintro _ w2 ⟨rfl, h2, m2⟩
  have hf : Fits rate (absorb rate (z25, 0) ls.flatten) := Fits.absorb _ ⟨rfl, by show 0 < rate; omega⟩
  have H2 := H.upd (r' := spr b _ rate _ suf false) 0 rfl m2 (fun c hc => .inl hc) h2 (fun c hc => .inl hc)
  rcases Decidable.em (1 ≤ n ∧ n ≤ 1048576) with hn | hn
  · obtain ⟨k, rfl⟩ : ∃ k : Nat, n = (k : Int) := ⟨n.toNat, by omega⟩
    refine call_of (sponge_Read_ok hr hr2 (gives := false) (s := absorb rate (z25, 0) ls.flatten) hf b k (by omega) (by omega) _ h2) ?_
    rintro _ w3 ⟨x, rfl, hx, h3, m3⟩
    have hml : Mod [] w w3 := H2.mod.trans' m3 fun c hc => .inr (by simp only [List.mem_singleton] at hc; subst hc; exact hb)
    refine asSl_s ⟨x, rfl, ?_, hml⟩
    unfold spOut
    rw [if_pos hn, Int.toNat_natCast, refOut_eq rate hr hr2 hr8]
    obtain ⟨hl, e1 | ⟨gg, cap, cur, e1, e2, e3⟩⟩ := hx
    · exact ⟨hl, .inl e1⟩
    · exact ⟨hl, .inr ⟨gg, cap, cur, e1, Nat.le_trans H2.mod.size e2, e3⟩⟩
  · refine call_of (sponge_Read_no _ n (.inr (by omega)) _) ?_
    rintro _ _ ⟨rfl, rfl⟩
    refine asSl_s (s := ⟨none, 0, 0⟩) ⟨⟨none, 0, 0⟩, rfl, ?_, H2.mod⟩
    unfold spOut
    rw [if_neg hn]
    exact Own.nil _ _ _ _

/-! ### the four, the program's and the document's -/
def Gave (w w' : World) (v : Value) (l : List B8) : Prop := ∃ y : SlV, v = .slice y.a y.n y.c ∧ Own w' w.heap.size t_uint8 1 y (u8s l) ∧ Mod [] w w'
theorem Gave.hand {w w' : World} {v : Value} {l : List B8} {K : SlV → Prop} (h : Gave w w' v l) (hk : ∀ y : SlV, Own w' w.heap.size t_uint8 1 y (u8s l) → K y) : asSl v K := by
  obtain ⟨y, rfl, h1, _⟩ := h
  exact ⟨y, rfl, hk y h1⟩
def Small (parts : SlV) (ls : List (List B8)) : Prop := parts.n < 1000000 ∧ ∀ l ∈ ls, l.length < 1000000000
theorem sponge_Shake256_ok (n : Int) (parts : SlV) (ls : List (List B8)) (w : World) (hp : Parts w [] parts ls) (hs : Small parts ls) : Ok Pr f_sponge_Shake256 [.int .i64 n, .slice parts.a parts.n parts.c] w fun v w' => Gave w w' v (spOut 136 31 ls.flatten n) := by
  refine V_sponge_Shake256_of ?_
  unfold V_sponge_Shake256
  refine call_of (sponge_of_ok 136 (by omega) (by omega) rfl 31 rfl n parts ls w hp hs) ?_
  rintro _ w1 ⟨y, rfl, h1, h2⟩
  exact asSl_s ⟨y, rfl, h1, h2⟩
def many (n : Int) : Nat := if 1 ≤ n ∧ n ≤ 1048576 then n.toNat else 0
theorem ref2_Many_ok (n : Int) (w : World) : Ok Pr f_ref2_Many [.int .i64 n] w fun v w' => v = .int .i64 (many n : Int) ∧ w' = w := by
  refine V_ref2_Many_of ?_
  unfold V_ref2_Many many
  refine ite_intro (fun h => ?_) (fun h => ?_)
  · simp only [Bool.or_eq_true, decide_eq_true_eq] at h
    rw [if_neg (by omega)]; exact ⟨rfl, rfl⟩
  · simp only [Bool.or_eq_false_iff, decide_eq_false_iff_not] at h
    rw [if_pos (by omega)]; exact ⟨by congr 1; omega, rfl⟩
theorem refOut_zero (rate : Nat) (suf : B8) (l : List B8) : refOut rate suf l 0 = [] := rfl
theorem refOut_many (rate : Nat) (suf : B8) (l : List B8) (n : Int) : refOut rate suf l (many n) = spOut rate suf l n := by
  unfold many spOut
  split
  · rfl
  · rfl
theorem many_le (n : Int) : many n ≤ 1048576 := by unfold many; split <;> omega
theorem ref2_Shake128_ok (n : Int) (x : SlV) (l : List B8) (w : World) (hx : Bytes w x l) (hl : l.length ≤ 1000000) : Ok Pr f_ref2_Shake128 [.int .i64 n, .slice x.a x.n x.c] w fun v w' => Gave w w' v (spOut 168 31 l n) := by
  refine V_ref2_Shake128_of ?_
  unfold V_ref2_Shake128
  refine call_of (ref2_Many_ok n w) ?_
  rintro _ _ ⟨rfl, rfl⟩
  refine asI_i (call_of (ref2_Out_ok 168 (by omega) (by omega) rfl 31 x l hl _ (many_le n) _ hx) ?_)
  rintro _ w1 ⟨y, rfl, h1, h2⟩
  rw [refOut_many] at h1
  exact asSl_s ⟨y, rfl, h1, h2⟩
theorem ref2_Shake256_ok (n : Int) (x : SlV) (l : List B8) (w : World) (hx : Bytes w x l) (hl : l.length ≤ 1000000) : Ok Pr f_ref2_Shake256 [.int .i64 n, .slice x.a x.n x.c] w fun v w' => Gave w w' v (spOut 136 31 l n) := by
  refine V_ref2_Shake256_of ?_
  unfold V_ref2_Shake256
  refine call_of (ref2_Many_ok n w) ?_
  rintro _ _ ⟨rfl, rfl⟩
  refine asI_i (call_of (ref2_Out_ok 136 (by omega) (by omega) rfl 31 x l hl _ (many_le n) _ hx) ?_)
  rintro _ w1 ⟨y, rfl, h1, h2⟩
  rw [refOut_many] at h1
  exact asSl_s ⟨y, rfl, h1, h2⟩
/-! ### what the statements share -/
theorem getD_ext {l m : List B8} (h : l.length = m.length) (he : ∀ i, i < l.length → l.getD i 0 = m.getD i 0) : l = m := by
  refine List.ext_getElem h fun i h1 h2 => ?_
  have := he i h1
  simpa [h1, h2] using this
theorem law0_SameBytes_ok (x y : SlV) (l m : List B8) (w : World) (hx : Bytes w x l) (hy : Bytes w y m) (hl : l.length < 1000000000000) : Ok Pr f_law0_SameBytes [.slice x.a x.n x.c, .slice y.a y.n y.c] w fun v w' => v = .bool (decide (l = m)) ∧ Mod [] w w' := by
  refine V_law0_SameBytes_of ?_
  unfold V_law0_SameBytes
  have hxl := hx.len
  have hyl := hy.len
  refine ite_intro (fun h => ?_) (fun h => ?_)
  · have : l ≠ m := fun e => by
      have : l.length = m.length := by rw [e]
      simp only [Bool.not_eq_true', decide_eq_false_iff_not] at h
      omega
    exact ⟨by rw [decide_eq_false this], Mod.refl _ _⟩
  · have hlen : l.length = m.length := by
      simp only [Bool.not_eq_false', decide_eq_true_eq] at h
      omega
    refine loop1_up 0 l.length (fun i w' => Mod [] w w' ∧ ∀ j, j < i → l.getD j 0 = m.getD j 0) rfl (by omega) ⟨Mod.refl _ _, fun j h => by omega⟩ ?_ ?_
    · rintro again i w1 _ hi ⟨hm, he⟩ hag
      have hm' := hm.trans (Mod.drew [] w1)
      refine ite_true (by rw [← hxl]; simpa using hi) ((hx.mod0 hm').ld hi ((hy.mod0 hm').ld (by omega) (ite_intro (fun h => ?_) (fun h => ?_))))
      · have : l ≠ m := fun e => by
          subst e
          simp at h
        exact ⟨by rw [decide_eq_false this], hm'⟩
      · refine ⟨⟨by omega, by omega⟩, hag _ ⟨hm', fun j hj => ?_⟩⟩
        rcases Nat.lt_or_ge j i with h1 | h1
        · exact he j h1
        · have : j = i := by omega
          subst this
          simp only [Bool.not_eq_false', decide_eq_true_eq] at h
          exact toNat_eq.1 h
    · rintro again w1 ⟨hm, he⟩
      refine ite_false (by rw [← hxl]; simp) ⟨by rw [decide_eq_true (getD_ext hlen he)], hm⟩
theorem law0_SameBytes_same (x y : SlV) (l : List B8) (w : World) (hx : Bytes w x l) (hy : Bytes w y l) (hl : l.length < 1000000000000) : Ok Pr f_law0_SameBytes [.slice x.a x.n x.c, .slice y.a y.n y.c] w fun v w' => v = .bool true ∧ Mod [] w w' := by
  refine (law0_SameBytes_ok x y l l w hx hy hl).mono ?_
  rintro _ w' ⟨rfl, m⟩
  exact ⟨by rw [decide_eq_true rfl], m⟩
def low (x n : Int) : Nat := (x % 18446744073709551616 % n).toNat
theorem low_lt {x n : Int} (h : 0 < n) : (low x n : Int) < n := by
  unfold low
  have := Int.emod_nonneg (x % 18446744073709551616) (show n ≠ 0 by omega)
  have := Int.emod_lt_of_pos (x % 18446744073709551616) h
  omega
theorem law0_Low_ok (x n : Int) (hn : 0 < n) (hn2 : n ≤ 9223372036854775807) (w : World) : Ok Pr f_law0_Low [.int .i64 x, .int .i64 n] w fun v w' => v = .int .i64 (low x n : Int) ∧ w' = w := by
  refine V_law0_Low_of ?_
  unfold V_law0_Low
  have e : IntKind.wrap .u64 n = n := by rw [wrap_u64]; omega
  rw [e, wrap_u64]
  have h1 := Int.emod_nonneg (x % 18446744073709551616) (show n ≠ 0 by omega)
  have h2 := Int.emod_lt_of_pos (x % 18446744073709551616) hn
  refine pos_of hn ⟨Int.emod_nonneg _ (by decide), ⟨by omega, by omega⟩, ?_, rfl⟩
  unfold low
  congr 1
  omega
def mark3 : List B8 := [0x77, 0x77, 0x77]
/-- a copy that is lent -/
theorem law0_LendBytes_ok (x : SlV) (l : List B8) (w : World) (hx : Bytes w x l) (hl : l.length ≤ 100000000) : Ok Pr f_law0_LendBytes [.slice x.a x.n x.c] w fun v w' => ∃ b, v = .slice (some ⟨b, 0, none⟩) l.length (l.length + 3) ∧ Blk w' b (u8s (l ++ mark3)) t_uint8 ∧ w.heap.size ≤ b ∧ Mod [] w w' := by
  refine V_law0_LendBytes_of ?_
  unfold V_law0_LendBytes
  have hxl := hx.len
  obtain ⟨xa, xn, xc⟩ := x
  obtain rfl : xn = l.length := hxl.symm
  dsimp only
  refine ⟨⟨by omega, by omega⟩, (Mine.start w).mkB (l := 0) (c := l.length + 3) elt_u8 rfl (by omega) (by omega) (by omega) (by omega) fun b w1 H hb hz => ?_⟩
  have hx1 := hx.mod0 H.mod
  have hzz : ∃ z3 : List Value, z3.length = 3 ∧ (zeroRow (l.length + 3) (zc Pr t_uint8)).take (0 * 1) ++ u8s l ++ (zeroRow (l.length + 3) (zc Pr t_uint8)).drop (0 * 1 + (u8s l).length) = u8s l ++ z3 := by
    refine ⟨(zeroRow (l.length + 3) (zc Pr t_uint8)).drop (0 * 1 + (u8s l).length), ?_, by simp⟩
    rw [List.length_drop, hz]; simp
  obtain ⟨z3, hz3, hzz⟩ := hzz
  refine H.appB (x := ⟨xa, l.length, xc⟩) (n := 0) 0 elt_u8 rfl hz (by show 0 + l.length ≤ l.length + 3; omega) hx1 (ones_u8s l) fun w2 H => ?_
  rw [hzz] at H
  dsimp only
  rw [Nat.zero_add]
  refine ⟨⟨by omega, by omega⟩, ⟨by omega, by omega, by show (l.length : Int) + 3 ≤ ((l.length + 3 : Nat) : Int); omega⟩, ?_⟩
  have hsub : sub (some ⟨b, 0, none⟩) (Int.toNat ((l.length : Nat) : Int)) (l.length + 3) 1 = some ⟨b, l.length, none⟩ := by
    unfold sub
    rw [if_neg (by rw [Int.toNat_natCast]; omega), Int.toNat_natCast]
    simp [ad1]
  rw [hsub]
  have e3 : Int.toNat ((l.length : Int) + 3) - Int.toNat ((l.length : Nat) : Int) = 3 := by omega
  rw [e3]
  obtain ⟨p, q, r, rfl⟩ : ∃ p q r, z3 = [p, q, r] := by
    match z3, hz3 with
    | [p, q, r], _ => exact ⟨p, q, r, rfl⟩
  let mk (i : Nat) : List Value := match i with | 0 => [p, q, r] | 1 => [u8 0x77, q, r] | 2 => [u8 0x77, u8 0x77, r] | _ => [u8 0x77, u8 0x77, u8 0x77]
  have hmk : ∀ i, i < 3 → (mk i).set i (u8 0x77) = mk (i + 1) ∧ (mk i).length = 3 := by
    intro i hi
    match i, hi with
    | 0, _ => exact ⟨rfl, rfl⟩
    | 1, _ => exact ⟨rfl, rfl⟩
    | 2, _ => exact ⟨rfl, rfl⟩
  refine loop1_up 0 3 (fun i w' => Mine w [] w' [.blk b (u8s l ++ mk i) t_uint8]) rfl (by omega) H ?_ ?_
  · intro again i w3 _ hi H hag
    refine ite_true (by simp; omega) ⟨⟨rfl, by omega, by show (i : Int) < 3; omega⟩, ?_⟩
    have ha : Addr.add (base (some ⟨b, l.length, none⟩)) (Int.toNat ((i : Nat) : Int) * 1) = ⟨b, l.length + i, none⟩ := by
      show Addr.add ⟨b, l.length, none⟩ _ = _
      rw [add_mk, Int.toNat_natCast, Nat.mul_one]
    refine H.st 0 (i := l.length + i) rfl ha (by rw [List.length_append, (hmk i hi).2]; simp; omega) rfl fun w4 H => ⟨⟨by omega, by omega⟩, hag w4 ?_⟩
    have e : (u8s l ++ mk i).set (l.length + i) (.int .u8 (119 : Int)) = u8s l ++ mk (i + 1) := by
      rw [List.set_append_right _ _ (by simp)]
      rw [length_u8s, Nat.add_sub_cancel_left]
      rw [← (hmk i hi).1]
      rfl
    rw [e] at H
    exact H
  · intro again w3 H
    refine ite_false (by simp) ⟨b, rfl, ?_, hb, H.mod⟩
    have h := H.blk 0 rfl
    rw [u8s_append]
    exact h
theorem law0_KeptBytes_ok (b : Nat) (y : SlV) (l : List B8) (w : World) (h : Blk w b (u8s (l ++ mark3)) t_uint8) (hy : Bytes w y l) (hl : l.length ≤ 100000000) :
    Ok Pr f_law0_KeptBytes [.slice (some ⟨b, 0, none⟩) l.length (l.length + 3), .slice y.a y.n y.c] w fun v w' => v = .bool true ∧ Mod [] w w' := by
  refine V_law0_KeptBytes_of (lent := ⟨some ⟨b, 0, none⟩, l.length, l.length + 3⟩) ?_
  unfold V_law0_KeptBytes
  refine ⟨⟨by show -9223372036854775808 ≤ (l.length : Int) + 3; omega, by show (l.length : Int) + 3 ≤ 9223372036854775807; omega⟩, ⟨by show 0 ≤ (l.length : Int); omega, by show (l.length : Int) ≤ (l.length : Int) + 3; omega, by show (l.length : Int) + 3 ≤ ((l.length + 3 : Nat) : Int); omega⟩, ?_⟩
  have hsub : sub (some ⟨b, 0, none⟩) (Int.toNat ((l.length : Nat) : Int)) (l.length + 3) 1 = some ⟨b, l.length, none⟩ := by
    unfold sub
    rw [if_neg (by rw [Int.toNat_natCast]; omega), Int.toNat_natCast]
    simp [ad1]
  dsimp only
  rw [hsub]
  have e3 : Int.toNat ((l.length : Int) + 3) - Int.toNat ((l.length : Nat) : Int) = 3 := by omega
  rw [e3]
  refine loop1_up 0 3 (fun i w' => Mod [] w w') rfl (by omega) (Mod.refl _ _) ?_ ?_
  · intro again i w3 _ hi hm hag
    refine ite_true (by simp; omega) ⟨⟨rfl, by omega, by show (i : Int) < 3; omega⟩, (119 : Int), ?_, ite_false (by simp) ⟨⟨by omega, by omega⟩, hag w3 hm⟩⟩
    show w3.cell? (Addr.add ⟨b, l.length, none⟩ _) = _
    rw [add_mk, Int.toNat_natCast, Nat.mul_one, (h.mod0 hm).cell, u8s_append, List.getElem?_append_right (by simp), length_u8s, Nat.add_sub_cancel_left]
    match i, hi with
    | 0, _ => rfl
    | 1, _ => rfl
    | 2, _ => rfl
  · intro again w3 hm
    have hb : Bytes w3 ⟨some ⟨b, 0, none⟩, l.length, l.length + 3⟩ l := by
      have := (h.mod0 hm).sl 1 l.length (l.length + 3) (by simp) (by omega)
      rw [Nat.mul_one, u8s_append, List.take_append_of_le_length (by simp), List.take_of_length_le (by simp)] at this
      exact this
    refine ite_false (by simp) (call_of (law0_SameBytes_ok ⟨some ⟨b, 0, none⟩, l.length, l.length + 3⟩ y l l _ hb (hy.mod0 hm) (by omega)) ?_)
    rintro _ w4 ⟨rfl, m⟩
    exact asB_b ⟨by rw [decide_eq_true rfl], hm.trans m⟩
/-- what was handed out is written over -/
theorem law0_OverBytes_ok (x : SlV) (l : List B8) (w : World) (hx : Own w 0 t_uint8 1 x (u8s l)) (hl : l.length ≤ 100000000) : Ok Pr f_law0_OverBytes [.slice x.a x.n x.c] w fun v w' => v = .tuple ⟨[]⟩ ∧ Mod x.row w w' := by
  refine V_law0_OverBytes_of ?_
  unfold V_law0_OverBytes
  have H := Mine.start1 (r := .row t_uint8 1 x (u8s l)) hx
  have hxl := hx.bytes.len
  refine loop1_up 0 l.length (fun i w' => ∃ m : List B8, m.length = l.length ∧ Mine w x.row w' [.row t_uint8 1 x (u8s m)]) rfl (by omega) ⟨l, rfl, H⟩ ?_ ?_
  · rintro again i w1 _ hi ⟨m, hm, H⟩ hag
    refine ite_true (by rw [← hxl]; simpa using hi) ⟨⟨(H.bytes 0 rfl).some (by omega), by omega, by omega⟩, ?_⟩
    refine H.st8 0 (i := i) 0xEE rfl (by rw [Int.toNat_natCast, Nat.mul_one]) (by omega) rfl fun w2 H => ⟨⟨by omega, by omega⟩, hag w2 ⟨m.set i 0xEE, by simp [hm], H⟩⟩
  · rintro again w1 ⟨m, hm, H⟩
    refine ite_false (by rw [← hxl]; simp) ?_
    refine H.app8one 0 0xEE elt_u8 rfl rfl (by omega) fun s' w2 H _ => ?_
    exact ⟨rfl, H.mod⟩
end Go.Proofs.YtoeedbljiocpdaaDoor
