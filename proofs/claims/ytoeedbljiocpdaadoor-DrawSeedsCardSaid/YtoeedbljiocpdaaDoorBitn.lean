/- NUMBERS OUT OF BYTES: what bits.Low, bits.Unpack, and the document's Bit compute. -/
import Derived.Test.YtoeedbljiocpdaaDoorNums
import Derived.Test.YtoeedbljiocpdaaDoorVC
namespace Go.Proofs.YtoeedbljiocpdaaDoor
open Go Go.Ev
theorem elt_i64 : Elt Pr t_s_int t_int 1 8 := Elt.of (by kernel_rfl)
theorem zc_i64 : zc Pr t_int = [.int .i64 0] := by kernel_rfl
theorem bits_Low_ok (d x : Nat) (hd : d ≤ 62) (hx : x < 9223372036854775808) (w : World) : Ok Pr f_bits_Low [.int .i64 (d : Int), .int .i64 (x : Int)] w fun v w' => v = .int .i64 ((x % 2 ^ d : Nat) : Int) ∧ w' = w := by
  refine V_bits_Low_of ?_
  unfold V_bits_Low
  have h2 : 2 ^ d ≤ 2 ^ 62 := Nat.pow_le_pow_right (by decide) hd
  have h1 : 0 < 2 ^ d := Nat.pow_pos (by decide)
  have e : shl .i64 (1 : Int) (d : Int) = ((2 ^ d : Nat) : Int) := by
    have := shlN (a := 1) (k := d) (by omega) (by omega)
    rw [Nat.one_mul] at this
    exact this
  rw [e, show (((2 ^ d : Nat) : Int) - 1) = ((2 ^ d - 1 : Nat) : Int) by omega]
  refine ite_false (by simp; omega) (cnt_of (by omega) ⟨⟨by omega, by omega⟩, ?_, rfl⟩)
  rw [andN hx (by omega), and_low]
theorem bits_Unpack_ok (d : Nat) (hd1 : 1 ≤ d) (hd : d ≤ 24) (x : SlV) (l : List B8) (hl : l.length ≤ 1000000) (w : World) (hx : Bytes w x l) :
    Ok Pr f_bits_Unpack [.int .i64 (d : Int), .slice x.a x.n x.c] w fun v w' => ∃ y : SlV, v = .slice y.a y.n y.c ∧ Own w' w.heap.size t_int 1 y (i64s (unpack d l)) ∧ Mod [] w w' := by
  refine V_bits_Unpack_of ?_
  unfold V_bits_Unpack
  have hxl := hx.len
  refine ite_false (by simp; omega) ?_
  have p32 : ∀ n, n ≤ 32 → 2 ^ n ≤ 4294967296 := fun n hn => by
    have := Nat.pow_le_pow_right (n := 2) (by decide) hn
    exact this
  let f (m : Nat) : List Int := (List.range m).map fun i => ((ptk (num l) d i : Nat) : Int)
  refine loop4_up 0 l.length (fun k (out : SlV) (held n : Int) w' => ∃ m : Nat, d * m ≤ 8 * k ∧ 8 * k < d * (m + 1) ∧ n = ((8 * k - d * m : Nat) : Int) ∧ held = ((num (l.take k) / 2 ^ (d * m) : Nat) : Int) ∧ out.n = m ∧ Mine w [] w' [.row t_int 1 out (i64s (f m))]) rfl (by omega)
    ⟨0, by omega, by omega, by simp, by simp [num], rfl, (Mine.start w).nilrow t_int 1⟩ ?_ ?_
  · rintro again k out held n w1 _ hk ⟨m, hm1, hm2, rfl, rfl, hon, H⟩ hag
    have hmd : m ≤ d * m := Nat.le_mul_of_pos_left m (by omega)
    have hmd2 : d * (m + 1) = d * m + d := Nat.mul_succ d m
    have hb := (l.getD k 0).isLt
    have hN := num_lt (l.take k)
    rw [List.length_take, Nat.min_eq_left (by omega)] at hN
    refine ite_true (by simp; omega) ((hx.mod0 H.mod).ld hk ⟨⟨by omega, by omega⟩, cnt_of (by omega) ?_⟩)
    have hlow : num (l.take k) / 2 ^ (d * m) < 2 ^ (8 * k - d * m) := by
      rw [Nat.div_lt_iff_lt_mul (Nat.pow_pos (by decide)), ← Nat.pow_add, Nat.sub_add_cancel hm1]
      exact hN
    have hp := p32 (8 * k - d * m) (by omega)
    have hx2 : (l.getD k 0).toNat * 2 ^ (8 * k - d * m) < 4294967296 := by
      have h1 : 2 ^ (8 + (8 * k - d * m)) ≤ 4294967296 := p32 _ (by omega)
      rw [Nat.pow_add] at h1
      have h2 : (l.getD k 0).toNat * 2 ^ (8 * k - d * m) < 2 ^ 8 * 2 ^ (8 * k - d * m) := Nat.mul_lt_mul_of_pos_right hb (Nat.pow_pos (by decide))
      omega
    rw [shlN (by omega) (by omega), orN (by omega) (by omega), or_high hlow]
    have eh : num (l.take k) / 2 ^ (d * m) + (l.getD k 0).toNat * 2 ^ (8 * k - d * m) = num (l.take (k + 1)) / 2 ^ (d * m) := by
      rw [num_take_succ l k hk, show 8 * k = d * m + (8 * k - d * m) by omega, Nat.pow_add, Nat.mul_assoc, Nat.add_mul_div_left _ _ (Nat.pow_pos (by decide)), Nat.add_sub_cancel_left, Nat.mul_comm (2 ^ (8 * k - d * m))]
    rw [eh]
    unfold lt
    refine ⟨⟨by omega, by omega⟩, ?_⟩
    refine loop3_of (fun (out : SlV) (held n : Int) w' => ∃ m : Nat, d * m ≤ 8 * (k + 1) ∧ n = ((8 * (k + 1) - d * m : Nat) : Int) ∧ n ≤ 40 ∧ held = ((num (l.take (k + 1)) / 2 ^ (d * m) : Nat) : Int) ∧ out.n = m ∧ Mine w [] w' [.row t_int 1 out (i64s (f m))])
      (fun _ _ n _ => n.toNat) ⟨m, by omega, by omega, by omega, rfl, hon, H⟩ ?_
    rintro again1 out held n w2 ⟨m, hm1, rfl, hn40, rfl, hon, H⟩ hag1
    have hmd : m ≤ d * m := Nat.le_mul_of_pos_left m (by omega)
    have hmd2 : d * (m + 1) = d * m + d := Nat.mul_succ d m
    refine ite_intro (fun h => ?_) (fun h => ?_)
    · have h := of_decide_eq_true h
      have hN := num_lt (l.take (k + 1))
      rw [List.length_take, Nat.min_eq_left (by omega)] at hN
      have hlow : num (l.take (k + 1)) / 2 ^ (d * m) < 2 ^ (8 * (k + 1) - d * m) := by
        rw [Nat.div_lt_iff_lt_mul (Nat.pow_pos (by decide)), ← Nat.pow_add, Nat.sub_add_cancel hm1]
        exact hN
      have hp : 2 ^ (8 * (k + 1) - d * m) ≤ 2 ^ 40 := Nat.pow_le_pow_right (by decide) (by omega)
      refine call_of (bits_Low_ok d _ (by omega) (by omega) _) ?_
      rintro _ _ ⟨rfl, rfl⟩
      refine asI_i (H.appN1 0 elt_i64 rfl (by omega) fun out' w3 H hon' => cnt_of (by omega) ⟨⟨by omega, by omega⟩, ?_⟩)
      rw [shrN (by omega)]
      refine hag1 _ _ _ w3 ⟨m + 1, by omega, by omega, by omega, ?_, by omega, ?_⟩ (by omega)
      · rw [Nat.div_div_eq_div_mul, ← Nat.pow_add, hmd2]
      · have e : f (m + 1) = f m ++ [((ptk (num l) d m : Nat) : Int)] := by simp [f, List.range_succ]
        rw [e]
        have e2 : num (l.take (k + 1)) / 2 ^ (d * m) % 2 ^ d = ptk (num l) d m := ptk_take l (k + 1) d m (by omega) (by omega)
        rw [e2] at H
        exact H
    · have h := of_decide_eq_false h
      refine ⟨⟨by omega, by omega⟩, hag _ _ _ w2 ⟨m, by omega, by omega, rfl, rfl, hon, H⟩⟩
  · rintro again out held n w1 ⟨m, hm1, hm2, rfl, rfl, hon, H⟩
    refine ite_false (by rw [hxl]; simp) ⟨out, rfl, ?_, H.mod⟩
    have : 8 * l.length / d = m := by
      rw [Nat.div_eq_iff (by omega)]
      have : d * (m + 1) = d * m + d := Nat.mul_succ d m
      rw [Nat.mul_comm m d]
      omega
    unfold unpack
    rw [this]
    exact H.fresh0 0 rfl
def bit (l : List B8) (k : Nat) : Nat := ptk (num l) 1 k
theorem bit_le (l : List B8) (k : Nat) : bit l k ≤ 1 := by have := ptk_lt (num l) 1 k; unfold bit; omega
theorem bit_byte (l : List B8) (k : Nat) (h : k / 8 < l.length) : (l.getD (k / 8) 0).toNat / 2 ^ (k % 8) % 2 = bit l k := by
  unfold bit ptk
  rw [num_take l (k / 8) (by omega), List.drop_eq_getElem_cons h]
  simp only [num, Nat.one_mul]
  have hg : l.getD (k / 8) 0 = l[k / 8] := by simp [h]
  have e2 : 2 ^ k = 2 ^ (8 * (k / 8)) * 2 ^ (k % 8) := by rw [← Nat.pow_add]; congr 1; omega
  rw [hg, e2, ← Nat.div_div_eq_div_mul]
  have hN := num_lt (l.take (k / 8))
  rw [List.length_take, Nat.min_eq_left (by omega)] at hN
  rw [Nat.add_mul_div_left _ _ (Nat.pow_pos (by decide)), Nat.div_eq_of_lt hN, Nat.zero_add]
  have := low_of l[k / 8].toNat (num (l.drop (k / 8 + 1))) 8 (k % 8) 1 (by omega)
  rw [show (2 : Nat) ^ 8 = 256 from rfl] at this
  rw [this]
theorem ref5_Bit_ok (x : SlV) (l : List B8) (k : Nat) (hk : k / 8 < l.length) (hk2 : k ≤ 1000000000) (w : World) (hx : Bytes w x l) : Ok Pr f_ref5_Bit [.slice x.a x.n x.c, .int .i64 (k : Int)] w fun v w' => v = .int .i64 (bit l k : Int) ∧ w' = w := by
  refine V_ref5_Bit_of ?_
  unfold V_ref5_Bit
  rw [show ((k : Int) / 8) = ((k / 8 : Nat) : Int) by omega, show ((k : Int) % 8) = ((k % 8 : Nat) : Int) by omega]
  have hb := (l.getD (k / 8) 0).isLt
  refine ⟨⟨by omega, by rw [show IntKind.max .i64 = 9223372036854775807 by decide]; omega⟩, hx.ld hk ⟨⟨by omega, by omega⟩, by omega, cnt_of (by omega) ⟨?_, rfl⟩⟩⟩
  have hsh : (l.getD (k / 8) 0).toNat / 2 ^ (k % 8) ≤ (l.getD (k / 8) 0).toNat := Nat.div_le_self _ _
  rw [shrN (by omega)]
  have := andN (a := (l.getD (k / 8) 0).toNat / 2 ^ (k % 8)) (b := 1) (by omega) (by omega)
  rw [show ((1 : Nat) : Int) = 1 from rfl] at this
  rw [this, ← bit_byte l k hk, show (1 : Nat) = 2 ^ 1 - 1 from rfl, and_low]
end Go.Proofs.YtoeedbljiocpdaaDoor
